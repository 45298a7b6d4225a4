import Derived.Test.YtidlifijgooceaaGreatG06
import Derived.Deep.LoopGhost
set_option linter.unusedVariables false

/- Plain: what is needed from points on, as a least set. No program in sight. -/
namespace Go.Proofs.YtidlifijgooceaaGreat

/-- v is used from point i on, before it is set -/
inductive Nd (ts : List Int) (pts : List Pt) : Nat → Nat → Prop
  | use {i v : Nat} {p : Pt} (hp : pts[i]? = some p) (hv : v < ts.length) (h : useP ts p.op p.x p.y (v : Nat) ≠ 0) : Nd ts pts i v
  | flow {i k v : Nat} {p : Pt} (hp : pts[i]? = some p) (hk : k ∈ p.next) (hn : Nd ts pts k v) (h : setsP p.op p.x ≠ (v : Nat)) : Nd ts pts i v
theorem Nd.lt {ts : List Int} {pts : List Pt} {i v : Nat} (h : Nd ts pts i v) : v < ts.length := by
  induction h with
  | use _ hv _ => exact hv
  | flow _ _ _ _ ih => exact ih
theorem Nd.here {ts : List Int} {pts : List Pt} {i v : Nat} (h : Nd ts pts i v) : i < pts.length := by
  have h' : ∀ {p : Pt}, pts[i]? = some p → i < pts.length := fun hp => by
    rcases Nat.lt_or_ge i pts.length with h | h
    · exact h
    · rw [List.getElem?_eq_none h] at hp; cases hp
  cases h with
  | use hp _ _ => exact h' hp
  | flow hp _ _ _ => exact h' hp
noncomputable def ndM (ts : List Int) (pts : List Pt) (i : Nat) : Nat := bm ts.length fun v => dec (Nd ts pts i v)
noncomputable def ndL (ts : List Int) (pts : List Pt) : List Nat := (List.range pts.length).map (ndM ts pts)
/-- one step back -/
def backP (ts : List Int) (p : Pt) (ms : List Nat) : Nat := usedP ts p.op p.x p.y ||| andn (orL ms p.next) (setBitP p.op p.x)
theorem setBit_bit (op x : Int) (v : Nat) : (setBitP op x).testBit v = decide (setsP op x = (v : Nat)) := by
  unfold setBitP
  split
  · rename_i h
    rw [Nat.testBit_two_pow, Bool.eq_iff_iff]; simp; omega
  · rename_i h
    rw [Nat.zero_testBit, eq_comm, decide_eq_false_iff_not]; omega
theorem back_bit (ts : List Int) (p : Pt) (ms : List Nat) (v : Nat) (hv : v < ts.length) (h6 : ts.length ≤ 6) :
    (backP ts p ms).testBit v = ((useP ts p.op p.x p.y (v : Nat) != 0) || ((p.next.any fun k => (ms.getD k 0).testBit v) && decide (setsP p.op p.x ≠ (v : Nat)))) := by
  rw [backP, Nat.testBit_or, andn_bit _ _ _ (by omega), orL_bit, setBit_bit, usedP, bm_bit, decide_eq_true hv, Bool.true_and]
  simp
structure NdI (ts : List Int) (pts : List Pt) (ms : List Nat) : Prop where
  len : ms.length = pts.length
  small : ∀ m ∈ ms, m < 2 ^ ts.length
  sound : ∀ i v, i < ms.length → v < ts.length → (ms.getD i 0).testBit v = true → Nd ts pts i v
  pre : ∀ i v p, pts[i]? = some p → v < ts.length → (ms.getD i 0).testBit v = true → (backP ts p ms).testBit v = true
def muN (ms : List Nat) : Nat := (ms.map fun m => 63 - m).sum
theorem back_lt {ts : List Int} {p : Pt} {ms : List Nat} (h6 : ts.length ≤ 6) (hs : ∀ m ∈ ms, m < 2 ^ ts.length) : backP ts p ms < 2 ^ ts.length := by
  have hg : ∀ k, ms.getD k 0 < 2 ^ ts.length := fun k => by
    by_cases hk : k < ms.length
    · rw [getD_lt hk]; exact hs _ (List.getElem_mem hk)
    · rw [getD_ge (by omega)]; exact Nat.two_pow_pos _
  refine Nat.or_lt_two_pow (bm_lt _ _) (Nat.lt_pow_two_of_testBit _ fun j hj => ?_)
  by_cases hj6 : j < 6
  · rw [andn_bit _ _ _ hj6, orL_bit]
    have : (p.next.any fun k => (ms.getD k 0).testBit j) = false := by
      rw [List.any_eq_false]
      intro k _
      rw [Nat.testBit_lt_two_pow (Nat.lt_of_lt_of_le (hg k) (Nat.pow_le_pow_right (n := 2) (by omega) hj))]; simp
    rw [this]; rfl
  · exact Nat.testBit_lt_two_pow (Nat.lt_of_lt_of_le (andn_lt _ _) (show 64 ≤ 2 ^ j from Nat.pow_le_pow_right (n := 2) (by omega) (show 6 ≤ j by omega)))
theorem NdI.init (ts : List Int) (pts : List Pt) : NdI ts pts (List.replicate pts.length 0) := by
  have h0 : ∀ i v, ((List.replicate pts.length 0).getD i 0).testBit v = false := fun i v => by
    by_cases h : i < pts.length
    · rw [getD_lt (by simpa using h)]; simp
    · rw [getD_ge (by simp; omega)]; simp
  refine ⟨by simp, ?_, ?_, ?_⟩
  · intro m hm
    rw [(List.mem_replicate.1 hm).2]; exact Nat.two_pow_pos _
  · intro i v _ _ h
    rw [h0] at h; cases h
  · intro i v p _ _ h
    rw [h0] at h; cases h
theorem le_of_bits {a b n : Nat} (ha : a < 2 ^ n) (h : ∀ v, v < n → a.testBit v = true → b.testBit v = true) : a ||| b = b := by
  apply Nat.eq_of_testBit_eq
  intro v
  rw [Nat.testBit_or]
  by_cases hv : v < n
  · cases e : a.testBit v
    · simp
    · simp [h v hv e]
  · rw [Nat.testBit_lt_two_pow (Nat.lt_of_lt_of_le ha (Nat.pow_le_pow_right (n := 2) (by omega) (by omega)))]; simp
theorem NdI.upd {ts : List Int} {pts : List Pt} {i : Nat} {p : Pt} {ms : List Nat} (h : NdI ts pts ms) (h6 : ts.length ≤ 6) (hp : pts[i]? = some p) (hi : i < ms.length) :
    NdI ts pts (ms.set i (backP ts p ms)) ∧ (backP ts p ms ≠ ms.getD i 0 → muN (ms.set i (backP ts p ms)) < muN ms) := by
  have hle : ∀ k v, v < ts.length → (ms.getD k 0).testBit v = true → ((ms.set i (backP ts p ms)).getD k 0).testBit v = true := by
    intro k v hv hb
    rw [getD_set hi]
    split
    · rename_i e; subst e; exact h.pre _ v p hp hv hb
    · exact hb
  have hbm : ∀ (q : Pt) v, v < ts.length → (backP ts q ms).testBit v = true → (backP ts q (ms.set i (backP ts p ms))).testBit v = true := by
    intro q v hv hb
    rw [back_bit _ _ _ _ hv h6, Bool.or_eq_true, Bool.and_eq_true] at hb ⊢
    refine hb.imp id fun hb => ⟨?_, hb.2⟩
    obtain ⟨k, hk, hkb⟩ := List.any_eq_true.1 hb.1
    exact List.any_eq_true.2 ⟨k, hk, hle k v hv hkb⟩
  refine ⟨⟨by simp [h.len], ?_, ?_, ?_⟩, ?_⟩
  · intro m hm
    rcases List.mem_or_eq_of_mem_set hm with hm | rfl
    · exact h.small m hm
    · exact back_lt h6 h.small
  · intro k v hk hv hb
    rw [getD_set hi] at hb
    split at hb
    · rename_i e
      subst e
      rw [back_bit _ _ _ _ hv h6, Bool.or_eq_true, Bool.and_eq_true] at hb
      rcases hb with hb | ⟨hb, hs⟩
      · exact .use hp hv (by simpa using hb)
      · obtain ⟨j, hj, hjb⟩ := List.any_eq_true.1 hb
        have hjl : j < ms.length := by
          rcases Nat.lt_or_ge j ms.length with h | h
          · exact h
          · rw [getD_ge h] at hjb; simp at hjb
        exact .flow hp hj (h.sound j v hjl hv hjb) (by simpa using hs)
    · exact h.sound k v (by simpa using hk) hv hb
  · intro k v q hq hv hb
    rw [getD_set hi] at hb
    split at hb
    · rename_i e
      subst e
      rw [hp] at hq; injection hq with hq; subst hq
      exact hbm _ v hv hb
    · exact hbm q v hv (h.pre k v q hq hv hb)
  · intro hne
    refine sum_set_lt (f := fun m => 63 - m) hi ?_
    rw [getD_lt hi] at hne
    have hsm := h.small _ (List.getElem_mem hi)
    have hor := le_of_bits (a := ms[i]) (b := backP ts p ms) hsm (fun v hv hb => h.pre i v p hp hv (by rw [getD_lt hi]; exact hb))
    have h1 := Nat.left_le_or (n := ms[i]) (m := backP ts p ms)
    rw [hor] at h1
    have h2 := back_lt (p := p) h6 h.small
    have h3 : 2 ^ ts.length ≤ 64 := Nat.pow_le_pow_right (n := 2) (by omega) h6
    show 63 - backP ts p ms < 63 - ms[i]
    omega
theorem NdI.done {ts : List Int} {pts : List Pt} {ms : List Nat} (h : NdI ts pts ms) (h6 : ts.length ≤ 6) (hn : ∀ p ∈ pts, ∀ k ∈ p.next, k < pts.length) (hc : ∀ i p, pts[i]? = some p → backP ts p ms = ms.getD i 0) : ms = ndL ts pts := by
  have hac : ∀ i v, Nd ts pts i v → (ms.getD i 0).testBit v = true := by
    intro i v hd
    induction hd with
    | use hp hv h1 => rw [← hc _ _ hp, back_bit _ _ _ _ hv h6]; simp [h1]
    | flow hp hk hd h1 ih =>
      rw [← hc _ _ hp, back_bit _ _ _ _ hd.lt h6, Bool.or_eq_true, Bool.and_eq_true]
      exact .inr ⟨List.any_eq_true.2 ⟨_, hk, ih⟩, by simpa using h1⟩
  apply List.ext_getElem
  · simp [ndL, h.len]
  · intro i hi hi'
    simp only [ndL, List.getElem_map, List.getElem_range]
    apply Nat.eq_of_testBit_eq
    intro v
    rw [ndM, bm_bit]
    by_cases hv : v < ts.length
    · rw [decide_eq_true hv, Bool.true_and, Bool.eq_iff_iff, dec_iff]
      constructor
      · intro hb; exact h.sound i v hi hv (by rw [getD_lt hi]; exact hb)
      · intro hd; have := hac i v hd; rwa [getD_lt hi] at this
    · rw [Nat.testBit_lt_two_pow (Nat.lt_of_lt_of_le (h.small _ (List.getElem_mem hi)) (Nat.pow_le_pow_right (n := 2) (by omega) (by omega)))]
      simp [hv]

end Go.Proofs.YtidlifijgooceaaGreat

namespace Go.Proofs.YtidlifijgooceaaGreat
open Go.RowKit

/-- block g is just these cells -/
def RowB (w : World) (g : Nat) (t : TypeId) (l : List Value) : Prop := w.heap[g]? = some (.cells l.toArray t (0, 0))
theorem RowB.lt {w : World} {g : Nat} {t : TypeId} {l : List Value} (h : RowB w g t l) : g < w.heap.size := by
  rcases Nat.lt_or_ge g w.heap.size with hlt | hge
  · exact hlt
  · unfold RowB at h; rw [Array.getElem?_eq_none hge] at h; cases h
theorem RowB.cell {w : World} {g : Nat} {t : TypeId} {l : List Value} (h : RowB w g t l) (i : Nat) : w.cell? ⟨g, i, none⟩ = l[i]? := by
  rw [cell_of_row w g i _ t (0, 0) h]; simp
theorem RowB.frozen {w : World} {g : Nat} {t : TypeId} {l : List Value} (h : RowB w g t l) (i : Nat) : w.frozen? ⟨g, i, none⟩ = false := frozen_of_row w g i _ t h
theorem RowB.low {w w' : World} {g B : Nat} {t : TypeId} {l : List Value} (h : RowB w g t l) (hb : Below B w w') (hg : g < B) : RowB w' g t l := (hb.block g hg).trans h
theorem RowB.alloc {w : World} {g : Nat} {t : TypeId} {l : List Value} (h : RowB w g t l) (o : Obj) : RowB (w.alloc o) g t l := h.low (bel_a w o) h.lt
theorem RowB.set_ {w : World} {g : Nat} {t : TypeId} {l : List Value} (h : RowB w g t l) (i : Nat) (u : Value) : RowB (w.setCell ⟨g, i, none⟩ u) g t (l.set i u) := by
  have := heap_setCell_same w g i _ t u h
  unfold RowB
  rw [this]; simp
theorem RowB.other {w : World} {g g' : Nat} {t : TypeId} {l : List Value} (h : RowB w g t l) (hne : g ≠ g') (i : Nat) (u : Value) : RowB (w.setCell ⟨g', i, none⟩ u) g t l := (heap_setCell_other w ⟨g', i, none⟩ g u hne).trans h
theorem RowB.new (w : World) (l : List Value) (t : TypeId) : RowB (w.alloc (.cells l.toArray t)) w.heap.size t l := heap_alloc_new w _

/-- ints in such a block, for a walk -/
def iv (ms : List Nat) : List Value := ms.map fun m => .int .i64 (m : Nat)
theorem iv_len (ms : List Nat) : (iv ms).length = ms.length := by simp [iv]
theorem iv_get {ms : List Nat} {k : Nat} (hk : k < ms.length) : (iv ms)[k]? = some (.int .i64 (ms.getD k 0 : Nat)) := by
  rw [List.getElem?_eq_getElem (by rw [iv_len]; exact hk), getD_lt hk]; simp [iv]
theorem iv_set (ms : List Nat) (k m : Nat) : (iv ms).set k (.int .i64 (m : Nat)) = iv (ms.set k m) := by simp [iv, List.map_set]
theorem RowB.ints {w : World} {g : Nat} {t : TypeId} {ms : List Nat} (h : RowB w g t (iv ms)) (hl : ms.length ≤ 4194304) {c : Nat} (hc : ms.length ≤ c) : IntS w w.heap.size (.slice (some ⟨g, 0, none⟩) ms.length c) (msk ms) := by
  refine ⟨_, c, by rw [msk_len], by rw [msk_len]; exact hc, by rw [msk_len]; exact hl, by simp, fun hn => ⟨g, 0, rfl, h.lt, fun j u hu => ?_⟩⟩
  rw [Nat.zero_add, h.cell]
  simpa [iv, msk] using hu
/-- make([]int, n) -/
theorem make_ints (n : Nat) (hn : n ≤ 8388608) (W : World) : (Instr.makeSlice 23 (.int .i64 (n : Int)) (.int .i64 (n : Int))).run Tryz.prog W = .ok (.slice (some ⟨W.heap.size, 0, none⟩) n n) (W.alloc (.cells (iv (List.replicate n 0)).toArray 3)) := by
  obtain ⟨i0, hi0, hz0, hz1, hz2⟩ := info_parts Tryz.infoInt
  have h := run_make (P := Tryz.prog) W 23 3 i0 _ Tryz.underlying23 hi0 hz0 .i64 .i64 (n : Int) (n : Int) (by omega) (by omega) (by rw [hz2]; omega) (by omega)
  simp only [Int.toNat_natCast] at h
  rw [h]
  have e : madeCells (Value.cells (.int .i64 0)) (n * i0.size) = (iv (List.replicate n 0)).toArray := by
    have := toList_madeCells_one (.int .i64 0) (n * i0.size)
    rw [hz1, Nat.mul_one] at this ⊢
    apply Array.toList_inj.1
    show (madeCells #[.int .i64 0] n).toList = _
    rw [this]
    simp [iv]
  rw [e]

end Go.Proofs.YtidlifijgooceaaGreat

/- Plain: what a valid program's points are like; what the exported functions answer. No program in sight. -/
namespace Go.Proofs.YtidlifijgooceaaGreat

def PtOk (ts : List Int) (p : Pt) : Prop := p.op = 9 ∨ p.op = 10 ∨ p.op = 11 ∨ simpleP ts p.op p.x p.y p.n = true
mutual
theorem ptsSt_ok (ts : List Int) (at_ d : Nat) : ∀ s : St, stOk ts d s = true → ∀ p ∈ ptsSt at_ s, PtOk ts p
  | .mk op x y n th el => by
    have h1 := fun a d => ptsL_ok ts a d th
    have h2 := fun a d => ptsL_ok ts a d el
    intro hs p hp
    simp only [stOk] at hs
    simp only [ptsSt] at hp
    split at hp
    · rename_i ho
      rw [if_pos (by simp [isBranchP, ho])] at hs
      simp only [Bool.and_eq_true] at hs
      simp only [List.mem_cons, List.mem_append] at hp
      rcases hp with rfl | hp | rfl | hp
      · exact .inl rfl
      · exact h1 _ _ hs.1.2 p hp
      · exact .inr (.inl rfl)
      · exact h2 _ _ hs.2 p hp
    · split at hp
      · rename_i ho2
        rw [if_pos (by simp [isBranchP, ho2])] at hs
        simp only [Bool.and_eq_true] at hs
        simp only [List.mem_cons, List.mem_append, List.not_mem_nil, or_false] at hp
        rcases hp with rfl | hp | rfl
        · exact .inr (.inl rfl)
        · exact h1 _ _ hs.1.2 p hp
        · exact .inr (.inl rfl)
      · rename_i ho1 ho2
        rw [if_neg (by simp [isBranchP, ho1, ho2])] at hs
        simp only [Bool.and_eq_true] at hs
        simp only [List.mem_singleton] at hp
        subst hp
        exact .inr (.inr (.inr hs.2))
theorem ptsL_ok (ts : List Int) (at_ d : Nat) : ∀ l : List St, slOk ts d l = true → ∀ p ∈ ptsL at_ l, PtOk ts p
  | [] => by simp [ptsL]
  | s :: r => by
    have h1 := ptsSt_ok ts at_ d s
    have h2 := ptsL_ok ts (at_ + (ptsSt at_ s).length) d r
    intro hs p hp
    simp only [slOk, Bool.and_eq_true] at hs
    simp only [ptsL, List.mem_append] at hp
    rcases hp with hp | hp
    · exact h1 hs.1 p hp
    · exact h2 hs.2 p hp
end
theorem valid_parts {ts : List Int} {l : List St} (h : validP ts l = true) : tsOkP ts = true ∧ slOk ts 4 l = true ∧ szL l ≤ 30 := by
  simpa [validP, Bool.and_eq_true] using h
theorem ts6 {ts : List Int} (h : tsOkP ts = true) : ts.length ≤ 6 := by
  simp only [tsOkP, Bool.and_eq_true, decide_eq_true_eq] at h; exact h.1
theorem ptsP_ok {ts : List Int} {l : List St} (h : validP ts l = true) : ∀ p ∈ ptsP l, PtOk ts p := by
  intro p hp
  simp only [ptsP, List.mem_append, List.mem_singleton] at hp
  rcases hp with hp | rfl
  · exact ptsL_ok ts 0 4 l (valid_parts h).2.1 p hp
  · exact .inr (.inr (.inl rfl))
theorem ptsP_le {ts : List Int} {l : List St} (h : validP ts l = true) : (ptsP l).length ≤ 61 := by
  have h1 := ptsL_le 0 l
  have h2 := (valid_parts h).2.2
  rw [ptsP_len]; omega
theorem typeOf_in {ts : List Int} {v : Int} (h : typeOfP ts v ≠ 0) : 0 ≤ v ∧ v < ts.length := by
  unfold typeOfP at h
  split at h
  · rename_i h0
    refine ⟨h0, ?_⟩
    rcases Nat.lt_or_ge v.toNat ts.length with h1 | h1
    · omega
    · rw [getD_ge h1] at h; exact absurd rfl h
  · exact absurd rfl h
theorem simple_x {ts : List Int} {op x y n : Int} (h : simpleP ts op x y n = true) : 1 ≤ op ∧ op ≤ 8 ∧ typeOfP ts x ≠ 0 := by
  unfold simpleP at h
  repeat' split at h
  all_goals simp only [Bool.and_eq_true, Bool.or_eq_true, beq_iff_eq, bne_iff_ne, decide_eq_true_eq, Bool.false_eq_true] at h
  all_goals first | exact h.elim | (refine ⟨by omega, by omega, ?_⟩; omega)
theorem simple_y {ts : List Int} {op x y n : Int} (h : simpleP ts op x y n = true) (ho : 3 ≤ op ∧ op ≤ 7) : typeOfP ts y ≠ 0 := by
  unfold simpleP isHolderP isRefP at h
  repeat' split at h
  all_goals simp only [Bool.and_eq_true, Bool.or_eq_true, beq_iff_eq, bne_iff_ne, decide_eq_true_eq, Bool.false_eq_true] at h
  all_goals first | exact h.elim | omega
theorem PtOk.sets {ts : List Int} {p : Pt} (h : PtOk ts p) : setsP p.op p.x < ts.length := by
  unfold setsP
  split
  · rename_i ho
    rcases h with h | h | h | h
    · omega
    · omega
    · omega
    · exact (typeOf_in (simple_x h).2.2).2
  · omega

/-- the points that the exported functions speak of -/
structure Good (ts : List Int) (pts : List Pt) : Prop where
  h6 : ts.length ≤ 6
  len : pts.length ≤ 61
  pos : 0 < pts.length
  next : ∀ p ∈ pts, ∀ k ∈ p.next, k < pts.length
  next2 : ∀ p ∈ pts, p.next.length ≤ 2
  ok : ∀ p ∈ pts, PtOk ts p
theorem Good.of_valid {ts : List Int} {l : List St} (h : validP ts l = true) : Good ts (ptsP l) :=
  ⟨ts6 (valid_parts h).1, ptsP_le h, ptsP_pos l, fun p hp => (ptsP_next l p hp).2, fun p hp => (ptsP_next l p hp).1, ptsP_ok h⟩

noncomputable def maybeAt (ts : List Int) (pts : List Pt) (k : Nat) : List Int := lst ts.length fun v => dec (Ac false ts pts 0 k v)
noncomputable def alwaysAt (ts : List Int) (pts : List Pt) (given k : Nat) : List Int := lst ts.length fun v => !dec (Ac true ts pts given k v)
noncomputable def liveAt (ts : List Int) (pts : List Pt) (k : Nat) : List Int := lst ts.length fun v => match pts[k]? with
  | some p => p.next.any fun j => dec (Nd ts pts j v)
  | none => false
theorem lst_bits {n : Nat} (hn : n ≤ 6) {m : Nat} (hm : m < 2 ^ n) : lst 6 m.testBit = lst n m.testBit :=
  (lst_more hn fun i h1 _ => Nat.testBit_lt_two_pow (Nat.lt_of_lt_of_le hm (Nat.pow_le_pow_right (n := 2) (by omega) h1))).symm
theorem fwdL_get {ev : Bool} {ts : List Int} {pts : List Pt} {first k : Nat} (hk : k < pts.length) : (fwdL ev ts pts first).getD k 0 = fwdM ev ts pts first k := by
  rw [getD_lt (by simpa [fwdL] using hk)]; simp [fwdL]
theorem ndL_get {ts : List Int} {pts : List Pt} {k : Nat} (hk : k < pts.length) : (ndL ts pts).getD k 0 = ndM ts pts k := by
  rw [getD_lt (by simpa [ndL] using hk)]; simp [ndL]
theorem maybe_bits {ts : List Int} {pts : List Pt} (h6 : ts.length ≤ 6) (k : Nat) : lst 6 (fwdM false ts pts 0 k).testBit = maybeAt ts pts k := by
  rw [fwdM, lst_bits h6 (bm_lt _ _)]
  refine lst_congr fun i hi => ?_
  rw [bm_bit]; simp [hi]
theorem always_bits {ts : List Int} {pts : List Pt} (h6 : ts.length ≤ 6) (given k : Nat) : lst 6 (fwdM true ts pts given k).testBit = alwaysAt ts pts given k := by
  rw [fwdM, lst_bits h6 (bm_lt _ _)]
  refine lst_congr fun i hi => ?_
  rw [bm_bit]; simp [hi]
theorem live_bits {ts : List Int} {pts : List Pt} (g : Good ts pts) {k : Nat} (hk : k < pts.length) : lst 6 (orL (ndL ts pts) pts[k].next).testBit = liveAt ts pts k := by
  have hs : ∀ m ∈ ndL ts pts, m < 2 ^ ts.length := by
    intro m hm
    simp only [ndL, List.mem_map] at hm
    obtain ⟨i, _, rfl⟩ := hm
    exact bm_lt _ _
  have hlt : orL (ndL ts pts) pts[k].next < 2 ^ ts.length := by
    refine Nat.lt_pow_two_of_testBit _ fun j hj => ?_
    rw [orL_bit, List.any_eq_false]
    intro i hi
    have hin := g.next _ (List.getElem_mem hk) i hi
    rw [ndL_get hin, ndM, bm_bit]
    simp; omega
  rw [lst_bits g.h6 hlt]
  refine lst_congr fun i hi => ?_
  rw [orL_bit, List.getElem?_eq_getElem hk]
  have e : ∀ j ∈ pts[k].next, ((ndL ts pts).getD j 0).testBit i = dec (Nd ts pts j i) := fun j hj => by
    rw [ndL_get (g.next _ (List.getElem_mem hk) j hj), ndM, bm_bit]; simp [hi]
  rw [Bool.eq_iff_iff]
  simp only [List.any_eq_true]
  exact ⟨fun ⟨j, hj, h⟩ => ⟨j, hj, by rw [← e j hj]; exact h⟩, fun ⟨j, hj, h⟩ => ⟨j, hj, by rw [e j hj]; exact h⟩⟩

end Go.Proofs.YtidlifijgooceaaGreat
