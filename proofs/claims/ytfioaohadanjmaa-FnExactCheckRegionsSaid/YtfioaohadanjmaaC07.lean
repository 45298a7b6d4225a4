import Derived.Test.YtfioaohadanjmaaC06
import Derived.Deep.LoopGhost
set_option linter.unusedVariables false

namespace Go.Proofs.Ytfioaohadanjmaa
open Go.RowKit

/-- block g is just these cells -/
def RowB (w : World) (g : Nat) (t : TypeId) (l : List Value) : Prop := w.heap[g]? = some (.cells l.toArray t (0, 0))
theorem RowB.lt {w : World} {g : Nat} {t : TypeId} {l : List Value} (h : RowB w g t l) : g < w.heap.size := by
  rcases Nat.lt_or_ge g w.heap.size with hlt | hge
  · exact hlt
  · unfold RowB at h; rw [Array.getElem?_eq_none hge] at h; cases h
theorem RowB.cell {w : World} {g : Nat} {t : TypeId} {l : List Value} (h : RowB w g t l) (i : Nat) : w.cell? ⟨g, i, none⟩ = l[i]? := by
  rw [cell_of_row w g i _ t (0, 0) h]; simp
theorem RowB.frozen {w : World} {g : Nat} {t : TypeId} {l : List Value} (h : RowB w g t l) (i : Nat) : w.frozen? ⟨g, i, none⟩ = false := frozen_of_row w g i _ t h
theorem RowB.low {w w' : World} {g B : Nat} {t : TypeId} {l : List Value} (h : RowB w g t l) (hb : Below B w w') (hg : g < B) : RowB w' g t l := (hb.block g hg).trans h
theorem RowB.alloc {w : World} {g : Nat} {t : TypeId} {l : List Value} (h : RowB w g t l) (o : Obj) : RowB (w.alloc o) g t l := h.low (bel_a w o) h.lt
theorem RowB.set_ {w : World} {g : Nat} {t : TypeId} {l : List Value} (h : RowB w g t l) (i : Nat) (u : Value) : RowB (w.setCell ⟨g, i, none⟩ u) g t (l.set i u) := by
  have := heap_setCell_same w g i _ t u h
  unfold RowB
  rw [this]; simp
theorem RowB.other {w : World} {g g' : Nat} {t : TypeId} {l : List Value} (h : RowB w g t l) (hne : g ≠ g') (i : Nat) (u : Value) : RowB (w.setCell ⟨g', i, none⟩ u) g t l := (heap_setCell_other w ⟨g', i, none⟩ g u hne).trans h
theorem RowB.new (w : World) (l : List Value) (t : TypeId) : RowB (w.alloc (.cells l.toArray t)) w.heap.size t l := heap_alloc_new w _

/-- ints in such a block, for a walk -/
def iv (ms : List Nat) : List Value := ms.map fun m => .int .i64 (m : Nat)
theorem iv_len (ms : List Nat) : (iv ms).length = ms.length := by simp [iv]
theorem iv_get {ms : List Nat} {k : Nat} (hk : k < ms.length) : (iv ms)[k]? = some (.int .i64 (ms.getD k 0 : Nat)) := by
  rw [List.getElem?_eq_getElem (by rw [iv_len]; exact hk), getD_lt hk]; simp [iv]
theorem iv_set (ms : List Nat) (k m : Nat) : (iv ms).set k (.int .i64 (m : Nat)) = iv (ms.set k m) := by simp [iv, List.map_set]
theorem RowB.ints {w : World} {g : Nat} {t : TypeId} {ms : List Nat} (h : RowB w g t (iv ms)) (hl : ms.length ≤ 4194304) {c : Nat} (hc : ms.length ≤ c) : IntS w w.heap.size (.slice (some ⟨g, 0, none⟩) ms.length c) (msk ms) := by
  refine ⟨_, c, by rw [msk_len], by rw [msk_len]; exact hc, by rw [msk_len]; exact hl, by simp, fun hn => ⟨g, 0, rfl, h.lt, fun j u hu => ?_⟩⟩
  rw [Nat.zero_add, h.cell]
  simpa [iv, msk] using hu
/-- make([]int, n) -/
theorem make_ints (n : Nat) (hn : n ≤ 8388608) (W : World) : (Instr.makeSlice 22 (.int .i64 (n : Int)) (.int .i64 (n : Int))).run Try.prog W = .ok (.slice (some ⟨W.heap.size, 0, none⟩) n n) (W.alloc (.cells (iv (List.replicate n 0)).toArray 3)) := by
  obtain ⟨i0, hi0, hz0, hz1, hz2⟩ := info_parts Try.infoInt
  have h := run_make (P := Try.prog) W 22 3 i0 _ Try.underlying22 hi0 hz0 .i64 .i64 (n : Int) (n : Int) (by omega) (by omega) (by rw [hz2]; omega) (by omega)
  simp only [Int.toNat_natCast] at h
  rw [h]
  have e : madeCells (Value.cells (.int .i64 0)) (n * i0.size) = (iv (List.replicate n 0)).toArray := by
    have := toList_madeCells_one (.int .i64 0) (n * i0.size)
    rw [hz1, Nat.mul_one] at this ⊢
    apply Array.toList_inj.1
    show (madeCells #[.int .i64 0] n).toList = _
    rw [this]
    simp [iv]
  rw [e]

end Go.Proofs.Ytfioaohadanjmaa

/- Plain: what a valid program's points are like; what the exported functions answer. No program in sight. -/
namespace Go.Proofs.Ytfioaohadanjmaa

def PtOk (ts : List Int) (p : Pt) : Prop := p.op = 9 ∨ p.op = 10 ∨ p.op = 11 ∨ simpleP ts p.op p.x p.y p.n = true
mutual
theorem ptsSt_ok (ts : List Int) (at_ d : Nat) : ∀ s : St, stOk ts d s = true → ∀ p ∈ ptsSt at_ s, PtOk ts p
  | .mk op x y n th el => by
    have h1 := fun a d => ptsL_ok ts a d th
    have h2 := fun a d => ptsL_ok ts a d el
    intro hs p hp
    simp only [stOk] at hs
    simp only [ptsSt] at hp
    split at hp
    · rename_i ho
      rw [if_pos (by simp [isBranchP, ho])] at hs
      simp only [Bool.and_eq_true] at hs
      simp only [List.mem_cons, List.mem_append] at hp
      rcases hp with rfl | hp | rfl | hp
      · exact .inl rfl
      · exact h1 _ _ hs.1.2 p hp
      · exact .inr (.inl rfl)
      · exact h2 _ _ hs.2 p hp
    · split at hp
      · rename_i ho2
        rw [if_pos (by simp [isBranchP, ho2])] at hs
        simp only [Bool.and_eq_true] at hs
        simp only [List.mem_cons, List.mem_append, List.not_mem_nil, or_false] at hp
        rcases hp with rfl | hp | rfl
        · exact .inr (.inl rfl)
        · exact h1 _ _ hs.1.2 p hp
        · exact .inr (.inl rfl)
      · rename_i ho1 ho2
        rw [if_neg (by simp [isBranchP, ho1, ho2])] at hs
        simp only [Bool.and_eq_true] at hs
        simp only [List.mem_singleton] at hp
        subst hp
        exact .inr (.inr (.inr hs.2))
theorem ptsL_ok (ts : List Int) (at_ d : Nat) : ∀ l : List St, slOk ts d l = true → ∀ p ∈ ptsL at_ l, PtOk ts p
  | [] => by simp [ptsL]
  | s :: r => by
    have h1 := ptsSt_ok ts at_ d s
    have h2 := ptsL_ok ts (at_ + (ptsSt at_ s).length) d r
    intro hs p hp
    simp only [slOk, Bool.and_eq_true] at hs
    simp only [ptsL, List.mem_append] at hp
    rcases hp with hp | hp
    · exact h1 hs.1 p hp
    · exact h2 hs.2 p hp
end
theorem valid_parts {ts : List Int} {l : List St} (h : validP ts l = true) : tsOkP ts = true ∧ slOk ts 4 l = true ∧ szL l ≤ 30 := by
  simpa [validP, Bool.and_eq_true] using h
theorem ts6 {ts : List Int} (h : tsOkP ts = true) : ts.length ≤ 6 := by
  simp only [tsOkP, Bool.and_eq_true, decide_eq_true_eq] at h; exact h.1
theorem ptsP_ok {ts : List Int} {l : List St} (h : validP ts l = true) : ∀ p ∈ ptsP l, PtOk ts p := by
  intro p hp
  simp only [ptsP, List.mem_append, List.mem_singleton] at hp
  rcases hp with hp | rfl
  · exact ptsL_ok ts 0 4 l (valid_parts h).2.1 p hp
  · exact .inr (.inr (.inl rfl))
theorem ptsP_le {ts : List Int} {l : List St} (h : validP ts l = true) : (ptsP l).length ≤ 61 := by
  have h1 := ptsL_le 0 l
  have h2 := (valid_parts h).2.2
  rw [ptsP_len]; omega
theorem typeOf_in {ts : List Int} {v : Int} (h : typeOfP ts v ≠ 0) : 0 ≤ v ∧ v < ts.length := by
  unfold typeOfP at h
  split at h
  · rename_i h0
    refine ⟨h0, ?_⟩
    rcases Nat.lt_or_ge v.toNat ts.length with h1 | h1
    · omega
    · rw [getD_ge h1] at h; exact absurd rfl h
  · exact absurd rfl h
theorem simple_x {ts : List Int} {op x y n : Int} (h : simpleP ts op x y n = true) : 1 ≤ op ∧ op ≤ 8 ∧ typeOfP ts x ≠ 0 := by
  unfold simpleP at h
  repeat' split at h
  all_goals simp only [Bool.and_eq_true, Bool.or_eq_true, beq_iff_eq, bne_iff_ne, decide_eq_true_eq, Bool.false_eq_true] at h
  all_goals first | exact h.elim | (refine ⟨by omega, by omega, ?_⟩; omega)
theorem simple_y {ts : List Int} {op x y n : Int} (h : simpleP ts op x y n = true) (ho : 3 ≤ op ∧ op ≤ 7) : typeOfP ts y ≠ 0 := by
  unfold simpleP isHolderP isRefP at h
  repeat' split at h
  all_goals simp only [Bool.and_eq_true, Bool.or_eq_true, beq_iff_eq, bne_iff_ne, decide_eq_true_eq, Bool.false_eq_true] at h
  all_goals first | exact h.elim | omega
theorem PtOk.sets {ts : List Int} {p : Pt} (h : PtOk ts p) : setsP p.op p.x < ts.length := by
  unfold setsP
  split
  · rename_i ho
    rcases h with h | h | h | h
    · omega
    · omega
    · omega
    · exact (typeOf_in (simple_x h).2.2).2
  · omega

/-- the points that the exported functions speak of -/
structure Good (ts : List Int) (pts : List Pt) : Prop where
  h6 : ts.length ≤ 6
  len : pts.length ≤ 61
  pos : 0 < pts.length
  next : ∀ p ∈ pts, ∀ k ∈ p.next, k < pts.length
  next2 : ∀ p ∈ pts, p.next.length ≤ 2
  ok : ∀ p ∈ pts, PtOk ts p
theorem Good.of_valid {ts : List Int} {l : List St} (h : validP ts l = true) : Good ts (ptsP l) :=
  ⟨ts6 (valid_parts h).1, ptsP_le h, ptsP_pos l, fun p hp => (ptsP_next l p hp).2, fun p hp => (ptsP_next l p hp).1, ptsP_ok h⟩

theorem fwdL_get {ev : Bool} {ts : List Int} {pts : List Pt} {first k : Nat} (hk : k < pts.length) : (fwdL ev ts pts first).getD k 0 = fwdM ev ts pts first k := by
  rw [getD_lt (by simpa [fwdL] using hk)]; simp [fwdL]
theorem ndL_get {ts : List Int} {pts : List Pt} {k : Nat} (hk : k < pts.length) : (ndL ts pts).getD k 0 = ndM ts pts k := by
  rw [getD_lt (by simpa [ndL] using hk)]; simp [ndL]
end Go.Proofs.Ytfioaohadanjmaa
