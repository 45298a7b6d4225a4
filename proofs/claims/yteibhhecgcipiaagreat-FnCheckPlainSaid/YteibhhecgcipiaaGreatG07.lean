import Derived.Test.YteibhhecgcipiaaGreatG06
import Derived.Deep.LoopGhost
import Derived.Test.YteibhhecgcipiaaGreatG01
set_option linter.unusedVariables false

/- Plain: what flows forward along points, as a least set. No program in sight. -/
namespace Go.Proofs.YteibhhecgcipiaaGreat

noncomputable def dec (p : Prop) : Bool := @decide p (Classical.propDecidable p)
theorem dec_iff {p : Prop} : dec p = true ↔ p := by unfold dec; exact @decide_eq_true_iff p (Classical.propDecidable p)
theorem dec_true {p : Prop} (h : p) : dec p = true := dec_iff.2 h
theorem dec_false {p : Prop} (h : ¬ p) : dec p = false := Bool.eq_false_iff.2 fun hh => h (dec_iff.1 hh)
/-- is v in what is gathered: the set itself, or (ev) what it lacks -/
def accB (ev : Bool) (m v : Nat) : Bool := m.testBit v != ev
def cmb (ev : Bool) (a b : Nat) : Nat := if ev then a &&& b else a ||| b
theorem accB_cmb (ev : Bool) (a b v : Nat) : accB ev (cmb ev a b) v = (accB ev a v || accB ev b v) := by
  cases ev
  · simp [accB, cmb, Nat.testBit_or]
  · simp only [accB, cmb, if_true, Nat.testBit_and]
    cases a.testBit v <;> cases b.testBit v <;> rfl
def trB (ev : Bool) (ts : List Int) (p : Pt) (b : Bool) (v : Nat) : Bool := ((((b != ev) && !(takenP ts p.op p.x p.y).testBit v) || (setBitP p.op p.x).testBit v) != ev)
theorem accB_val (ev : Bool) (ts : List Int) (p : Pt) (m v : Nat) (hv : v < 6) : accB ev (valP ts p m) v = trB ev ts p (accB ev m v) v := by
  unfold accB valP trB
  rw [Nat.testBit_or, andn_bit _ _ _ hv]
  cases m.testBit v <;> cases ev <;> rfl
theorem trB_mono (ev : Bool) (ts : List Int) (p : Pt) (b : Bool) (v : Nat) : trB ev ts p b v = (trB ev ts p false v || (b && trB ev ts p true v)) := by
  unfold trB
  cases b <;> cases ev <;> cases (takenP ts p.op p.x p.y).testBit v <;> cases (setBitP p.op p.x).testBit v <;> rfl

/-- what is gathered before a point -/
inductive Ac (ev : Bool) (ts : List Int) (pts : List Pt) (first : Nat) : Nat → Nat → Prop
  | init {v : Nat} (hv : v < ts.length) (h : accB ev first v = true) : Ac ev ts pts first 0 v
  | gen {i k v : Nat} {p : Pt} (hp : pts[i]? = some p) (hk : k ∈ p.next) (hv : v < ts.length) (h : trB ev ts p false v = true) : Ac ev ts pts first k v
  | keep {i k v : Nat} {p : Pt} (hp : pts[i]? = some p) (hk : k ∈ p.next) (hi : Ac ev ts pts first i v) (h : trB ev ts p true v = true) : Ac ev ts pts first k v

theorem Ac.lt {ev : Bool} {ts : List Int} {pts : List Pt} {first i v : Nat} (h : Ac ev ts pts first i v) : v < ts.length := by
  induction h with
  | init hv _ => exact hv
  | gen _ _ hv _ => exact hv
  | keep _ _ _ _ ih => exact ih

noncomputable def fwdM (ev : Bool) (ts : List Int) (pts : List Pt) (first i : Nat) : Nat := bm ts.length fun v => dec (Ac ev ts pts first i v) != ev
noncomputable def fwdL (ev : Bool) (ts : List Int) (pts : List Pt) (first : Nat) : List Nat := (List.range pts.length).map (fwdM ev ts pts first)

/-- the state of the search: sets before all points -/
structure FwdI (ev : Bool) (ts : List Int) (pts : List Pt) (first : Nat) (ms : List Nat) : Prop where
  len : ms.length = pts.length
  small : ∀ m ∈ ms, m < 2 ^ ts.length
  sound : ∀ i v, i < ms.length → v < ts.length → accB ev (ms.getD i 0) v = true → Ac ev ts pts first i v
  inits : ∀ v, v < ts.length → accB ev first v = true → accB ev (ms.getD 0 0) v = true
/-- the set s goes along all edges of point i, and all that it gathers is right -/
def SetOf (ev : Bool) (ts : List Int) (pts : List Pt) (first i s : Nat) : Prop := s < 2 ^ ts.length ∧ ∀ k v, (∃ p, pts[i]? = some p ∧ k ∈ p.next) → v < ts.length → accB ev s v = true → Ac ev ts pts first k v
def ClosedAt (ev : Bool) (ts : List Int) (pts : List Pt) (ms : List Nat) (i : Nat) : Prop := ∀ p, pts[i]? = some p → ∀ k ∈ p.next, cmb ev (ms.getD k 0) (valP ts p (ms.getD i 0)) = ms.getD k 0
def muF (ev : Bool) (ms : List Nat) : Nat := (ms.map fun m => if ev then m else 63 - m).sum

theorem sum_set_lt {f : Nat → Nat} {l : List Nat} {k m : Nat} (hk : k < l.length) (h : f m < f l[k]) : ((l.set k m).map f).sum < (l.map f).sum := by
  induction l generalizing k with
  | nil => simp at hk
  | cons a r ih =>
    cases k with
    | zero => simp at h ⊢; omega
    | succ k =>
      have := ih (k := k) (by simpa using hk) (by simpa using h)
      simp only [List.set_cons_succ, List.map_cons, List.sum_cons]
      omega
theorem cmb_lt {ev : Bool} {a b n : Nat} (ha : a < 2 ^ n) (hb : b < 2 ^ n) : cmb ev a b < 2 ^ n := by
  unfold cmb; split
  · exact Nat.and_lt_two_pow _ hb
  · exact Nat.or_lt_two_pow ha hb
theorem mu_set {ev : Bool} {ms : List Nat} {k s : Nat} (hk : k < ms.length) (h63 : cmb ev (ms.getD k 0) s < 64) (hne : cmb ev (ms.getD k 0) s ≠ ms.getD k 0) : muF ev (ms.set k (cmb ev (ms.getD k 0) s)) < muF ev ms := by
  refine sum_set_lt (f := fun m => if ev then m else 63 - m) hk ?_
  rw [getD_lt hk] at *
  cases ev
  · have := Nat.left_le_or (n := ms[k]) (m := s)
    simp only [cmb, Bool.false_eq_true, if_false] at *
    omega
  · have := Nat.and_le_left (n := ms[k]) (m := s)
    simp only [cmb, if_true] at *
    omega
theorem getD_set {l : List Nat} {k m i : Nat} (hk : k < l.length) : (l.set k m).getD i 0 = if i = k then m else l.getD i 0 := by
  by_cases h : i = k
  · subst h; simp [List.getD, hk]
  · simp [List.getD, h, Ne.symm h]
theorem FwdI.upd {ev : Bool} {ts : List Int} {pts : List Pt} {first i k s : Nat} {p : Pt} {ms : List Nat} (h : FwdI ev ts pts first ms) (hs : SetOf ev ts pts first i s) (hp : pts[i]? = some p) (hk : k ∈ p.next) (hkl : k < ms.length) : FwdI ev ts pts first (ms.set k (cmb ev (ms.getD k 0) s)) := by
  refine ⟨by simp [h.len], ?_, ?_, ?_⟩
  · intro m hm
    rcases List.mem_or_eq_of_mem_set hm with hm | rfl
    · exact h.small m hm
    · exact cmb_lt (by rw [getD_lt hkl]; exact h.small _ (List.getElem_mem hkl)) hs.1
  · intro j v hj hv ha
    rw [getD_set hkl] at ha
    split at ha
    · rename_i e
      subst e
      rw [accB_cmb, Bool.or_eq_true] at ha
      rcases ha with ha | ha
      · exact h.sound _ v hkl hv ha
      · exact hs.2 _ v ⟨p, hp, hk⟩ hv ha
    · exact h.sound j v (by simpa using hj) hv ha
  · intro v hv ha
    rw [getD_set hkl]
    split
    · rename_i e
      subst e
      rw [accB_cmb, h.inits v hv ha]; rfl
    · exact h.inits v hv ha
theorem FwdI.setOf {ev : Bool} {ts : List Int} {pts : List Pt} {first i : Nat} {p : Pt} {ms : List Nat} (h : FwdI ev ts pts first ms) (h6 : ts.length ≤ 6) (hp : pts[i]? = some p) (hx : setsP p.op p.x < ts.length) : SetOf ev ts pts first i (valP ts p (ms.getD i 0)) := by
  have hi : i < pts.length := by
    rcases Nat.lt_or_ge i pts.length with h | h
    · exact h
    · rw [List.getElem?_eq_none h] at hp; cases hp
  have hil : i < ms.length := by rw [h.len]; exact hi
  have hsm : ms.getD i 0 < 2 ^ ts.length := by rw [getD_lt hil]; exact h.small _ (List.getElem_mem hil)
  refine ⟨?_, ?_⟩
  · refine Nat.or_lt_two_pow ?_ ?_
    · refine Nat.lt_pow_two_of_testBit _ fun j hj => ?_
      by_cases hj6 : j < 6
      · rw [andn_bit _ _ _ hj6, Nat.testBit_lt_two_pow (Nat.lt_of_lt_of_le hsm (Nat.pow_le_pow_right (n := 2) (by omega) hj))]; rfl
      · exact Nat.testBit_lt_two_pow (Nat.lt_of_lt_of_le (andn_lt _ _) (show 64 ≤ 2 ^ j from Nat.pow_le_pow_right (n := 2) (by omega) (show 6 ≤ j by omega)))
    · unfold setBitP
      split
      · exact Nat.pow_lt_pow_right (by omega) (by omega)
      · exact Nat.two_pow_pos _
  · rintro k v ⟨p', hp', hk⟩ hv ha
    rw [hp] at hp'
    injection hp' with hp'
    subst hp'
    rw [accB_val _ _ _ _ _ (by omega), trB_mono, Bool.or_eq_true, Bool.and_eq_true] at ha
    rcases ha with ha | ⟨ha, hb⟩
    · exact .gen hp hk hv ha
    · exact .keep hp hk (h.sound i v hil hv ha) hb

/-- where nothing changes any more, the sets are the least ones -/
theorem FwdI.done {ev : Bool} {ts : List Int} {pts : List Pt} {first : Nat} {ms : List Nat} (h : FwdI ev ts pts first ms) (h6 : ts.length ≤ 6) (hn : ∀ p ∈ pts, ∀ k ∈ p.next, k < pts.length) (h0 : 0 < pts.length) (hc : ∀ i, i < pts.length → ClosedAt ev ts pts ms i) : ms = fwdL ev ts pts first := by
  have hac : ∀ i v, Ac ev ts pts first i v → i < pts.length ∧ accB ev (ms.getD i 0) v = true := by
    intro i v ha
    induction ha with
    | init hv h1 => exact ⟨h0, h.inits _ hv h1⟩
    | @gen i k v p hp hk hv h1 =>
      have hi : i < pts.length := by
        rcases Nat.lt_or_ge i pts.length with h | h
        · exact h
        · rw [List.getElem?_eq_none h] at hp; cases hp
      refine ⟨hn p (List.mem_of_getElem? hp) k hk, ?_⟩
      rw [← hc i hi p hp k hk, accB_cmb, accB_val _ _ _ _ _ (by omega), trB_mono, h1]; simp
    | @keep i k v p hp hk ha h1 ih =>
      have hi := ih.1
      have hv := ha.lt
      refine ⟨hn p (List.mem_of_getElem? hp) k hk, ?_⟩
      rw [← hc i hi p hp k hk, accB_cmb, accB_val _ _ _ _ _ (by omega), trB_mono, ih.2, h1]; simp
  apply List.ext_getElem
  · simp [fwdL, h.len]
  · intro i hi hi'
    have hip : i < pts.length := by rw [← h.len]; exact hi
    simp only [fwdL, List.getElem_map, List.getElem_range]
    apply Nat.eq_of_testBit_eq
    intro v
    rw [fwdM, bm_bit]
    by_cases hv : v < ts.length
    · have e : dec (Ac ev ts pts first i v) = accB ev ms[i] v := by
        rw [Bool.eq_iff_iff, dec_iff]
        constructor
        · intro ha; have := (hac i v ha).2; rwa [getD_lt hi] at this
        · intro ha; exact h.sound i v hi hv (by rw [getD_lt hi]; exact ha)
      rw [e]
      unfold accB
      cases ms[i].testBit v <;> cases ev <;> simp [hv]
    · rw [Nat.testBit_lt_two_pow (Nat.lt_of_lt_of_le (h.small _ (List.getElem_mem hi)) (Nat.pow_le_pow_right (n := 2) (by omega) (by omega)))]
      simp [hv]

end Go.Proofs.YteibhhecgcipiaaGreat

namespace Go.Proofs.YteibhhecgcipiaaGreat
open Go.RowKit

/-- block g is just these cells -/
def RowB (w : World) (g : Nat) (t : TypeId) (l : List Value) : Prop := w.heap[g]? = some (.cells l.toArray t (0, 0))
theorem RowB.lt {w : World} {g : Nat} {t : TypeId} {l : List Value} (h : RowB w g t l) : g < w.heap.size := by
  rcases Nat.lt_or_ge g w.heap.size with hlt | hge
  · exact hlt
  · unfold RowB at h; rw [Array.getElem?_eq_none hge] at h; cases h
theorem RowB.cell {w : World} {g : Nat} {t : TypeId} {l : List Value} (h : RowB w g t l) (i : Nat) : w.cell? ⟨g, i, none⟩ = l[i]? := by
  rw [cell_of_row w g i _ t (0, 0) h]; simp
theorem RowB.frozen {w : World} {g : Nat} {t : TypeId} {l : List Value} (h : RowB w g t l) (i : Nat) : w.frozen? ⟨g, i, none⟩ = false := frozen_of_row w g i _ t h
theorem RowB.low {w w' : World} {g B : Nat} {t : TypeId} {l : List Value} (h : RowB w g t l) (hb : Below B w w') (hg : g < B) : RowB w' g t l := (hb.block g hg).trans h
theorem RowB.alloc {w : World} {g : Nat} {t : TypeId} {l : List Value} (h : RowB w g t l) (o : Obj) : RowB (w.alloc o) g t l := h.low (bel_a w o) h.lt
theorem RowB.set_ {w : World} {g : Nat} {t : TypeId} {l : List Value} (h : RowB w g t l) (i : Nat) (u : Value) : RowB (w.setCell ⟨g, i, none⟩ u) g t (l.set i u) := by
  have := heap_setCell_same w g i _ t u h
  unfold RowB
  rw [this]; simp
theorem RowB.other {w : World} {g g' : Nat} {t : TypeId} {l : List Value} (h : RowB w g t l) (hne : g ≠ g') (i : Nat) (u : Value) : RowB (w.setCell ⟨g', i, none⟩ u) g t l := (heap_setCell_other w ⟨g', i, none⟩ g u hne).trans h
theorem RowB.new (w : World) (l : List Value) (t : TypeId) : RowB (w.alloc (.cells l.toArray t)) w.heap.size t l := heap_alloc_new w _

/-- ints in such a block, for a walk -/
def iv (ms : List Nat) : List Value := ms.map fun m => .int .i64 (m : Nat)
theorem iv_len (ms : List Nat) : (iv ms).length = ms.length := by simp [iv]
theorem iv_get {ms : List Nat} {k : Nat} (hk : k < ms.length) : (iv ms)[k]? = some (.int .i64 (ms.getD k 0 : Nat)) := by
  rw [List.getElem?_eq_getElem (by rw [iv_len]; exact hk), getD_lt hk]; simp [iv]
theorem iv_set (ms : List Nat) (k m : Nat) : (iv ms).set k (.int .i64 (m : Nat)) = iv (ms.set k m) := by simp [iv, List.map_set]
theorem RowB.ints {w : World} {g : Nat} {t : TypeId} {ms : List Nat} (h : RowB w g t (iv ms)) (hl : ms.length ≤ 4194304) {c : Nat} (hc : ms.length ≤ c) : IntS w w.heap.size (.slice (some ⟨g, 0, none⟩) ms.length c) (msk ms) := by
  refine ⟨_, c, by rw [msk_len], by rw [msk_len]; exact hc, by rw [msk_len]; exact hl, by simp, fun hn => ⟨g, 0, rfl, h.lt, fun j u hu => ?_⟩⟩
  rw [Nat.zero_add, h.cell]
  simpa [iv, msk] using hu
/-- make([]int, n) -/
theorem make_ints (n : Nat) (hn : n ≤ 8388608) (W : World) : (Instr.makeSlice 23 (.int .i64 (n : Int)) (.int .i64 (n : Int))).run Tryz.prog W = .ok (.slice (some ⟨W.heap.size, 0, none⟩) n n) (W.alloc (.cells (iv (List.replicate n 0)).toArray 3)) := by
  obtain ⟨i0, hi0, hz0, hz1, hz2⟩ := info_parts Tryz.infoInt
  have h := run_make (P := Tryz.prog) W 23 3 i0 _ Tryz.underlying23 hi0 hz0 .i64 .i64 (n : Int) (n : Int) (by omega) (by omega) (by rw [hz2]; omega) (by omega)
  simp only [Int.toNat_natCast] at h
  rw [h]
  have e : madeCells (Value.cells (.int .i64 0)) (n * i0.size) = (iv (List.replicate n 0)).toArray := by
    have := toList_madeCells_one (.int .i64 0) (n * i0.size)
    rw [hz1, Nat.mul_one] at this ⊢
    apply Array.toList_inj.1
    show (madeCells #[.int .i64 0] n).toList = _
    rw [this]
    simp [iv]
  rw [e]

end Go.Proofs.YteibhhecgcipiaaGreat

/- Words on uint64; impl.loanBits. -/
namespace Go.Proofs.YteibhhecgcipiaaGreat
open Go.RowKit

/-- sets as uint64 -/
def uv (ms : List Nat) : List Value := ms.map fun m => .int .u64 (m : Nat)
theorem uv_len (ms : List Nat) : (uv ms).length = ms.length := by simp [uv]
theorem uv_get {ms : List Nat} {k : Nat} (hk : k < ms.length) : (uv ms)[k]? = some (.int .u64 (ms.getD k 0 : Nat)) := by
  rw [List.getElem?_eq_getElem (by rw [uv_len]; exact hk), getD_lt hk]; simp [uv]
theorem uv_set (ms : List Nat) (k m : Nat) : (uv ms).set k (.int .u64 (m : Nat)) = uv (ms.set k m) := by simp [uv, List.map_set]
theorem top_eq : top64 = 18446744073709551616 := by unfold top64; decide
theorem or_u64 {a b : Nat} (ha : a < top64) (hb : b < top64) : bits .or .u64 (a : Int) (b : Int) = ((a ||| b : Nat) : Int) := u64_or_nat a b (by rw [top_eq] at ha; exact ha) (by rw [top_eq] at hb; exact hb)
theorem and_u64 {a b : Nat} (ha : a < top64) (hb : b < top64) : bits .and .u64 (a : Int) (b : Int) = ((a &&& b : Nat) : Int) := u64_and_nat a b (by rw [top_eq] at ha; exact ha) (by rw [top_eq] at hb; exact hb)
theorem wrap_u64 {m : Nat} (hm : m < top64) : IntKind.u64.wrap (m : Int) = (m : Int) := by
  rw [top_eq] at hm
  simp only [IntKind.wrap, IntKind.bits, IntKind.signed]
  simp; omega
theorem pow_u64 {k : Nat} (hk : k ≤ 63) : IntKind.u64.wrap (2 ^ k) = ((2 ^ k : Nat) : Int) := by
  have h : 2 ^ k < top64 := Nat.pow_lt_pow_right (by omega) (by omega)
  rw [← wrap_u64 h]; simp
theorem bit_u64 {m k : Nat} (hm : m < top64) : (bits .and .u64 ((m : Int) / 2 ^ k) 1 == 1) = m.testBit k := by
  have h1 := and_u64 (a := m / 2 ^ k) (b := 1) (Nat.lt_of_le_of_lt (Nat.div_le_self _ _) hm) (by rw [top_eq]; decide)
  have h2 : ((m : Int) / 2 ^ k) = ((m / 2 ^ k : Nat) : Int) := by simp
  rw [Nat.and_one_is_mod] at h1
  rw [h2, show bits .and .u64 ((m / 2 ^ k : Nat) : Int) 1 = ((m / 2 ^ k % 2 : Nat) : Int) from h1, Nat.testBit_eq_decide_div_mod_eq, Bool.eq_iff_iff]
  simp only [beq_iff_eq, decide_eq_true_eq]
  omega
theorem pow_bit (k e : Nat) : (2 ^ k).testBit e = (e == k) := by
  rw [Nat.testBit_two_pow, Bool.eq_iff_iff]; simp; exact eq_comm

/-- ints that the call owns -/
def IntsOwn (w : World) (l : List Int) (e : Ending) (w' : World) : Prop := ∃ v, e = .returned v ∧ OInts w' w.heap.size v l ∧ Below w.heap.size w w'
set_option maxHeartbeats 1000000 in
theorem loanBits_own (m : Nat) (hm : m < top64) (w : World) :
    Calls Tryz.prog 77 #[.int .u64 (m : Nat)] w (IntsOwn w (lst 64 m.testBit)) := by
  have HM := Lib.hid hm
  go_enter Tryz.func77, Tryz.ntmps77
  go_wp2_with fail
  go_loopw [3, 5] (fun v i wr => ∃ (k : Nat) (o : List Int), k ≤ 64 ∧ i = .int .i64 k ∧ o = lst k m.testBit ∧ OInts wr w.heap.size v o ∧ Below w.heap.size w wr) (fun _ i _ => 64 - (intOf i).toNat)
  case atStart => exact ⟨0, [], by omega, rfl, rfl, OInts.nil w _, Below.refl _ _⟩
  case round =>
    obtain ⟨k, o, hk, rfl, ho, hP, hb⟩ := hrel
    have hol : o.length ≤ k := by rw [ho]; exact lst_len _ _
    have HO := Lib.hid ho
    clear ho
    obtain ⟨A', c', rfl, hc'⟩ := hP.slice
    by_cases hlt : k < 64
    · have hbt := bit_u64 (k := k) HM.out
      cases hx : m.testBit k
      · rw [hx] at hbt
        have HX := Lib.hid hx
        clear hx
        go_wp2_with (at_builtin; fail)
        exact ⟨⟨k + 1, o, by omega, by go_num, by rw [lst_succ_false HX.out]; exact HO.out, hP, hb⟩, by simp [intOf]; omega⟩
      · rw [hx] at hbt
        have HX := Lib.hid hx
        clear hx
        go_wp2_with (at_builtin; go_must (refine wpList_push_int rfl (.tmp 13) (.tmp 15) rfl hP hb.size (by omega) _ rfl rfl ?_); intro v' w' hP' hE')
        exact ⟨⟨k + 1, _, by omega, by go_num, by rw [lst_succ_true HX.out, HO.out], hP', hb.trans ((((Evo.alloc w.heap.size 3 _ _).trans hE').below hb.size))⟩, by simp [intOf]; omega⟩
    · have hkl : k = 64 := by omega
      subst hkl
      go_wp2_with (at_builtin; fail)
      go_ret
      refine ⟨_, rfl, ?_, hb⟩
      rw [← HO.out]
      exact hP
theorem loanBits_any (m : Nat) (hm : m < top64) (w : World) :
    Calls Tryz.prog 77 #[.int .u64 (m : Nat)] w (IntsRet w (lst 64 m.testBit)) :=
  (loanBits_own m hm w).mono fun _ _ ⟨v, he, ho, hb⟩ => ⟨v, he, ho.toS (by have := lst_len 64 m.testBit; omega), hb⟩

end Go.Proofs.YteibhhecgcipiaaGreat

/- Plain: what is needed from points on, as a least set. No program in sight. -/
namespace Go.Proofs.YteibhhecgcipiaaGreat

/-- v is used from point i on, before it is set -/
inductive Nd (ts : List Int) (pts : List Pt) : Nat → Nat → Prop
  | use {i v : Nat} {p : Pt} (hp : pts[i]? = some p) (hv : v < ts.length) (h : useP ts p.op p.x p.y (v : Nat) ≠ 0) : Nd ts pts i v
  | flow {i k v : Nat} {p : Pt} (hp : pts[i]? = some p) (hk : k ∈ p.next) (hn : Nd ts pts k v) (h : setsP p.op p.x ≠ (v : Nat)) : Nd ts pts i v
theorem Nd.lt {ts : List Int} {pts : List Pt} {i v : Nat} (h : Nd ts pts i v) : v < ts.length := by
  induction h with
  | use _ hv _ => exact hv
  | flow _ _ _ _ ih => exact ih
noncomputable def ndM (ts : List Int) (pts : List Pt) (i : Nat) : Nat := bm ts.length fun v => dec (Nd ts pts i v)
noncomputable def ndL (ts : List Int) (pts : List Pt) : List Nat := (List.range pts.length).map (ndM ts pts)
/-- one step back -/
def backP (ts : List Int) (p : Pt) (ms : List Nat) : Nat := usedP ts p.op p.x p.y ||| andn (orL ms p.next) (setBitP p.op p.x)
theorem setBit_bit (op x : Int) (v : Nat) : (setBitP op x).testBit v = decide (setsP op x = (v : Nat)) := by
  unfold setBitP
  split
  · rename_i h
    rw [Nat.testBit_two_pow, Bool.eq_iff_iff]; simp; omega
  · rename_i h
    rw [Nat.zero_testBit, eq_comm, decide_eq_false_iff_not]; omega
theorem back_bit (ts : List Int) (p : Pt) (ms : List Nat) (v : Nat) (hv : v < ts.length) (h6 : ts.length ≤ 6) :
    (backP ts p ms).testBit v = ((useP ts p.op p.x p.y (v : Nat) != 0) || ((p.next.any fun k => (ms.getD k 0).testBit v) && decide (setsP p.op p.x ≠ (v : Nat)))) := by
  rw [backP, Nat.testBit_or, andn_bit _ _ _ (by omega), orL_bit, setBit_bit, usedP, bm_bit, decide_eq_true hv, Bool.true_and]
  simp
structure NdI (ts : List Int) (pts : List Pt) (ms : List Nat) : Prop where
  len : ms.length = pts.length
  small : ∀ m ∈ ms, m < 2 ^ ts.length
  sound : ∀ i v, i < ms.length → v < ts.length → (ms.getD i 0).testBit v = true → Nd ts pts i v
  pre : ∀ i v p, pts[i]? = some p → v < ts.length → (ms.getD i 0).testBit v = true → (backP ts p ms).testBit v = true
def muN (ms : List Nat) : Nat := (ms.map fun m => 63 - m).sum
theorem back_lt {ts : List Int} {p : Pt} {ms : List Nat} (h6 : ts.length ≤ 6) (hs : ∀ m ∈ ms, m < 2 ^ ts.length) : backP ts p ms < 2 ^ ts.length := by
  have hg : ∀ k, ms.getD k 0 < 2 ^ ts.length := fun k => by
    by_cases hk : k < ms.length
    · rw [getD_lt hk]; exact hs _ (List.getElem_mem hk)
    · rw [getD_ge (by omega)]; exact Nat.two_pow_pos _
  refine Nat.or_lt_two_pow (bm_lt _ _) (Nat.lt_pow_two_of_testBit _ fun j hj => ?_)
  by_cases hj6 : j < 6
  · rw [andn_bit _ _ _ hj6, orL_bit]
    have : (p.next.any fun k => (ms.getD k 0).testBit j) = false := by
      rw [List.any_eq_false]
      intro k _
      rw [Nat.testBit_lt_two_pow (Nat.lt_of_lt_of_le (hg k) (Nat.pow_le_pow_right (n := 2) (by omega) hj))]; simp
    rw [this]; rfl
  · exact Nat.testBit_lt_two_pow (Nat.lt_of_lt_of_le (andn_lt _ _) (show 64 ≤ 2 ^ j from Nat.pow_le_pow_right (n := 2) (by omega) (show 6 ≤ j by omega)))
theorem NdI.init (ts : List Int) (pts : List Pt) : NdI ts pts (List.replicate pts.length 0) := by
  have h0 : ∀ i v, ((List.replicate pts.length 0).getD i 0).testBit v = false := fun i v => by
    by_cases h : i < pts.length
    · rw [getD_lt (by simpa using h)]; simp
    · rw [getD_ge (by simp; omega)]; simp
  refine ⟨by simp, ?_, ?_, ?_⟩
  · intro m hm
    rw [(List.mem_replicate.1 hm).2]; exact Nat.two_pow_pos _
  · intro i v _ _ h
    rw [h0] at h; cases h
  · intro i v p _ _ h
    rw [h0] at h; cases h
theorem le_of_bits {a b n : Nat} (ha : a < 2 ^ n) (h : ∀ v, v < n → a.testBit v = true → b.testBit v = true) : a ||| b = b := by
  apply Nat.eq_of_testBit_eq
  intro v
  rw [Nat.testBit_or]
  by_cases hv : v < n
  · cases e : a.testBit v
    · simp
    · simp [h v hv e]
  · rw [Nat.testBit_lt_two_pow (Nat.lt_of_lt_of_le ha (Nat.pow_le_pow_right (n := 2) (by omega) (by omega)))]; simp
theorem NdI.upd {ts : List Int} {pts : List Pt} {i : Nat} {p : Pt} {ms : List Nat} (h : NdI ts pts ms) (h6 : ts.length ≤ 6) (hp : pts[i]? = some p) (hi : i < ms.length) :
    NdI ts pts (ms.set i (backP ts p ms)) ∧ (backP ts p ms ≠ ms.getD i 0 → muN (ms.set i (backP ts p ms)) < muN ms) := by
  have hle : ∀ k v, v < ts.length → (ms.getD k 0).testBit v = true → ((ms.set i (backP ts p ms)).getD k 0).testBit v = true := by
    intro k v hv hb
    rw [getD_set hi]
    split
    · rename_i e; subst e; exact h.pre _ v p hp hv hb
    · exact hb
  have hbm : ∀ (q : Pt) v, v < ts.length → (backP ts q ms).testBit v = true → (backP ts q (ms.set i (backP ts p ms))).testBit v = true := by
    intro q v hv hb
    rw [back_bit _ _ _ _ hv h6, Bool.or_eq_true, Bool.and_eq_true] at hb ⊢
    refine hb.imp id fun hb => ⟨?_, hb.2⟩
    obtain ⟨k, hk, hkb⟩ := List.any_eq_true.1 hb.1
    exact List.any_eq_true.2 ⟨k, hk, hle k v hv hkb⟩
  refine ⟨⟨by simp [h.len], ?_, ?_, ?_⟩, ?_⟩
  · intro m hm
    rcases List.mem_or_eq_of_mem_set hm with hm | rfl
    · exact h.small m hm
    · exact back_lt h6 h.small
  · intro k v hk hv hb
    rw [getD_set hi] at hb
    split at hb
    · rename_i e
      subst e
      rw [back_bit _ _ _ _ hv h6, Bool.or_eq_true, Bool.and_eq_true] at hb
      rcases hb with hb | ⟨hb, hs⟩
      · exact .use hp hv (by simpa using hb)
      · obtain ⟨j, hj, hjb⟩ := List.any_eq_true.1 hb
        have hjl : j < ms.length := by
          rcases Nat.lt_or_ge j ms.length with h | h
          · exact h
          · rw [getD_ge h] at hjb; simp at hjb
        exact .flow hp hj (h.sound j v hjl hv hjb) (by simpa using hs)
    · exact h.sound k v (by simpa using hk) hv hb
  · intro k v q hq hv hb
    rw [getD_set hi] at hb
    split at hb
    · rename_i e
      subst e
      rw [hp] at hq; injection hq with hq; subst hq
      exact hbm _ v hv hb
    · exact hbm q v hv (h.pre k v q hq hv hb)
  · intro hne
    refine sum_set_lt (f := fun m => 63 - m) hi ?_
    rw [getD_lt hi] at hne
    have hsm := h.small _ (List.getElem_mem hi)
    have hor := le_of_bits (a := ms[i]) (b := backP ts p ms) hsm (fun v hv hb => h.pre i v p hp hv (by rw [getD_lt hi]; exact hb))
    have h1 := Nat.left_le_or (n := ms[i]) (m := backP ts p ms)
    rw [hor] at h1
    have h2 := back_lt (p := p) h6 h.small
    have h3 : 2 ^ ts.length ≤ 64 := Nat.pow_le_pow_right (n := 2) (by omega) h6
    show 63 - backP ts p ms < 63 - ms[i]
    omega
theorem NdI.done {ts : List Int} {pts : List Pt} {ms : List Nat} (h : NdI ts pts ms) (h6 : ts.length ≤ 6) (hn : ∀ p ∈ pts, ∀ k ∈ p.next, k < pts.length) (hc : ∀ i p, pts[i]? = some p → backP ts p ms = ms.getD i 0) : ms = ndL ts pts := by
  have hac : ∀ i v, Nd ts pts i v → (ms.getD i 0).testBit v = true := by
    intro i v hd
    induction hd with
    | use hp hv h1 => rw [← hc _ _ hp, back_bit _ _ _ _ hv h6]; simp [h1]
    | flow hp hk hd h1 ih =>
      rw [← hc _ _ hp, back_bit _ _ _ _ hd.lt h6, Bool.or_eq_true, Bool.and_eq_true]
      exact .inr ⟨List.any_eq_true.2 ⟨_, hk, ih⟩, by simpa using h1⟩
  apply List.ext_getElem
  · simp [ndL, h.len]
  · intro i hi hi'
    simp only [ndL, List.getElem_map, List.getElem_range]
    apply Nat.eq_of_testBit_eq
    intro v
    rw [ndM, bm_bit]
    by_cases hv : v < ts.length
    · rw [decide_eq_true hv, Bool.true_and, Bool.eq_iff_iff, dec_iff]
      constructor
      · intro hb; exact h.sound i v hi hv (by rw [getD_lt hi]; exact hb)
      · intro hd; have := hac i v hd; rwa [getD_lt hi] at this
    · rw [Nat.testBit_lt_two_pow (Nat.lt_of_lt_of_le (h.small _ (List.getElem_mem hi)) (Nat.pow_le_pow_right (n := 2) (by omega) (by omega)))]
      simp [hv]

end Go.Proofs.YteibhhecgcipiaaGreat

/- Plain: what a valid program's points are like; what the exported functions answer. No program in sight. -/
namespace Go.Proofs.YteibhhecgcipiaaGreat

def PtOk (ts : List Int) (p : Pt) : Prop := p.op = 9 ∨ p.op = 10 ∨ p.op = 11 ∨ simpleP ts p.op p.x p.y p.n = true
mutual
theorem ptsSt_ok (ts : List Int) (at_ d : Nat) : ∀ s : St, stOk ts d s = true → ∀ p ∈ ptsSt at_ s, PtOk ts p
  | .mk op x y n th el => by
    have h1 := fun a d => ptsL_ok ts a d th
    have h2 := fun a d => ptsL_ok ts a d el
    intro hs p hp
    simp only [stOk] at hs
    simp only [ptsSt] at hp
    split at hp
    · rename_i ho
      rw [if_pos (by simp [isBranchP, ho])] at hs
      simp only [Bool.and_eq_true] at hs
      simp only [List.mem_cons, List.mem_append] at hp
      rcases hp with rfl | hp | rfl | hp
      · exact .inl rfl
      · exact h1 _ _ hs.1.2 p hp
      · exact .inr (.inl rfl)
      · exact h2 _ _ hs.2 p hp
    · split at hp
      · rename_i ho2
        rw [if_pos (by simp [isBranchP, ho2])] at hs
        simp only [Bool.and_eq_true] at hs
        simp only [List.mem_cons, List.mem_append, List.not_mem_nil, or_false] at hp
        rcases hp with rfl | hp | rfl
        · exact .inr (.inl rfl)
        · exact h1 _ _ hs.1.2 p hp
        · exact .inr (.inl rfl)
      · rename_i ho1 ho2
        rw [if_neg (by simp [isBranchP, ho1, ho2])] at hs
        simp only [Bool.and_eq_true] at hs
        simp only [List.mem_singleton] at hp
        subst hp
        exact .inr (.inr (.inr hs.2))
theorem ptsL_ok (ts : List Int) (at_ d : Nat) : ∀ l : List St, slOk ts d l = true → ∀ p ∈ ptsL at_ l, PtOk ts p
  | [] => by simp [ptsL]
  | s :: r => by
    have h1 := ptsSt_ok ts at_ d s
    have h2 := ptsL_ok ts (at_ + (ptsSt at_ s).length) d r
    intro hs p hp
    simp only [slOk, Bool.and_eq_true] at hs
    simp only [ptsL, List.mem_append] at hp
    rcases hp with hp | hp
    · exact h1 hs.1 p hp
    · exact h2 hs.2 p hp
end
theorem valid_parts {ts : List Int} {l : List St} (h : validP ts l = true) : tsOkP ts = true ∧ slOk ts 4 l = true ∧ szL l ≤ 30 := by
  simpa [validP, Bool.and_eq_true] using h
theorem ts6 {ts : List Int} (h : tsOkP ts = true) : ts.length ≤ 6 := by
  simp only [tsOkP, Bool.and_eq_true, decide_eq_true_eq] at h; exact h.1
theorem ptsP_ok {ts : List Int} {l : List St} (h : validP ts l = true) : ∀ p ∈ ptsP l, PtOk ts p := by
  intro p hp
  simp only [ptsP, List.mem_append, List.mem_singleton] at hp
  rcases hp with hp | rfl
  · exact ptsL_ok ts 0 4 l (valid_parts h).2.1 p hp
  · exact .inr (.inr (.inl rfl))
theorem ptsP_le {ts : List Int} {l : List St} (h : validP ts l = true) : (ptsP l).length ≤ 61 := by
  have h1 := ptsL_le 0 l
  have h2 := (valid_parts h).2.2
  rw [ptsP_len]; omega
theorem typeOf_in {ts : List Int} {v : Int} (h : typeOfP ts v ≠ 0) : 0 ≤ v ∧ v < ts.length := by
  unfold typeOfP at h
  split at h
  · rename_i h0
    refine ⟨h0, ?_⟩
    rcases Nat.lt_or_ge v.toNat ts.length with h1 | h1
    · omega
    · rw [getD_ge h1] at h; exact absurd rfl h
  · exact absurd rfl h
theorem simple_x {ts : List Int} {op x y n : Int} (h : simpleP ts op x y n = true) : 1 ≤ op ∧ op ≤ 8 ∧ typeOfP ts x ≠ 0 := by
  unfold simpleP at h
  repeat' split at h
  all_goals simp only [Bool.and_eq_true, Bool.or_eq_true, beq_iff_eq, bne_iff_ne, decide_eq_true_eq, Bool.false_eq_true] at h
  all_goals first | exact h.elim | (refine ⟨by omega, by omega, ?_⟩; omega)
theorem simple_y {ts : List Int} {op x y n : Int} (h : simpleP ts op x y n = true) (ho : 3 ≤ op ∧ op ≤ 7) : typeOfP ts y ≠ 0 := by
  unfold simpleP isHolderP isRefP at h
  repeat' split at h
  all_goals simp only [Bool.and_eq_true, Bool.or_eq_true, beq_iff_eq, bne_iff_ne, decide_eq_true_eq, Bool.false_eq_true] at h
  all_goals first | exact h.elim | omega
theorem PtOk.sets {ts : List Int} {p : Pt} (h : PtOk ts p) : setsP p.op p.x < ts.length := by
  unfold setsP
  split
  · rename_i ho
    rcases h with h | h | h | h
    · omega
    · omega
    · omega
    · exact (typeOf_in (simple_x h).2.2).2
  · omega

/-- the points that the exported functions speak of -/
structure Good (ts : List Int) (pts : List Pt) : Prop where
  h6 : ts.length ≤ 6
  len : pts.length ≤ 61
  pos : 0 < pts.length
  next : ∀ p ∈ pts, ∀ k ∈ p.next, k < pts.length
  next2 : ∀ p ∈ pts, p.next.length ≤ 2
  ok : ∀ p ∈ pts, PtOk ts p
theorem Good.of_valid {ts : List Int} {l : List St} (h : validP ts l = true) : Good ts (ptsP l) :=
  ⟨ts6 (valid_parts h).1, ptsP_le h, ptsP_pos l, fun p hp => (ptsP_next l p hp).2, fun p hp => (ptsP_next l p hp).1, ptsP_ok h⟩

theorem fwdL_get {ev : Bool} {ts : List Int} {pts : List Pt} {first k : Nat} (hk : k < pts.length) : (fwdL ev ts pts first).getD k 0 = fwdM ev ts pts first k := by
  rw [getD_lt (by simpa [fwdL] using hk)]; simp [fwdL]
theorem ndL_get {ts : List Int} {pts : List Pt} {k : Nat} (hk : k < pts.length) : (ndL ts pts).getD k 0 = ndM ts pts k := by
  rw [getD_lt (by simpa [ndL] using hk)]; simp [ndL]
end Go.Proofs.YteibhhecgcipiaaGreat
