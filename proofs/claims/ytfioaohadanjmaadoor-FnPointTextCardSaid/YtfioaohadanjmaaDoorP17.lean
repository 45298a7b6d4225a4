import Derived.Test.YtfioaohadanjmaaDoorP16
import Derived.Test.YtfioaohadanjmaaDoorP05
import Derived.Test.YtfioaohadanjmaaDoorP06
import Derived.Test.YtfioaohadanjmaaDoorP01
import Derived.Test.YtfioaohadanjmaaDoorP07
import Derived.Deep.RegionLaw
import Derived.Deep.DeepCutAuto
import Derived.Deep.CutBlock
set_option linter.unusedVariables false

/- PointText, both sides. -/
namespace Go.Proofs.YtfioaohadanjmaaDoor
open Go.RowKit

def goodX (op x y n : Int) : Bool := withinP op 1 8 && withinP x 0 5 && withinP y 0 5 && withinP n 0 9
/-- the text of a point -/
def ptxT (op x y n : Int) : ByteArray :=
  if op = 11 then ⟨#[101, 110, 100]⟩ else if op = 9 then ⟨#[105, 102]⟩ else if op = 10 then (if n = 1 then ⟨#[103, 111]⟩ else ⟨#[108, 111, 111, 112]⟩) else
  if goodX op x y n = true then smpT op x y n else ⟨#[]⟩
theorem ptxT_good {op x y n : Int} (h : goodX op x y n = true) : ptxT op x y n = smpT op x y n := by
  have h1 : 1 ≤ op ∧ op ≤ 8 := by simp [goodX, withinP] at h; omega
  unfold ptxT
  rw [if_neg (by omega), if_neg (by omega), if_neg (by omega), if_pos h]
theorem ptxT_bad {op x y n : Int} (h1 : op ≠ 11) (h2 : op ≠ 9) (h3 : op ≠ 10) (h : goodX op x y n = false) : ptxT op x y n = ⟨#[]⟩ := by
  unfold ptxT
  rw [if_neg h1, if_neg h2, if_neg h3, if_neg (by rw [h]; exact Bool.false_ne_true)]
theorem goodX_in {op x y n : Int} (h : goodX op x y n = true) : 1 ≤ op ∧ op ≤ 8 ∧ 0 ≤ x ∧ x ≤ 5 ∧ 0 ≤ y ∧ y ≤ 5 ∧ 0 ≤ n ∧ n ≤ 9 := by
  simp [goodX, withinP] at h; omega
set_option maxHeartbeats 4000000 in
set_option maxRecDepth 100000 in
theorem iPt_11 (x y n : Int) (A : Option Addr) (k c : Nat) (w : World) :
    Calls Tryd.prog 8 #[.agg #[.int .i64 11, .int .i64 x, .int .i64 y, .int .i64 n, .slice A k c]] w (TxRet (ptxT 11 x y n) w) := by
  have HB := Lib.hid (bel_a w (.cells #[.int .i64 11, .int .i64 x, .int .i64 y, .int .i64 n, .slice A k c] 25))
  go_enter Tryd.func8, Tryd.ntmps8
  go_wp2_with fail
  go_ret
  exact ⟨rfl, HB.out⟩
set_option maxHeartbeats 4000000 in
set_option maxRecDepth 100000 in
theorem iPt_9 (x y n : Int) (A : Option Addr) (k c : Nat) (w : World) :
    Calls Tryd.prog 8 #[.agg #[.int .i64 9, .int .i64 x, .int .i64 y, .int .i64 n, .slice A k c]] w (TxRet (ptxT 9 x y n) w) := by
  have HB := Lib.hid (bel_a w (.cells #[.int .i64 9, .int .i64 x, .int .i64 y, .int .i64 n, .slice A k c] 25))
  go_enter Tryd.func8, Tryd.ntmps8
  go_wp2_with fail
  go_ret
  exact ⟨rfl, HB.out⟩
set_option maxHeartbeats 4000000 in
set_option maxRecDepth 100000 in
theorem iPt_10 (x y n : Int) (A : Option Addr) (k c : Nat) (w : World) :
    Calls Tryd.prog 8 #[.agg #[.int .i64 10, .int .i64 x, .int .i64 y, .int .i64 n, .slice A k c]] w (TxRet (ptxT 10 x y n) w) := by
  have HB := Lib.hid (bel_a w (.cells #[.int .i64 10, .int .i64 x, .int .i64 y, .int .i64 n, .slice A k c] 25))
  by_cases hn : n = 1
  · subst hn
    go_enter Tryd.func8, Tryd.ntmps8
    go_wp2_with fail
    go_ret
    exact ⟨rfl, HB.out⟩
  · have e1 : (n == 1) = false := by simpa using hn
    have e2 : ptxT 10 x y n = ⟨#[108, 111, 111, 112]⟩ := by unfold ptxT; rw [if_neg (by decide), if_neg (by decide), if_pos rfl, if_neg hn]
    rw [e2]
    clear hn e2
    go_enter Tryd.func8, Tryd.ntmps8
    go_wp2_with fail
    go_ret
    exact ⟨rfl, HB.out⟩
set_option maxHeartbeats 4000000 in
set_option maxRecDepth 100000 in
theorem iPt_x (op x y n : Int) (A : Option Addr) (k c : Nat) (w : World) (n11 : op ≠ 11) (n9 : op ≠ 9) (n10 : op ≠ 10) :
    Calls Tryd.prog 8 #[.agg #[.int .i64 op, .int .i64 x, .int .i64 y, .int .i64 n, .slice A k c]] w (TxRet (ptxT op x y n) w) := by
  have HB := Lib.hid (bel_a w (.cells #[.int .i64 op, .int .i64 x, .int .i64 y, .int .i64 n, .slice A k c] 25))
  have e11 : (op == 11) = false := by simpa using n11
  have e9 : (op == 9) = false := by simpa using n9
  have e10 : (op == 10) = false := by simpa using n10
  by_cases hg : goodX op x y n = true
  · rw [ptxT_good hg]
    obtain ⟨o1, o8, x0, x5, y0, y5, m0, m9⟩ := goodX_in hg
    have wo : withinP op 1 8 = true := by simp [withinP]; omega
    have wx : withinP x 0 5 = true := by simp [withinP]; omega
    have wy : withinP y 0 5 = true := by simp [withinP]; omega
    have wn : withinP n 0 9 = true := by simp [withinP]; omega
    clear n11 n9 n10 hg
    go_enter Tryd.func8, Tryd.ntmps8
    go_wp2_with (go_at_call 20; refine (within_any _ _ _ _).mono ?_; rintro e w' ⟨rfl, rfl⟩)
    refine (smpX_any op x y n _ _ _ _ _ _ _ o1 o8 x0 x5 y0 y5 m0 m9).mono ?_
    rintro e w1 ⟨rfl, hb1⟩
    have HB1 := Lib.hid (HB.out.trans (hb1.mono (by simp)))
    clear hb1
    go_wp2_with fail
    go_ret
    exact ⟨rfl, HB1.out⟩
  · have hg : goodX op x y n = false := by simpa using hg
    rw [ptxT_bad n11 n9 n10 hg]
    have hc : withinP op 1 8 = false ∨ (withinP op 1 8 = true ∧ withinP x 0 5 = false) ∨ (withinP op 1 8 = true ∧ withinP x 0 5 = true ∧ withinP y 0 5 = false) ∨ (withinP op 1 8 = true ∧ withinP x 0 5 = true ∧ withinP y 0 5 = true ∧ withinP n 0 9 = false) := by
      unfold goodX at hg
      revert hg
      cases withinP op 1 8 <;> cases withinP x 0 5 <;> cases withinP y 0 5 <;> cases withinP n 0 9 <;> simp
    clear n11 n9 n10 hg
    rcases hc with h1 | ⟨h1, h2⟩ | ⟨h1, h2, h3⟩ | ⟨h1, h2, h3, h4⟩ <;>
    (go_enter Tryd.func8, Tryd.ntmps8
     go_wp2_with (go_at_call 20; refine (within_any _ _ _ _).mono ?_; rintro e w' ⟨rfl, rfl⟩)
     go_ret
     exact ⟨rfl, HB.out⟩)
theorem iPointText_any (op x y n : Int) (A : Option Addr) (k c : Nat) (w : World) :
    Calls Tryd.prog 8 #[.agg #[.int .i64 op, .int .i64 x, .int .i64 y, .int .i64 n, .slice A k c]] w (TxRet (ptxT op x y n) w) := by
  by_cases h1 : op = 11
  · subst h1; exact iPt_11 x y n A k c w
  by_cases h2 : op = 9
  · subst h2; exact iPt_9 x y n A k c w
  by_cases h3 : op = 10
  · subst h3; exact iPt_10 x y n A k c w
  exact iPt_x op x y n A k c w h1 h2 h3
set_option maxHeartbeats 4000000 in
set_option maxRecDepth 100000 in
theorem sPt_11 (x y n : Int) (A : Option Addr) (k c : Nat) (w : World) :
    Calls Tryd.prog 9 #[.agg #[.int .i64 11, .int .i64 x, .int .i64 y, .int .i64 n, .slice A k c]] w (TxRet (ptxT 11 x y n) w) := by
  have HB := Lib.hid (bel_a w (.cells #[.int .i64 11, .int .i64 x, .int .i64 y, .int .i64 n, .slice A k c] 25))
  go_enter Tryd.func9, Tryd.ntmps9
  go_wp2_with fail
  go_ret
  exact ⟨rfl, HB.out⟩
set_option maxHeartbeats 4000000 in
set_option maxRecDepth 100000 in
theorem sPt_9 (x y n : Int) (A : Option Addr) (k c : Nat) (w : World) :
    Calls Tryd.prog 9 #[.agg #[.int .i64 9, .int .i64 x, .int .i64 y, .int .i64 n, .slice A k c]] w (TxRet (ptxT 9 x y n) w) := by
  have HB := Lib.hid (bel_a w (.cells #[.int .i64 9, .int .i64 x, .int .i64 y, .int .i64 n, .slice A k c] 25))
  go_enter Tryd.func9, Tryd.ntmps9
  go_wp2_with fail
  go_ret
  exact ⟨rfl, HB.out⟩
set_option maxHeartbeats 4000000 in
set_option maxRecDepth 100000 in
theorem sPt_10 (x y n : Int) (A : Option Addr) (k c : Nat) (w : World) :
    Calls Tryd.prog 9 #[.agg #[.int .i64 10, .int .i64 x, .int .i64 y, .int .i64 n, .slice A k c]] w (TxRet (ptxT 10 x y n) w) := by
  have HB := Lib.hid (bel_a w (.cells #[.int .i64 10, .int .i64 x, .int .i64 y, .int .i64 n, .slice A k c] 25))
  by_cases hn : n = 1
  · subst hn
    go_enter Tryd.func9, Tryd.ntmps9
    go_wp2_with fail
    go_ret
    exact ⟨rfl, HB.out⟩
  · have e1 : (n == 1) = false := by simpa using hn
    have e2 : ptxT 10 x y n = ⟨#[108, 111, 111, 112]⟩ := by unfold ptxT; rw [if_neg (by decide), if_neg (by decide), if_pos rfl, if_neg hn]
    rw [e2]
    clear hn e2
    go_enter Tryd.func9, Tryd.ntmps9
    go_wp2_with fail
    go_ret
    exact ⟨rfl, HB.out⟩
set_option maxHeartbeats 4000000 in
set_option maxRecDepth 100000 in
theorem sPt_x (op x y n : Int) (A : Option Addr) (k c : Nat) (w : World) (n11 : op ≠ 11) (n9 : op ≠ 9) (n10 : op ≠ 10) :
    Calls Tryd.prog 9 #[.agg #[.int .i64 op, .int .i64 x, .int .i64 y, .int .i64 n, .slice A k c]] w (TxRet (ptxT op x y n) w) := by
  have HB := Lib.hid (bel_a w (.cells #[.int .i64 op, .int .i64 x, .int .i64 y, .int .i64 n, .slice A k c] 25))
  have e11 : (op == 11) = false := by simpa using n11
  have e9 : (op == 9) = false := by simpa using n9
  have e10 : (op == 10) = false := by simpa using n10
  by_cases hg : goodX op x y n = true
  · rw [ptxT_good hg]
    obtain ⟨o1, o8, x0, x5, y0, y5, m0, m9⟩ := goodX_in hg
    have d1 : decide (op < 1) = false := decide_eq_false (by omega)
    have d2 : decide (op > 11) = false := decide_eq_false (by omega)
    have d3 : decide (x < 0) = false := decide_eq_false (by omega)
    have d4 : decide (x ≥ 6) = false := decide_eq_false (by omega)
    have d5 : decide (y < 0) = false := decide_eq_false (by omega)
    have d6 : decide (y ≥ 6) = false := decide_eq_false (by omega)
    have d7 : decide (n < 0) = false := decide_eq_false (by omega)
    have d8 : decide (n > 9) = false := decide_eq_false (by omega)
    clear n11 n9 n10 hg
    go_enter Tryd.func9, Tryd.ntmps9
    go_wp2_with fail
    refine (txtX_any op x y n _ _ _ _ _ _ _ o1 o8 x0 x5 y0 y5 m0 m9).mono ?_
    rintro e w1 ⟨rfl, hb1⟩
    have HB1 := Lib.hid (HB.out.trans (hb1.mono (by simp)))
    clear hb1
    go_wp2_with fail
    go_ret
    exact ⟨rfl, HB1.out⟩
  · have hg : goodX op x y n = false := by simpa using hg
    rw [ptxT_bad n11 n9 n10 hg]
    have hr : ¬ (1 ≤ op ∧ op ≤ 8 ∧ 0 ≤ x ∧ x ≤ 5 ∧ 0 ≤ y ∧ y ≤ 5 ∧ 0 ≤ n ∧ n ≤ 9) := fun h => by
      have : goodX op x y n = true := by simp [goodX, withinP]; omega
      rw [hg] at this; cases this
    have hc : (decide (op < 1) = true) ∨ (decide (op < 1) = false ∧ decide (op > 11) = true) ∨ (decide (op < 1) = false ∧ decide (op > 11) = false ∧ decide (x < 0) = true) ∨ (decide (op < 1) = false ∧ decide (op > 11) = false ∧ decide (x < 0) = false ∧ decide (x ≥ 6) = true) ∨ (decide (op < 1) = false ∧ decide (op > 11) = false ∧ decide (x < 0) = false ∧ decide (x ≥ 6) = false ∧ decide (y < 0) = true) ∨ (decide (op < 1) = false ∧ decide (op > 11) = false ∧ decide (x < 0) = false ∧ decide (x ≥ 6) = false ∧ decide (y < 0) = false ∧ decide (y ≥ 6) = true) ∨ (decide (op < 1) = false ∧ decide (op > 11) = false ∧ decide (x < 0) = false ∧ decide (x ≥ 6) = false ∧ decide (y < 0) = false ∧ decide (y ≥ 6) = false ∧ decide (n < 0) = true) ∨ (decide (op < 1) = false ∧ decide (op > 11) = false ∧ decide (x < 0) = false ∧ decide (x ≥ 6) = false ∧ decide (y < 0) = false ∧ decide (y ≥ 6) = false ∧ decide (n < 0) = false ∧ decide (n > 9) = true) := by
      simp only [decide_eq_true_eq, decide_eq_false_iff_not]
      omega
    clear n11 n9 n10 hg hr
    rcases hc with h1 | ⟨h1, h2⟩ | ⟨h1, h2, h3⟩ | ⟨h1, h2, h3, h4⟩ | ⟨h1, h2, h3, h4, h5⟩ | ⟨h1, h2, h3, h4, h5, h6⟩ | ⟨h1, h2, h3, h4, h5, h6, h7⟩ | ⟨h1, h2, h3, h4, h5, h6, h7, h8⟩ <;>
    (go_enter Tryd.func9, Tryd.ntmps9
     go_wp2_with fail
     go_ret
     exact ⟨rfl, HB.out⟩)
theorem sPointText_any (op x y n : Int) (A : Option Addr) (k c : Nat) (w : World) :
    Calls Tryd.prog 9 #[.agg #[.int .i64 op, .int .i64 x, .int .i64 y, .int .i64 n, .slice A k c]] w (TxRet (ptxT op x y n) w) := by
  by_cases h1 : op = 11
  · subst h1; exact sPt_11 x y n A k c w
  by_cases h2 : op = 9
  · subst h2; exact sPt_9 x y n A k c w
  by_cases h3 : op = 10
  · subst h3; exact sPt_10 x y n A k c w
  exact sPt_x op x y n A k c w h1 h2 h3

end Go.Proofs.YtfioaohadanjmaaDoor

/- choices counted: impl.CountChoices, spec.CountChoices; the plain law on texts of points. -/
namespace Go.Proofs.YtfioaohadanjmaaDoor
open Go.RowKit

/-- how many points are choices -/
def chN (pts : List Pt) : Nat := (pts.filter fun p => decide (p.next.length = 2)).length
theorem chN_take {pts : List Pt} {k : Nat} (h : k < pts.length) : chN (pts.take (k + 1)) = chN (pts.take k) + if pts[k].next.length = 2 then 1 else 0 := by
  unfold chN
  rw [take_succ_get pts k h, List.filter_append, List.length_append]
  by_cases h2 : pts[k].next.length = 2 <;> simp [h2]
theorem chN_le (pts : List Pt) (k : Nat) : chN (pts.take k) ≤ pts.length := by
  unfold chN
  have h1 := List.length_filter_le (fun p : Pt => decide (p.next.length = 2)) (pts.take k)
  have h2 : (pts.take k).length ≤ pts.length := by simp; omega
  omega
theorem chN_all {pts : List Pt} {k : Nat} (h : k = pts.length) : chN (pts.take k) = chN pts := by rw [h, List.take_length]
set_option maxHeartbeats 400000 in
theorem isCh2_any (op x y n : Int) (A : Option Addr) (m c : Nat) (w : World) :
    Calls Tryd.prog 17 #[.agg #[.int .i64 op, .int .i64 x, .int .i64 y, .int .i64 n, .slice A m c]] w fun e w' => e = .returned (.bool (decide (m = 2))) ∧ Below w.heap.size w w' := by
  have hd : (((m : Nat) : Int) == 2) = decide (m = 2) := by rw [Bool.eq_iff_iff]; simp; omega
  go_enter Tryd.func17, Tryd.ntmps17
  go_wp2_with fail
  go_ret
  exact ⟨rfl, bel_a _ _⟩
def ChNRet (n : Nat) (w : World) (e : Ending) (w' : World) : Prop := e = .returned (.int .i64 (n : Nat)) ∧ Below w.heap.size w w'
set_option maxHeartbeats 4000000 in
set_option maxRecDepth 100000 in
theorem iCountChoices_any (vt vb : Value) (ts : List Int) (l : List St) (B : Nat) (w : World) (ht : IntS w B vt ts) (hl : StS w B vb l) (hB : B ≤ w.heap.size) (hsz : szL l ≤ 4194300) :
    Calls Tryd.prog 6 #[.agg #[vt, vb]] w (ChNRet (chN (pointsP ts l)) w) := by
  go_enter Tryd.func6, Tryd.ntmps6
  go_wp2_with fail
  refine (iPointsOf_any vt vb ts l B _ (ht.low (bel_a _ _) hB) (hl.low (bel_a _ _) hB) (by simp; omega) hsz).mono ?_
  rintro e w1 ⟨v, rfl, hp, hb1⟩
  have HB := Lib.hid ((bel_a w _).trans (hb1.mono (by simp)))
  obtain ⟨A, c, rfl, hc, hpl⟩ := hp.slice
  have HP := Lib.hid hp
  clear hp hb1 ht hl
  generalize pointsP ts l = pts at *
  go_wp2_with fail
  go_loopw [3, 9] (fun cnt i wr => ∃ k : Nat, k ≤ pts.length ∧ i = .int .i64 k ∧ cnt = .int .i64 (chN (pts.take k) : Nat) ∧ Below w1.heap.size w1 wr) (fun _ i _ => pts.length - (intOf i).toNat)
  case atStart => exact ⟨0, Nat.zero_le _, rfl, rfl, Below.refl _ _⟩
  case round =>
    obtain ⟨k, hk, rfl, rfl, hbw⟩ := hrel
    have HBW := Lib.hid hbw
    have hsw := hbw.size
    have hcn := chN_le pts k
    clear hbw
    by_cases hlt : k < pts.length
    · obtain ⟨b, o, c', nv, e, hbb, -, -, hnx, d0, d1, d2, d3, d4⟩ := (HP.out.low HBW.out (Nat.le_refl _)).get hlt
      injection e with e1 e2 e3
      subst e1 e3
      clear e2
      obtain ⟨A', m', rfl, hm', -⟩ := hnx
      have HCT := Lib.hid (chN_take hlt)
      simp only [List.length_map] at *
      generalize hml : pts[k].next.length = m at *
      generalize pts[k]'hlt = s at *
      obtain ⟨C, hC⟩ : ∃ C, C = chN (pts.take k) := ⟨_, rfl⟩
      rw [← hC] at HCT hcn ⊢
      clear hml hC
      go_wp2_with fail
      refine (isCh2_any _ _ _ _ _ _ _ _).mono ?_
      rintro e w3 ⟨rfl, hb3⟩
      have HB3 := Lib.hid (HBW.out.trans ((show Below wr.heap.size wr w3 from (bel_a wr _).trans (hb3.mono (by simp))).mono hsw))
      clear hb3
      by_cases h2 : m = 2
      · subst h2
        go_wp2_with fail
        exact ⟨⟨k + 1, by omega, by go_num, by rw [HCT.out]; rfl, HB3.out⟩, by simp [intOf] <;> omega⟩
      · have hd : decide (m = 2) = false := decide_eq_false h2
        have H2 := Lib.hid h2
        clear h2
        go_wp2_with fail
        exact ⟨⟨k + 1, by omega, by go_num, by rw [HCT.out, if_neg H2.out]; rfl, HB3.out⟩, by simp [intOf] <;> omega⟩
    · have HJ := Lib.hid (show k = pts.length by omega)
      go_wp2_with fail
      go_ret
      exact ⟨by rw [chN_all HJ.out]; rfl, HB.out.trans (HBW.out.mono HB.out.size)⟩
set_option maxHeartbeats 4000000 in
set_option maxRecDepth 100000 in
theorem sCountChoices_any (vt vb : Value) (ts : List Int) (l : List St) (B : Nat) (w : World) (ht : IntS w B vt ts) (hl : StS w B vb l) (hB : B ≤ w.heap.size) (hsz : szL l ≤ 4194300) :
    Calls Tryd.prog 10 #[.agg #[vt, vb]] w (ChNRet (chN (pointsP ts l)) w) := by
  go_enter Tryd.func10, Tryd.ntmps10
  go_wp2_with fail
  refine (sPointsOf_any vt vb ts l B _ (ht.low (bel_a _ _) hB) (hl.low (bel_a _ _) hB) (by simp; omega) hsz).mono ?_
  rintro e w1 ⟨v, rfl, hp, hb1⟩
  have HB := Lib.hid ((bel_a w _).trans (hb1.mono (by simp)))
  obtain ⟨A, c, rfl, hc, hpl⟩ := hp.slice
  have HP := Lib.hid hp
  clear hp hb1 ht hl
  generalize pointsP ts l = pts at *
  go_wp2_with fail
  go_loopw [3, 5] (fun cnt i wr => ∃ k : Nat, k ≤ pts.length ∧ i = .int .i64 k ∧ cnt = .int .i64 (chN (pts.take k) : Nat) ∧ w1 = wr) (fun _ i _ => pts.length - (intOf i).toNat)
  case atStart => exact ⟨0, Nat.zero_le _, rfl, rfl, rfl⟩
  case round =>
    obtain ⟨k, hk, rfl, rfl, rfl⟩ := hrel
    have hcn := chN_le pts k
    by_cases hlt : k < pts.length
    · obtain ⟨b, o, c', nv, e, hbb, -, -, hnx, d0, d1, d2, d3, d4⟩ := HP.out.get hlt
      injection e with e1 e2 e3
      subst e1 e3
      clear e2
      obtain ⟨A', m', rfl, hm', -⟩ := hnx
      have HCT := Lib.hid (chN_take hlt)
      simp only [List.length_map] at *
      generalize hml : pts[k].next.length = m at *
      generalize pts[k]'hlt = s at *
      obtain ⟨C, hC⟩ : ∃ C, C = chN (pts.take k) := ⟨_, rfl⟩
      rw [← hC] at HCT hcn ⊢
      clear hml hC
      by_cases h2 : m = 2
      · subst h2
        go_wp2_with fail
        exact ⟨⟨k + 1, by omega, by go_num, by rw [HCT.out]; rfl, by first | trivial | rfl⟩, by simp [intOf] <;> omega⟩
      · have hd : (((m : Nat) : Int) == 2) = false := by simp; omega
        have H2 := Lib.hid h2
        clear h2
        go_wp2_with fail
        exact ⟨⟨k + 1, by omega, by go_num, by rw [HCT.out, if_neg H2.out]; rfl, by first | trivial | rfl⟩, by simp [intOf] <;> omega⟩
    · have HJ := Lib.hid (show k = pts.length by omega)
      go_wp2_with fail
      go_ret
      exact ⟨by rw [chN_all HJ.out]; rfl, HB.out⟩

end Go.Proofs.YtfioaohadanjmaaDoor

/- the plain law on texts of points. -/
namespace Go.Proofs.YtfioaohadanjmaaDoor

def NxOk (ts : List Int) (p : Pt) : Prop := (p.op = 9 ∧ p.next.length = 2) ∨ (p.op = 10 ∧ p.n = 1 ∧ p.next.length = 1) ∨ (p.op = 10 ∧ p.n = 0 ∧ p.next.length = 2) ∨ (p.op = 11 ∧ p.next.length = 0) ∨ (simpleP ts p.op p.x p.y p.n = true ∧ p.next.length = 1)
mutual
theorem nxSt_ok (ts : List Int) (at_ d : Nat) : ∀ s : St, stOk ts d s = true → ∀ p ∈ ptsSt at_ s, NxOk ts p
  | .mk op x y n th el => by
    have h1 := fun a d => nxL_ok ts a d th
    have h2 := fun a d => nxL_ok ts a d el
    intro hs p hp
    simp only [stOk] at hs
    simp only [ptsSt] at hp
    split at hp
    · rename_i ho
      rw [if_pos (by simp [isBranchP, ho])] at hs
      simp only [Bool.and_eq_true] at hs
      simp only [List.mem_cons, List.mem_append] at hp
      rcases hp with rfl | hp | rfl | hp
      · exact .inl ⟨rfl, rfl⟩
      · exact h1 _ _ hs.1.2 p hp
      · exact .inr (.inl ⟨rfl, rfl, rfl⟩)
      · exact h2 _ _ hs.2 p hp
    · split at hp
      · rename_i ho2
        rw [if_pos (by simp [isBranchP, ho2])] at hs
        simp only [Bool.and_eq_true] at hs
        simp only [List.mem_cons, List.mem_append, List.not_mem_nil, or_false] at hp
        rcases hp with rfl | hp | rfl
        · exact .inr (.inr (.inl ⟨rfl, rfl, rfl⟩))
        · exact h1 _ _ hs.1.2 p hp
        · exact .inr (.inl ⟨rfl, rfl, rfl⟩)
      · rename_i ho1 ho2
        rw [if_neg (by simp [isBranchP, ho1, ho2])] at hs
        simp only [Bool.and_eq_true] at hs
        simp only [List.mem_singleton] at hp
        subst hp
        exact .inr (.inr (.inr (.inr ⟨hs.2, rfl⟩)))
theorem nxL_ok (ts : List Int) (at_ d : Nat) : ∀ l : List St, slOk ts d l = true → ∀ p ∈ ptsL at_ l, NxOk ts p
  | [] => by simp [ptsL]
  | s :: r => by
    have h1 := nxSt_ok ts at_ d s
    have h2 := nxL_ok ts (at_ + (ptsSt at_ s).length) d r
    intro hs p hp
    simp only [slOk, Bool.and_eq_true] at hs
    simp only [ptsL, List.mem_append] at hp
    rcases hp with hp | hp
    · exact h1 hs.1 p hp
    · exact h2 hs.2 p hp
end
theorem nxP_ok {ts : List Int} {l : List St} (h : validP ts l = true) : ∀ p ∈ ptsP l, NxOk ts p := by
  intro p hp
  simp only [ptsP, List.mem_append, List.mem_singleton] at hp
  rcases hp with hp | rfl
  · exact nxL_ok ts 0 4 l (valid_parts h).2.1 p hp
  · exact .inr (.inr (.inr (.inl ⟨rfl, rfl⟩)))
theorem simple_good {ts : List Int} {op x y n : Int} (h6 : ts.length ≤ 6) (h : simpleP ts op x y n = true) : goodX op x y n = true := by
  obtain ⟨o1, o8, hx⟩ := simple_x h
  have hx2 := typeOf_in hx
  have hy : 0 ≤ y ∧ y ≤ 5 := by
    by_cases ho : 3 ≤ op ∧ op ≤ 7
    · have := typeOf_in (simple_y h ho); omega
    · unfold simpleP at h
      repeat' split at h
      all_goals simp only [Bool.and_eq_true, Bool.or_eq_true, beq_iff_eq, bne_iff_ne, decide_eq_true_eq, Bool.false_eq_true] at h
      all_goals first | exact h.elim | omega
  have hn : 0 ≤ n ∧ n ≤ 9 := by
    unfold simpleP at h
    repeat' split at h
    all_goals simp only [Bool.and_eq_true, Bool.or_eq_true, beq_iff_eq, bne_iff_ne, decide_eq_true_eq, Bool.false_eq_true] at h
    all_goals first | exact h.elim | omega
  simp [goodX, withinP]; omega
/-- no simple text is empty, 'if' or 'loop' -/
theorem smpT_not {op x y n : Int} (h1 : 1 ≤ op) (h8 : op ≤ 8) : smpT op x y n ≠ ⟨#[]⟩ ∧ smpT op x y n ≠ ⟨#[105, 102]⟩ ∧ smpT op x y n ≠ ⟨#[108, 111, 111, 112]⟩ := by
  have hv : op = 1 ∨ op = 2 ∨ op = 3 ∨ op = 4 ∨ op = 5 ∨ op = 6 ∨ op = 7 ∨ op = 8 := by omega
  rcases hv with rfl | rfl | rfl | rfl | rfl | rfl | rfl | rfl <;>
  refine ⟨fun e => ?_, fun e => ?_, fun e => ?_⟩ <;>
  (have e := congrArg (fun b : ByteArray => b.data.toList) e
   simp [smpT, bch] at e)
theorem ptx_choice {ts : List Int} {p : Pt} (h6 : ts.length ≤ 6) (h : NxOk ts p) :
    ptxT p.op p.x p.y p.n ≠ ⟨#[]⟩ ∧ ((ptxT p.op p.x p.y p.n = ⟨#[105, 102]⟩ ∨ ptxT p.op p.x p.y p.n = ⟨#[108, 111, 111, 112]⟩) ↔ p.next.length = 2) := by
  rcases h with ⟨h1, h2⟩ | ⟨h1, h2, h3⟩ | ⟨h1, h2, h3⟩ | ⟨h1, h2⟩ | ⟨h1, h2⟩
  · rw [h1, h2]
    have e : ptxT 9 p.x p.y p.n = ⟨#[105, 102]⟩ := rfl
    rw [e]
    exact ⟨by decide, by simp⟩
  · rw [h1, h2, h3]
    have e : ptxT 10 p.x p.y 1 = ⟨#[103, 111]⟩ := rfl
    rw [e]
    exact ⟨by decide, by decide⟩
  · rw [h1, h2, h3]
    have e : ptxT 10 p.x p.y 0 = ⟨#[108, 111, 111, 112]⟩ := rfl
    rw [e]
    exact ⟨by decide, by simp⟩
  · rw [h1, h2]
    have e : ptxT 11 p.x p.y p.n = ⟨#[101, 110, 100]⟩ := rfl
    rw [e]
    exact ⟨by decide, by decide⟩
  · rw [ptxT_good (simple_good h6 h1), h2]
    obtain ⟨o1, o8, -⟩ := simple_x h1
    obtain ⟨n1, n2, n3⟩ := smpT_not (x := p.x) (y := p.y) (n := p.n) o1 o8
    exact ⟨n1, by simp [n2, n3]⟩

end Go.Proofs.YtfioaohadanjmaaDoor

/- Plain: what flows into variables along points (cells, numbers, setters, loans), as a least set. No program in sight. -/
namespace Go.Proofs.YtfioaohadanjmaaDoor

/-- what v has behind point i (p), where b says what there is before it -/
def aftB (ts : List Int) (G : Nat → Pt → Nat → Bool) (C : Pt → Bool) (i : Nat) (p : Pt) (b : Nat → Nat → Bool) (v e : Nat) : Bool :=
  if setsP p.op p.x = (v : Int) then G i p e || (C p && b p.y.toNat e) else b v e && !(useP ts p.op p.x p.y (v : Int) == 2)
/-- what v has before a point -/
inductive Fl (ts : List Int) (pts : List Pt) (G : Nat → Pt → Nat → Bool) (C : Pt → Bool) : Nat → Nat → Nat → Prop
  | gen {i k v e : Nat} {p : Pt} (hp : pts[i]? = some p) (hk : k ∈ p.next) (hv : v < ts.length) (hs : setsP p.op p.x = (v : Int)) (h : G i p e = true) : Fl ts pts G C k v e
  | copy {i k v e : Nat} {p : Pt} (hp : pts[i]? = some p) (hk : k ∈ p.next) (hv : v < ts.length) (hs : setsP p.op p.x = (v : Int)) (hc : C p = true) (hi : Fl ts pts G C i p.y.toNat e) : Fl ts pts G C k v e
  | keep {i k v e : Nat} {p : Pt} (hp : pts[i]? = some p) (hk : k ∈ p.next) (hv : v < ts.length) (hs : setsP p.op p.x ≠ (v : Int)) (ht : useP ts p.op p.x p.y (v : Int) ≠ 2) (hi : Fl ts pts G C i v e) : Fl ts pts G C k v e
theorem Fl.lt {ts : List Int} {pts : List Pt} {G : Nat → Pt → Nat → Bool} {C : Pt → Bool} {i v e : Nat} (h : Fl ts pts G C i v e) : v < ts.length := by
  cases h <;> assumption
theorem Fl.size {ts : List Int} {pts : List Pt} {G : Nat → Pt → Nat → Bool} {C : Pt → Bool} {s i v e : Nat} (h : Fl ts pts G C i v e) (hg : ∀ i p e, pts[i]? = some p → G i p e = true → e < s) : e < s := by
  induction h with
  | gen hp _ _ _ h => exact hg _ _ _ hp h
  | copy _ _ _ _ _ _ ih => exact ih
  | keep _ _ _ _ _ _ ih => exact ih
/-- one step goes on being right -/
theorem Fl.aft {ts : List Int} {pts : List Pt} {G : Nat → Pt → Nat → Bool} {C : Pt → Bool} {b : Nat → Nat → Bool} {i k v e : Nat} {p : Pt} (hb : ∀ v e, b v e = true → Fl ts pts G C i v e) (hp : pts[i]? = some p) (hk : k ∈ p.next) (hv : v < ts.length) (h : aftB ts G C i p b v e = true) : Fl ts pts G C k v e := by
  unfold aftB at h
  split at h
  · rename_i hs
    rw [Bool.or_eq_true, Bool.and_eq_true] at h
    rcases h with h | ⟨hc, h⟩
    · exact .gen hp hk hv hs h
    · exact .copy hp hk hv hs hc (hb _ _ h)
  · rename_i hs
    rw [Bool.and_eq_true] at h
    exact .keep hp hk hv hs (by simpa using h.2) (hb _ _ h.1)
end Go.Proofs.YtfioaohadanjmaaDoor

/- Plain: runs with choices. No program in sight. -/
namespace Go.Proofs.YtfioaohadanjmaaDoor

end Go.Proofs.YtfioaohadanjmaaDoor

/- Plain: which points lead to which. No program in sight. -/
namespace Go.Proofs.YtfioaohadanjmaaDoor

/-- a leads to b in one step or more -/
inductive Lds (pts : List Pt) : Nat → Nat → Prop
  | one {a b : Nat} {p : Pt} (hp : pts[a]? = some p) (hb : b ∈ p.next) : Lds pts a b
  | more {a k b : Nat} {p : Pt} (hp : pts[a]? = some p) (hk : k ∈ p.next) (h : Lds pts k b) : Lds pts a b
theorem Lds.trans {pts : List Pt} {a b c : Nat} (h : Lds pts a b) (k : Lds pts b c) : Lds pts a c := by
  induction h with
  | one hp hb => exact .more hp hb k
  | more hp hk _ ih => exact .more hp hk (ih k)
theorem getD_setT {α : Type} {l : List α} {k i : Nat} {x d : α} (hk : k < l.length) : (l.set k x).getD i d = if i = k then x else l.getD i d := by
  by_cases h : i = k
  · subst h; simp [List.getD, hk]
  · simp [List.getD, h, Ne.symm h]
/-- the state of the search for what a leads to: marks, and the points that are still to be looked at -/
structure FrI (pts : List Pt) (a : Nat) (fl : List Bool) (q : List Nat) : Prop where
  len : fl.length = pts.length
  snd : ∀ k, fl.getD k false = true → Lds pts a k
  qok : ∀ k ∈ q, Lds pts a k ∧ k < pts.length
  st : ∀ p, pts[a]? = some p → ∀ k ∈ p.next, fl.getD k false = true ∨ k ∈ q
  cl : ∀ k p, fl.getD k false = true → pts[k]? = some p → ∀ j ∈ p.next, fl.getD j false = true ∨ j ∈ q
theorem FrI.init {pts : List Pt} {a : Nat} {p : Pt} (hp : pts[a]? = some p) (hn : ∀ p ∈ pts, ∀ k ∈ p.next, k < pts.length) : FrI pts a (List.replicate pts.length false) p.next := by
  have h0 : ∀ k, (List.replicate pts.length false).getD k false = false := fun k => by
    by_cases hk : k < pts.length
    · rw [getD_lt (by simpa using hk)]; simp
    · rw [getD_ge (by simpa using hk)]
  refine ⟨by simp, fun k hk => ?_, fun k hk => ⟨.one hp hk, hn _ (List.mem_of_getElem? hp) _ hk⟩, fun p' hp' k hk => ?_, fun k p' hk => ?_⟩
  · rw [h0] at hk; cases hk
  · rw [hp] at hp'; injection hp' with e; subst e; exact .inr hk
  · rw [h0] at hk; cases hk
theorem FrI.skip {pts : List Pt} {a k : Nat} {fl : List Bool} {r : List Nat} (h : FrI pts a fl (k :: r)) (hk : fl.getD k false = true) : FrI pts a fl r := by
  refine ⟨h.len, h.snd, fun j hj => h.qok j (List.mem_cons_of_mem _ hj), fun p hp j hj => ?_, fun i p hi hp j hj => ?_⟩
  · rcases h.st p hp j hj with h1 | h1
    · exact .inl h1
    · rcases List.mem_cons.1 h1 with rfl | h2
      · exact .inl hk
      · exact .inr h2
  · rcases h.cl i p hi hp j hj with h1 | h1
    · exact .inl h1
    · rcases List.mem_cons.1 h1 with rfl | h2
      · exact .inl hk
      · exact .inr h2
end Go.Proofs.YtfioaohadanjmaaDoor

/- Plain: the state of a search whose sets are numbers of 64 bits, six for each point. No program in sight. -/
namespace Go.Proofs.YtfioaohadanjmaaDoor

def top64 : Nat := 2 ^ 64
theorem or_top {a b : Nat} (ha : a < top64) (hb : b < top64) : a ||| b < top64 := Nat.or_lt_two_pow ha hb
def stF (fs : List Nat) (i v e : Nat) : Bool := decide (v < 6) && (fs.getD (i * 6 + v) 0).testBit e
structure TrI (ts : List Int) (pts : List Pt) (G : Nat → Pt → Nat → Bool) (C : Pt → Bool) (fs : List Nat) : Prop where
  len : fs.length = pts.length * 6
  small : ∀ m ∈ fs, m < top64
  snd : ∀ i v e, stF fs i v e = true → Fl ts pts G C i v e
theorem TrI.init (ts : List Int) (pts : List Pt) (G : Nat → Pt → Nat → Bool) (C : Pt → Bool) : TrI ts pts G C (List.replicate (pts.length * 6) 0) := by
  refine ⟨by simp, fun m hm => ?_, fun i v e h => ?_⟩
  · rw [(List.mem_replicate.1 hm).2]; exact Nat.two_pow_pos _
  · have h0 : (List.replicate (pts.length * 6) 0).getD (i * 6 + v) 0 = 0 := by
      by_cases hk : i * 6 + v < pts.length * 6
      · rw [getD_lt (by simpa using hk)]; simp
      · rw [getD_ge (by simpa using hk)]
    unfold stF at h
    rw [h0] at h; simp at h
theorem getD_small {fs : List Nat} (h : ∀ m ∈ fs, m < top64) (k : Nat) : fs.getD k 0 < top64 := by
  by_cases hk : k < fs.length
  · rw [getD_lt hk]; exact h _ (List.getElem_mem hk)
  · rw [getD_ge (by omega)]; exact Nat.two_pow_pos _
theorem stF_set {fs : List Nat} {k v s i u e : Nat} (hk : k * 6 + v < fs.length) (hv : v < 6) : stF (fs.set (k * 6 + v) (fs.getD (k * 6 + v) 0 ||| s)) i u e = (stF fs i u e || (decide (i = k) && decide (u = v) && s.testBit e)) := by
  unfold stF
  rw [getD_setT hk]
  by_cases hu : u < 6
  · rw [decide_eq_true hu]
    by_cases e1 : i = k
    · by_cases e2 : u = v
      · rw [if_pos (by omega), e1, e2, Nat.testBit_or]; simp
      · rw [if_neg (by omega)]; simp [e2]
    · rw [if_neg (by omega)]; simp [e1]
  · have : ¬ u = v := by omega
    simp [hu, this]
theorem TrI.upd {ts : List Int} {pts : List Pt} {G : Nat → Pt → Nat → Bool} {C : Pt → Bool} {fs : List Nat} {k v s : Nat} (h : TrI ts pts G C fs) (hk : k < pts.length) (hv : v < 6) (hs : s < top64) (hf : ∀ e, s.testBit e = true → Fl ts pts G C k v e) : TrI ts pts G C (fs.set (k * 6 + v) (fs.getD (k * 6 + v) 0 ||| s)) := by
  have hl : k * 6 + v < fs.length := by rw [h.len]; omega
  refine ⟨by simp [h.len], fun m hm => ?_, fun i u e he => ?_⟩
  · rcases List.mem_or_eq_of_mem_set hm with hm | rfl
    · exact h.small m hm
    · exact or_top (getD_small h.small _) hs
  · rw [stF_set hl hv, Bool.or_eq_true] at he
    rcases he with he | he
    · exact h.snd i u e he
    · simp only [Bool.and_eq_true, decide_eq_true_eq] at he
      obtain ⟨⟨rfl, rfl⟩, he⟩ := he
      exact hf e he
/-- the sets behind a point -/
def AfL (ts : List Int) (G : Nat → Pt → Nat → Bool) (C : Pt → Bool) (i : Nat) (p : Pt) (b : Nat → Nat → Bool) (af : List Nat) : Prop := af.length = 6 ∧ ∀ v, v < 6 → af.getD v 0 < top64 ∧ ∀ e, (af.getD v 0).testBit e = aftB ts G C i p b v e
theorem AfL.snd {ts : List Int} {pts : List Pt} {G : Nat → Pt → Nat → Bool} {C : Pt → Bool} {fs af : List Nat} {i k v e : Nat} {p : Pt} (h : TrI ts pts G C fs) (ha : AfL ts G C i p (stF fs i) af) (hp : pts[i]? = some p) (hk : k ∈ p.next) (hx : setsP p.op p.x < ts.length) (hv : v < 6) (he : (af.getD v 0).testBit e = true) : Fl ts pts G C k v e := by
  rw [(ha.2 v hv).2 e] at he
  by_cases hvl : v < ts.length
  · exact Fl.aft (h.snd i) hp hk hvl he
  · unfold aftB at he
    split at he
    · rename_i hs; omega
    · rw [Bool.and_eq_true] at he
      exact absurd (h.snd i v e he.1).lt hvl
end Go.Proofs.YtfioaohadanjmaaDoor

/- Words on uint64; impl.loanBits. -/
namespace Go.Proofs.YtfioaohadanjmaaDoor
open Go.RowKit

end Go.Proofs.YtfioaohadanjmaaDoor

/- Words for the exact laws: arguments of any size, the counting of sizes, trees of statements that a call made, marks. -/
namespace Go.Proofs.YtfioaohadanjmaaDoor
open Go.RowKit

/-- The slice value v reads as the ints l, however long. -/
def AnI (w : World) (B : Nat) (v : Value) (l : List Int) : Prop :=
  ∃ A c, v = .slice A l.length c ∧ l.length ≤ c ∧ l.length ≤ maxLen ∧ Rd w B 1 A l.length (l.map (.int .i64))
theorem AnI.low {w w' : World} {B B' : Nat} {v : Value} {l : List Int} (h : AnI w B v l) (hb : Below B' w w') (hB : B ≤ B') : AnI w' B v l := by
  obtain ⟨A, c, e, h1, h2, h3⟩ := h
  exact ⟨A, c, e, h1, h2, h3.low hb hB⟩
theorem AnI.toS {w : World} {B : Nat} {v : Value} {l : List Int} (h : AnI w B v l) (hl : l.length ≤ 4194304) : IntS w B v l := by
  obtain ⟨A, c, e, h1, h2, h3⟩ := h
  exact ⟨A, c, e, h1, hl, h3⟩

/-- a struct stored into a row -/
theorem RowB.putL {g : Nat} {t : TypeId} : ∀ (vs : List Value) (o : Nat) (w : World) (L : List Value), RowB w g t L → o + vs.length ≤ L.length → ∃ L', RowB (w.setCells g o vs) g t L' ∧ L'.length = L.length ∧ ∀ j, L'[j]? = if o ≤ j ∧ j < o + vs.length then vs[j - o]? else L[j]?
  | [], o, w, L, h, _ => ⟨L, h, rfl, fun j => by rw [if_neg (by simp only [List.length_nil]; omega)]⟩
  | v :: vs, o, w, L, h, hl => by
    simp only [List.length_cons] at hl
    obtain ⟨L', h1, h2, h3⟩ := RowB.putL vs (o + 1) (w.setCell ⟨g, o, none⟩ v) (L.set o v) (h.set_ o v) (by simp; omega)
    refine ⟨L', h1, by rw [h2]; simp, fun j => ?_⟩
    rw [h3]
    simp only [List.length_cons]
    by_cases e : j = o
    · subst e
      rw [if_neg (by omega), if_pos ⟨by omega, by omega⟩, List.getElem?_set_self (by omega), Nat.sub_self]; rfl
    · by_cases e2 : o + 1 ≤ j ∧ j < o + 1 + vs.length
      · rw [if_pos e2, if_pos ⟨by omega, by omega⟩, show j - o = (j - (o + 1)) + 1 by omega]; rfl
      · rw [if_neg e2, if_neg (by omega), List.getElem?_set_ne (Ne.symm e)]
theorem below_putL {B g : Nat} (hg : B ≤ g) : ∀ (vs : List Value) (o : Nat) (w : World), Below B w (w.setCells g o vs)
  | [], _, w => Below.refl B w
  | v :: r, o, w => ((Below.refl B w).setCell (p := ⟨g, o, none⟩) hg v).trans (below_putL hg r (o + 1) _)
theorem heap_putL {g b : Nat} (hb : b ≠ g) : ∀ (vs : List Value) (o : Nat) (w : World), (w.setCells g o vs).heap[b]? = w.heap[b]?
  | [], _, w => rfl
  | v :: r, o, w => (heap_putL hb r (o + 1) _).trans (heap_setCell_other w ⟨g, o, none⟩ b v hb)
theorem size_putL {g : Nat} : ∀ (vs : List Value) (o : Nat) (w : World), (w.setCells g o vs).heap.size = w.heap.size
  | [], _, w => rfl
  | v :: r, o, w => (size_putL r (o + 1) _).trans (by simp)
/-- .. the whole row -/
theorem RowB.putAll {w : World} {g : Nat} {t : TypeId} {L : List Value} (vs : List Value) (h : RowB w g t L) (hl : vs.length = L.length) : RowB (w.setCells g 0 vs) g t vs := by
  obtain ⟨L', h1, h2, h3⟩ := RowB.putL vs 0 w L h (by omega)
  have e : L' = vs := by
    apply List.ext_getElem?
    intro j
    rw [h3]
    by_cases hj : j < vs.length
    · rw [if_pos ⟨by omega, by omega⟩, Nat.sub_zero]
    · rw [if_neg (by omega), List.getElem?_eq_none (by omega), List.getElem?_eq_none (by omega)]
  rwa [e] at h1

/-- All lists in l are no longer than a slice can be. -/
inductive Lens : List St → Prop where
  | mk (l : List St) (hl : l.length ≤ maxLen) (ht : ∀ i (h : i < l.length), Lens l[i].th) (he : ∀ i (h : i < l.length), Lens l[i].el) : Lens l
theorem Lens.le {l : List St} (h : Lens l) : l.length ≤ maxLen := by cases h; assumption
theorem Lens.th {l : List St} (h : Lens l) {i : Nat} (hi : i < l.length) : Lens l[i].th := by
  cases h with
  | mk l hl ht he => exact ht i hi
theorem Lens.el {l : List St} (h : Lens l) {i : Nat} (hi : i < l.length) : Lens l[i].el := by
  cases h with
  | mk l hl ht he => exact he i hi

/-- a tree of statements in rows of a call's own, each at its block's begin, the blocks meet P; ints: their numbers are those of l -/
inductive TrS (w : World) (P : Nat → Prop) (ints : Bool) : Value → List St → Prop where
  | mk (b c : Nat) (cs : List Value) (l : List St) (tv ev : Nat → Value) (hlo : P b) (hb : RowB w b 47 cs) (hcs : l.length * 6 ≤ cs.length) (hc : l.length ≤ c)
      (hi : ints = true → ∀ i (h : i < l.length), cs[i * 6]? = some (.int .i64 l[i].op) ∧ cs[i * 6 + 1]? = some (.int .i64 l[i].x) ∧ cs[i * 6 + 2]? = some (.int .i64 l[i].y) ∧ cs[i * 6 + 3]? = some (.int .i64 l[i].n))
      (hv : ∀ i (h : i < l.length), cs[i * 6 + 4]? = some (tv i) ∧ cs[i * 6 + 5]? = some (ev i))
      (ht : ∀ i (h : i < l.length), TrS w P ints (tv i) l[i].th) (he : ∀ i (h : i < l.length), TrS w P ints (ev i) l[i].el) : TrS w P ints (.slice (some ⟨b, 0, none⟩) l.length c) l

theorem TrS.slice {w : World} {P : Nat → Prop} {t : Bool} {v : Value} {l : List St} (h : TrS w P t v l) : ∃ b c, v = .slice (some ⟨b, 0, none⟩) l.length c ∧ P b ∧ b < w.heap.size ∧ l.length ≤ c := by
  cases h with
  | mk b c cs l tv ev hlo hb hcs hc hi hv ht he => exact ⟨b, c, rfl, hlo, hb.lt, hc⟩
theorem TrS.toS {w : World} {P : Nat → Prop} {v : Value} {l : List St} (h : TrS w P true v l) : StS w w.heap.size v l := by
  generalize ht0 : true = t at h
  induction h with
  | mk b c cs l tv ev hlo hb hcs hc hi hv ht he iht ihe =>
    refine .mk _ c l tv ev hc (fun hn => ⟨b, 0, rfl, hb.lt, fun i h => ?_⟩) iht ihe
    obtain ⟨h0, h1, h2, h3⟩ := hi ht0.symm i h
    obtain ⟨h4, h5⟩ := hv i h
    simp only [hb.cell, Nat.zero_add]
    exact ⟨h0, h1, h2, h3, h4, h5⟩
theorem TrS.frame {w w' : World} {P P' : Nat → Prop} {t : Bool} {v : Value} {l : List St} (h : TrS w P t v l) (hk : ∀ b, P b → b < w.heap.size → P' b ∧ w'.heap[b]? = w.heap[b]?) : TrS w' P' t v l := by
  induction h with
  | mk b c cs l tv ev hl hb hcs hc hi hv ht he iht ihe =>
    have k := hk b hl hb.lt
    exact .mk b c cs l tv ev k.1 (k.2.trans hb) hcs hc hi hv iht ihe
theorem TrS.bel {w w' : World} {P : Nat → Prop} {t : Bool} {v : Value} {l : List St} (h : TrS w P t v l) (hb : Below w.heap.size w w') : TrS w' P t v l :=
  h.frame fun b hp hb' => ⟨hp, hb.block b hb'⟩
theorem TrS.get {w : World} {P : Nat → Prop} {t : Bool} {b c n : Nat} {l : List St} (h : TrS w P t (.slice (some ⟨b, 0, none⟩) n c) l) {k : Nat} (hk : k < l.length) :
    ∃ cs tv ev, P b ∧ RowB w b 47 cs ∧ l.length * 6 ≤ cs.length ∧ cs[k * 6 + 4]? = some tv ∧ cs[k * 6 + 5]? = some ev ∧ TrS w P t tv l[k].th ∧ TrS w P t ev l[k].el := by
  cases h with
  | mk b c cs l tv ev hlo hb hcs hc hi hv ht he => exact ⟨cs, tv k, ev k, hlo, hb, hcs, (hv k hk).1, (hv k hk).2, ht k hk, he k hk⟩

/-- w' is w but for blocks that meet P; there, rows of statements keep their slices -/
structure Mk (P : Nat → Prop) (w w' : World) : Prop where
  os : w'.os = w.os
  tape : w'.tape = w.tape
  output : w'.output = w.output
  size : w'.heap.size = w.heap.size
  oth : ∀ b : Nat, ¬ P b → w'.heap[b]? = w.heap[b]?
  row : ∀ b cs, RowB w b 47 cs → ∃ cs', RowB w' b 47 cs' ∧ cs'.length = cs.length ∧ ∀ i, (i % 6 = 4 ∨ i % 6 = 5) → cs'[i]? = cs[i]?
theorem Mk.refl (P : Nat → Prop) (w : World) : Mk P w w := ⟨rfl, rfl, rfl, rfl, fun _ _ => rfl, fun b cs h => ⟨cs, h, rfl, fun _ _ => rfl⟩⟩
theorem Mk.trans {P : Nat → Prop} {a b c : World} (h : Mk P a b) (k : Mk P b c) : Mk P a c :=
  ⟨k.os.trans h.os, k.tape.trans h.tape, k.output.trans h.output, k.size.trans h.size, fun i hi => (k.oth i hi).trans (h.oth i hi), fun g cs hg => by
    obtain ⟨cs1, h1, l1, e1⟩ := h.row g cs hg
    obtain ⟨cs2, h2, l2, e2⟩ := k.row g cs1 h1
    exact ⟨cs2, h2, l2.trans l1, fun i hi => (e2 i hi).trans (e1 i hi)⟩⟩
theorem Mk.bel {P : Nat → Prop} {w w' : World} (h : Mk P w w') {lo : Nat} (hl : ∀ b, P b → lo ≤ b) : Below lo w w' :=
  ⟨h.os, h.tape, h.output, Nat.le_of_eq h.size.symm, fun b hb => h.oth b fun hp => by have := hl b hp; omega⟩
theorem Mk.set_ {P : Nat → Prop} {w : World} {g : Nat} (i : Nat) (u : Value) (hg : P g) (hi : i % 6 < 4) : Mk P w (w.setCell ⟨g, i, none⟩ u) := by
  refine ⟨rfl, rfl, rfl, by simp, fun b hb => heap_setCell_other w ⟨g, i, none⟩ b u (fun e => hb (by rw [e]; exact hg)), fun b cs hb => ?_⟩
  by_cases hbg : b = g
  · subst hbg
    refine ⟨_, hb.set_ i u, by simp, fun j hj => ?_⟩
    rw [List.getElem?_set_ne (by omega)]
  · exact ⟨cs, hb.other hbg i u, rfl, fun _ _ => rfl⟩
end Go.Proofs.YtfioaohadanjmaaDoor
