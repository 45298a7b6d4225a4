import Derived.Test.YtfioaohadanjmaaC27
import Derived.StillTailTactics
import Derived.Test.YtfioaohadanjmaaC18
import Derived.Test.YtfioaohadanjmaaC31
import Derived.Test.YtfioaohadanjmaaC20
import Derived.Test.YtfioaohadanjmaaC12
set_option linter.unusedVariables false

/- spec.l10Flow. -/
namespace Go.Proofs.Ytfioaohadanjmaa
open Go.RowKit

end Go.Proofs.Ytfioaohadanjmaa

/- spec.l3Point, CellsOf, SettersOf, NumbersOf, MayAlias, UsersOf. -/
namespace Go.Proofs.Ytfioaohadanjmaa
open Go.RowKit

/-- the row of a point and a variable in a flow -/
theorem B3.get {w : World} {base s n c k v m : Nat} {A : Option Addr} {mv : List Value} {rbs : List (List Nat)} {R : List (List (List Bool))} (h : B3 w base (.slice A n c) mv rbs s R) (hk : k < R.length) (hm : (R.getD k []).length = m) (hv : v < m) (hl : ((R.getD k []).getD v []).length = s) (hs : s ≤ 100) :
    ∃ g g2 r c2, A = some ⟨g, 0, none⟩ ∧ n = R.length ∧ w.cell? ⟨g, k, none⟩ = some (.slice (some ⟨g2, 0, none⟩) m c2) ∧ m ≤ c2 ∧ w.cell? ⟨g2, v, none⟩ = some (.slice (some ⟨r, 0, none⟩) s s) ∧ RowB w r 4 (bv ((R.getD k []).getD v [])) := by
  obtain ⟨g, e, _, _, hn, hc⟩ := h.at_ hk
  have hb := h.mid k hk
  obtain ⟨g2, c2, e2, _, _, hc2, hcell, _⟩ := hb.form (by omega)
  rw [e2, hm] at hc
  exact ⟨g, g2, (rbs.getD k []).getD v 0, c2, e, hn, hc, by omega, hcell v (by omega), (hb.row v (by omega)).1⟩
end Go.Proofs.Ytfioaohadanjmaa

/- spec.LoansIn, PlacedLoans, l4Live, LiveLoans. -/
namespace Go.Proofs.Ytfioaohadanjmaa
open Go.RowKit

/-- one row of one state -/
theorem B4.get {w : World} {base s : Nat} {vo : Value} {ps : List (Value × Nat)} {rbs : List (List Nat)} {R : List (List (List Bool))} {Q : List (List Bool)} (h : B4 w base vo ps rbs s R Q) {k v m : Nat} (hk : k < R.length) (hm : (R.getD k []).length = m) (hv : v < m) :
    ∃ g c g2 c2 r, vo = .slice (some ⟨g, 0, none⟩) R.length c ∧ g < w.heap.size ∧ w.cell? ⟨g, k * 2, none⟩ = some (.slice (some ⟨g2, 0, none⟩) m c2) ∧ g2 < w.heap.size ∧ w.cell? ⟨g2, v, none⟩ = some (.slice (some ⟨r, 0, none⟩) s s) ∧ RowB w r 4 (bv ((R.getD k []).getD v [])) := by
  subst hm
  obtain ⟨A, c, rfl, hc⟩ := h.slice
  obtain ⟨g, ea, hg, hgl, -, hgk, -⟩ := h.at_ hk
  subst ea
  have hmid := h.mid k hk
  obtain ⟨g2, c2, e2, hg2, hg2l, -, hcell, -⟩ := hmid.form (by omega)
  rw [e2] at hgk
  exact ⟨g, c, g2, c2, _, rfl, hgl, hgk, hg2l, hcell v hv, (hmid.row v hv).1⟩
end Go.Proofs.Ytfioaohadanjmaa

/- spec.l4Live. -/
namespace Go.Proofs.Ytfioaohadanjmaa
open Go.RowKit

/-- what the variable v keeps, with the live variables LV and the rows F -/
def lvB (ts : List Int) (op x y : Int) (F : List (List Bool)) (LV : List Bool) (e v : Nat) : Bool := LV.getD v false && (decide ((v : Int) ≠ setsP op x) && (decide (useP ts op x y (v : Nat) ≠ 2) && (F.getD v []).getD e false))
def lvA (ts : List Int) (op x y : Int) (F : List (List Bool)) (LV : List Bool) (n e : Nat) : Bool := (List.range n).any (lvB ts op x y F LV e)
theorem lvA_succ (ts : List Int) (op x y : Int) (F : List (List Bool)) (LV : List Bool) (n e : Nat) : lvA ts op x y F LV (n + 1) e = (lvA ts op x y F LV n e || lvB ts op x y F LV e n) := by
  unfold lvA; rw [List.range_succ, List.any_append]; simp
def L4Ret (w : World) (ts : List Int) (np : Nat) (op x y : Int) (F : List (List Bool)) (LV : List Bool) (e : Ending) (w' : World) : Prop :=
  ∃ (g : Nat) (L : List Bool), e = .returned (.slice (some ⟨g, 0, none⟩) np np) ∧ RowB w' g 4 (bv L) ∧ L.length = np ∧ (∀ e, e < np → L.getD e false = lvA ts op x y F LV ts.length e) ∧ Below w.heap.size w w'
set_option maxHeartbeats 8000000 in
set_option maxRecDepth 100000 in
theorem l4Live_any (vt vf vl : Value) (Ap : Option Addr) (cp : Nat) (ts : List Int) (op x y n : Int) (nv : Value) (B np : Nat) (F : List (List Bool)) (LV : List Bool) (Pf Pl : Nat → Prop) (w : World)
    (ht : IntS w B vt ts) (hB : B ≤ w.heap.size) (hf : RwX w Pf vf F) (hv : BoolX w Pl vl LV) (hl : F.length = ts.length) (hr : ∀ v, v < ts.length → (F.getD v []).length = np) (hcp : np ≤ cp) (hlv : LV.length = ts.length) (h6 : ts.length ≤ 6) (hnp : np ≤ 64) :
    Calls Try.prog 63 #[vt, .agg #[.int .i64 op, .int .i64 x, .int .i64 y, .int .i64 n, nv], .agg #[vf, .slice Ap np cp], vl] w (L4Ret w ts np op x y F LV) := by
  have HT := Lib.hid ht
  have HF := Lib.hid hf
  have HV := Lib.hid hv
  have HR := Lib.hid hr
  obtain ⟨Af, cf, rfl, hcf⟩ := hf.slice
  obtain ⟨Al, cl, rfl, hcl⟩ := hv.slice
  have HL := Lib.hid hl
  have HLN := Lib.hid hlv
  rw [hl] at hcf ⊢
  rw [hlv] at hcl ⊢
  clear ht hf hv hr hl hlv
  have HW : Hid (((w.alloc (.cells #[.int .i64 op, .int .i64 x, .int .i64 y, .int .i64 n, nv] 62)).alloc (.cells #[.slice Af ts.length cf, .slice Ap np cp] 99)).heap.size = w.heap.size + 2) := Lib.hid (by simp)
  have HB0 : Hid (Below w.heap.size w ((w.alloc (.cells #[.int .i64 op, .int .i64 x, .int .i64 y, .int .i64 n, nv] 62)).alloc (.cells #[.slice Af ts.length cf, .slice Ap np cp] 99))) := Lib.hid ((bel_a w _).alloc (by simp) _)
  have HR0 : Hid (RowB ((w.alloc (.cells #[.int .i64 op, .int .i64 x, .int .i64 y, .int .i64 n, nv] 62)).alloc (.cells #[.slice Af ts.length cf, .slice Ap np cp] 99)) w.heap.size 62 [.int .i64 op, .int .i64 x, .int .i64 y, .int .i64 n, nv]) := Lib.hid ((RowB.new w [.int .i64 op, .int .i64 x, .int .i64 y, .int .i64 n, nv] 62).alloc _)
  have HR1 : Hid (RowB ((w.alloc (.cells #[.int .i64 op, .int .i64 x, .int .i64 y, .int .i64 n, nv] 62)).alloc (.cells #[.slice Af ts.length cf, .slice Ap np cp] 99)) (w.heap.size + 1) 99 [.slice Af ts.length cf, .slice Ap np cp]) := Lib.hid (by
    have h := RowB.new (w.alloc (.cells #[.int .i64 op, .int .i64 x, .int .i64 y, .int .i64 n, nv] 62)) [.slice Af ts.length cf, .slice Ap np cp] 99
    rw [show (w.alloc (.cells #[.int .i64 op, .int .i64 x, .int .i64 y, .int .i64 n, nv] 62)).heap.size = w.heap.size + 1 by simp] at h
    exact h)
  have hmk := make_bools np (by omega)
  have HMK := Lib.hid hmk
  clear hmk
  go_enter Try.func63, Try.ntmps63
  go_upto_region 1 with (at_builtin; fail)
  generalize ((w.alloc (.cells #[.int .i64 op, .int .i64 x, .int .i64 y, .int .i64 n, nv] 62)).alloc (.cells #[.slice Af ts.length cf, .slice Ap np cp] 99)) = W2 at *
  have p1 : W2.cell? ⟨w.heap.size + 1, 1, none⟩ = some (.slice Ap np cp) := HR1.out.cell 1
  have hmk := HMK.out
  have HRZ : Hid ((List.replicate np false).length = np ∧ ∀ e, (List.replicate np false).getD e false = false) := Lib.hid ⟨by simp, fun e => rep_get'⟩
  generalize List.replicate np false = rz at *
  have HRV := Lib.hid (RowB.new W2 (bv rz) 4)
  have HBZ := Lib.hid (bel_a W2 (.cells (bv rz).toArray 4))
  have hsW := HW.out
  have HSZ : Hid ((W2.alloc (.cells (bv rz).toArray 4)).heap.size = w.heap.size + 3) := Lib.hid (by simp; omega)
  go_wp2_with (at_builtin; fail)
  generalize W2.alloc (.cells (bv rz).toArray 4) = W3 at *
  rw [hsW] at HRV
  have HR03 := Lib.hid (HR0.out.low HBZ.out HR0.out.lt)
  have HR13 := Lib.hid (HR1.out.low HBZ.out HR1.out.lt)
  have HB3 := Lib.hid (HB0.out.trans (HBZ.out.mono HB0.out.size))
  have HT3 := Lib.hid (HT.out.low HB3.out hB)
  have HF3 := Lib.hid (HF.out.frame (P' := fun b => b < w.heap.size) (w' := W3) HB3.out.size fun b _ hl => ⟨hl, HB3.out.block b hl⟩)
  have HV3 := Lib.hid (HV.out.frame (P' := fun b => b < w.heap.size) (w' := W3) HB3.out.size fun b _ hl => ⟨hl, HB3.out.block b hl⟩)
  have hs3 := HSZ.out
  clear p1 hmk hsW
  go_loopw [10] (fun i wr => ∃ (v : Nat) (L : List Bool), i = .int .i64 v ∧ v ≤ ts.length ∧ RowB wr (w.heap.size + 2) 4 (bv L) ∧ L.length = np ∧ (∀ e, e < np → L.getD e false = lvA ts op x y F LV v e) ∧ Onl (fun b => b = w.heap.size + 2) W3 wr) (fun i _ => ts.length - (intOf i).toNat)
  case atStart => exact ⟨0, rz, rfl, Nat.zero_le _, HRV.out, HRZ.out.1, fun e _ => by rw [HRZ.out.2]; rfl, Onl.refl _ _⟩
  case round =>
    obtain ⟨v, L, rfl, hvl, hrv, hll, hA, hon⟩ := hrel
    have HA := Lib.hid hA
    have HRW := Lib.hid hrv
    have HLL := Lib.hid hll
    have HON := Lib.hid hon
    have HBW := Lib.hid (hon.below (B := w.heap.size + 2) (by omega) (fun k hk => by have : k = w.heap.size + 2 := hk; omega))
    have hsr : w.heap.size + 3 ≤ wr.heap.size := by have := hon.size; omega
    clear hA hrv hll hon
    have HX := Lib.hid (HR03.out.low HBW.out (by omega))
    have HX1 := Lib.hid (HR13.out.low HBW.out (by omega))
    have x0 : wr.cell? ⟨w.heap.size, 0, none⟩ = some (.int .i64 op) := HX.out.cell 0
    have x1 : wr.cell? ⟨w.heap.size, 1, none⟩ = some (.int .i64 x) := HX.out.cell 1
    have x2 : wr.cell? ⟨w.heap.size, 2, none⟩ = some (.int .i64 y) := HX.out.cell 2
    have x3 : wr.cell? ⟨w.heap.size, 3, none⟩ = some (.int .i64 n) := HX.out.cell 3
    have x4 : wr.cell? ⟨w.heap.size, 4, none⟩ = some nv := HX.out.cell 4
    by_cases hlt : v < ts.length
    · have HTW := Lib.hid (HT3.out.low (HBW.out.mono (B' := B) (by omega)) (Nat.le_refl _))
      have HVW := Lib.hid (HV3.out.frame (P' := fun b => b < w.heap.size) (w' := wr) (by omega) fun b hb hl => ⟨hb, HBW.out.block b (by have hb' : b < w.heap.size := hb; omega)⟩)
      have HFW := Lib.hid (HF3.out.frame (P' := fun b => b < w.heap.size) (w' := wr) (by omega) fun b hb hl => ⟨hb, HBW.out.block b (by have hb' : b < w.heap.size := hb; omega)⟩)
      obtain ⟨b, off, rfl, hpb, hbl, -, hcell⟩ := HVW.out.at_ (k := v) (by rw [HLN.out]; exact hlt)
      have HSU := Lib.hid (fun e => lvA_succ ts op x y F LV v e)
      have HKB : Hid (∀ w8, Below wr.heap.size wr w8 → Onl (fun b => b = w.heap.size + 2) W3 w8 ∧ RowB w8 (w.heap.size + 2) 4 (bv L)) := Lib.hid fun w8 h8 => ⟨HON.out.trans (Onl.bel h8), HRW.out.low h8 HRW.out.lt⟩
      cases hlv1 : LV.getD v false
      · rw [hlv1] at hcell
        have HBF : Hid (∀ e, lvB ts op x y F LV e v = false) := Lib.hid fun e => by unfold lvB; rw [hlv1]; rfl
        clear hlv1
        go_wp2_with (at_builtin; fail)
        exact ⟨⟨v + 1, L, by go_num, by omega, HRW.out, HLL.out, fun e he => by rw [HSU.out, HBF.out, Bool.or_false]; exact HA.out e he, HON.out⟩, by simp [intOf] <;> omega⟩
      · rw [hlv1] at hcell
        have HLV := Lib.hid hlv1
        clear hlv1
        go_wp2_with (at_builtin; fail)
        refine (l3Set_any op x y n nv _).mono ?_
        rintro e w4 ⟨rfl, hb4⟩
        have HB4 := Lib.hid hb4
        have hs4 := hb4.size
        have HX4 := Lib.hid (HX.out.low hb4 HX.out.lt)
        clear hb4 x0 x1 x2 x3 x4 hcell
        have x0 : w4.cell? ⟨w.heap.size, 0, none⟩ = some (.int .i64 op) := HX4.out.cell 0
        have x1 : w4.cell? ⟨w.heap.size, 1, none⟩ = some (.int .i64 x) := HX4.out.cell 1
        have x2 : w4.cell? ⟨w.heap.size, 2, none⟩ = some (.int .i64 y) := HX4.out.cell 2
        have x3 : w4.cell? ⟨w.heap.size, 3, none⟩ = some (.int .i64 n) := HX4.out.cell 3
        have x4 : w4.cell? ⟨w.heap.size, 4, none⟩ = some nv := HX4.out.cell 4
        by_cases hse : (v : Int) = setsP op x
        · have HBF : Hid (∀ e, lvB ts op x y F LV e v = false) := Lib.hid fun e => by unfold lvB; rw [← hse]; simp
          rw [← hse]
          clear hse
          go_wp2_with (at_builtin; fail)
          exact ⟨⟨v + 1, L, by go_num, by omega, (HKB.out _ HB4.out).2, HLL.out, fun e he => by rw [HSU.out, HBF.out, Bool.or_false]; exact HA.out e he, (HKB.out _ HB4.out).1⟩, by simp [intOf] <;> omega⟩
        · have hne : ((v : Int) != setsP op x) = true := by simpa using hse
          have HSE := Lib.hid hse
          clear hse
          have HTX := Lib.hid (HTW.out.low (HB4.out.mono (B' := B) (by omega)) (Nat.le_refl _))
          go_wp2_with (at_builtin; fail)
          refine (l3Use_any vt ts B op x y n (v : Nat) nv w4 HTX.out (by omega) (by omega) (by omega)).mono ?_
          rintro e w5 ⟨rfl, hb5⟩
          have HB5 := Lib.hid (HB4.out.trans (hb5.mono hs4))
          have hs5 := hb5.size
          have HX5 := Lib.hid (HX4.out.low hb5 HX4.out.lt)
          have HX15 := Lib.hid (HX1.out.low HB5.out HX1.out.lt)
          clear hb5 x0 x1 x2 x3 x4
          by_cases hu : useP ts op x y (v : Nat) = 2
          · have HBF : Hid (∀ e, lvB ts op x y F LV e v = false) := Lib.hid fun e => by unfold lvB; rw [hu]; simp
            rw [hu]
            clear hu
            go_wp2_with (at_builtin; fail)
            exact ⟨⟨v + 1, L, by go_num, by omega, (HKB.out _ HB5.out).2, HLL.out, fun e he => by rw [HSU.out, HBF.out, Bool.or_false]; exact HA.out e he, (HKB.out _ HB5.out).1⟩, by simp [intOf] <;> omega⟩
          · have hne2 : (useP ts op x y (v : Nat) != 2) = true := by simpa using hu
            have HBF : Hid (∀ e, lvB ts op x y F LV e v = (F.getD v []).getD e false) := Lib.hid fun e => by
              unfold lvB; rw [HLV.out, decide_eq_true hu, decide_eq_true HSE.out]; rfl
            clear hu
            generalize useP ts op x y (v : Nat) = u at *
            have hx0 : w5.cell? ⟨w.heap.size + 1, 0, none⟩ = some (.slice Af ts.length cf) := HX15.out.cell 0
            have HF5 := Lib.hid (HFW.out.frame (P' := fun b => b < w.heap.size) (w' := w5) (by omega) fun b hb hl => ⟨hb, HB5.out.block b hl⟩)
            obtain ⟨bf, of_, rv, rfl, hpf, hblf, e9, hcf5, hrow⟩ := HF5.out.at_ (i := v) (by rw [HL.out]; exact hlt)
            have hrl := HR.out v hlt
            obtain ⟨Ar, cr, rfl, hcr⟩ := hrow.slice
            have HAD := Lib.hid (l4Add_any (w.heap.size + 2) np np (.slice Ar (F.getD v []).length cr) L (F.getD v []) w5 (HKB.out _ HB5.out).2 (hrow.imp fun b h1 h2 => by have h1' : b < w.heap.size := h1; omega) HLL.out.symm (by rw [hrl, HLL.out]; exact Nat.le_refl _) (by rw [HLL.out]; omega))
            have HRL := Lib.hid hrl
            generalize F.getD v [] = fv at *
            clear hrow hrl e9
            go_wp2_with (at_builtin; fail)
            refine HAD.out.mono ?_
            rintro e w6 ⟨rfl, r, hr, hrr, hr1, hr2, hon6⟩
            have HRR := Lib.hid (hrr.trans HLL.out)
            have HR1' := Lib.hid hr1
            have HR6 := Lib.hid hr
            have HON6 := Lib.hid ((HKB.out _ HB5.out).1.trans hon6)
            clear hrr hr1 hr2 hr hon6
            go_wp2_with (at_builtin; fail)
            exact ⟨⟨v + 1, r, by go_num, by omega, HR6.out, HRR.out, fun e he => by rw [HR1'.out e (by rw [HRL.out]; exact he), HSU.out, HBF.out, HA.out e he], HON6.out⟩, by simp [intOf] <;> omega⟩
    · obtain rfl : v = ts.length := by omega
      have hc := HRW.out
      clear x0 x1 x2 x3 x4
      go_wp2_with (at_builtin; fail)
      go_ret
      exact ⟨_, L, rfl, HRW.out, HLL.out, HA.out, HB3.out.trans (HBW.out.mono (by omega))⟩

end Go.Proofs.Ytfioaohadanjmaa
