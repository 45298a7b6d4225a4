import Derived.Test.YtidlifijgooceaaE43
import Derived.Test.YtidlifijgooceaaE45
import Derived.Test.YtidlifijgooceaaE36
import Derived.Test.YtidlifijgooceaaE19
set_option linter.unusedVariables false

/- spec.LoansIn, PlacedLoans, l4Live, LiveLoans. -/
namespace Go.Proofs.Ytidlifijgooceaa
open Go.RowKit

/-- one row of one state -/
theorem B4.get {w : World} {base s : Nat} {vo : Value} {ps : List (Value × Nat)} {rbs : List (List Nat)} {R : List (List (List Bool))} {Q : List (List Bool)} (h : B4 w base vo ps rbs s R Q) {k v m : Nat} (hk : k < R.length) (hm : (R.getD k []).length = m) (hv : v < m) :
    ∃ g c g2 c2 r, vo = .slice (some ⟨g, 0, none⟩) R.length c ∧ g < w.heap.size ∧ w.cell? ⟨g, k * 2, none⟩ = some (.slice (some ⟨g2, 0, none⟩) m c2) ∧ g2 < w.heap.size ∧ w.cell? ⟨g2, v, none⟩ = some (.slice (some ⟨r, 0, none⟩) s s) ∧ RowB w r 4 (bv ((R.getD k []).getD v [])) := by
  subst hm
  obtain ⟨A, c, rfl, hc⟩ := h.slice
  obtain ⟨g, ea, hg, hgl, -, hgk, -⟩ := h.at_ hk
  subst ea
  have hmid := h.mid k hk
  obtain ⟨g2, c2, e2, hg2, hg2l, -, hcell, -⟩ := hmid.form (by omega)
  rw [e2] at hgk
  exact ⟨g, c, g2, c2, _, rfl, hgl, hgk, hg2l, hcell v hv, (hmid.row v hv).1⟩
end Go.Proofs.Ytidlifijgooceaa

/- spec.l4Live. -/
namespace Go.Proofs.Ytidlifijgooceaa
open Go.RowKit

/-- what the variable v keeps, with the live variables LV and the rows F -/
def lvB (ts : List Int) (op x y : Int) (F : List (List Bool)) (LV : List Bool) (e v : Nat) : Bool := LV.getD v false && (decide ((v : Int) ≠ setsP op x) && (decide (useP ts op x y (v : Nat) ≠ 2) && (F.getD v []).getD e false))
def lvA (ts : List Int) (op x y : Int) (F : List (List Bool)) (LV : List Bool) (n e : Nat) : Bool := (List.range n).any (lvB ts op x y F LV e)
theorem lvA_succ (ts : List Int) (op x y : Int) (F : List (List Bool)) (LV : List Bool) (n e : Nat) : lvA ts op x y F LV (n + 1) e = (lvA ts op x y F LV n e || lvB ts op x y F LV e n) := by
  unfold lvA; rw [List.range_succ, List.any_append]; simp
def L4Ret (w : World) (ts : List Int) (np : Nat) (op x y : Int) (F : List (List Bool)) (LV : List Bool) (e : Ending) (w' : World) : Prop :=
  ∃ (g : Nat) (L : List Bool), e = .returned (.slice (some ⟨g, 0, none⟩) np np) ∧ RowB w' g 4 (bv L) ∧ L.length = np ∧ (∀ e, e < np → L.getD e false = lvA ts op x y F LV ts.length e) ∧ Below w.heap.size w w'
set_option maxHeartbeats 8000000 in
set_option maxRecDepth 100000 in
theorem l4Live_any (vt vf vl : Value) (Ap : Option Addr) (cp : Nat) (ts : List Int) (op x y n : Int) (nv : Value) (B np : Nat) (F : List (List Bool)) (LV : List Bool) (Pf Pl : Nat → Prop) (w : World)
    (ht : IntS w B vt ts) (hB : B ≤ w.heap.size) (hf : RwX w Pf vf F) (hv : BoolX w Pl vl LV) (hl : F.length = ts.length) (hr : ∀ v, v < ts.length → (F.getD v []).length = np) (hcp : np ≤ cp) (hlv : LV.length = ts.length) (h6 : ts.length ≤ 6) (hnp : np ≤ 64) :
    Calls Try.prog 92 #[vt, .agg #[.int .i64 op, .int .i64 x, .int .i64 y, .int .i64 n, nv], .agg #[vf, .slice Ap np cp], vl] w (L4Ret w ts np op x y F LV) := by
  have HT := Lib.hid ht
  have HF := Lib.hid hf
  have HV := Lib.hid hv
  have HR := Lib.hid hr
  obtain ⟨Af, cf, rfl, hcf⟩ := hf.slice
  obtain ⟨Al, cl, rfl, hcl⟩ := hv.slice
  have HL := Lib.hid hl
  have HLN := Lib.hid hlv
  rw [hl] at hcf ⊢
  rw [hlv] at hcl ⊢
  clear ht hf hv hr hl hlv
  have HW : Hid (((w.alloc (.cells #[.int .i64 op, .int .i64 x, .int .i64 y, .int .i64 n, nv] 100)).alloc (.cells #[.slice Af ts.length cf, .slice Ap np cp] 102)).heap.size = w.heap.size + 2) := Lib.hid (by simp)
  have HB0 : Hid (Below w.heap.size w ((w.alloc (.cells #[.int .i64 op, .int .i64 x, .int .i64 y, .int .i64 n, nv] 100)).alloc (.cells #[.slice Af ts.length cf, .slice Ap np cp] 102))) := Lib.hid ((bel_a w _).alloc (by simp) _)
  have HR0 : Hid (RowB ((w.alloc (.cells #[.int .i64 op, .int .i64 x, .int .i64 y, .int .i64 n, nv] 100)).alloc (.cells #[.slice Af ts.length cf, .slice Ap np cp] 102)) w.heap.size 100 [.int .i64 op, .int .i64 x, .int .i64 y, .int .i64 n, nv]) := Lib.hid ((RowB.new w [.int .i64 op, .int .i64 x, .int .i64 y, .int .i64 n, nv] 100).alloc _)
  have HR1 : Hid (RowB ((w.alloc (.cells #[.int .i64 op, .int .i64 x, .int .i64 y, .int .i64 n, nv] 100)).alloc (.cells #[.slice Af ts.length cf, .slice Ap np cp] 102)) (w.heap.size + 1) 102 [.slice Af ts.length cf, .slice Ap np cp]) := Lib.hid (by
    have h := RowB.new (w.alloc (.cells #[.int .i64 op, .int .i64 x, .int .i64 y, .int .i64 n, nv] 100)) [.slice Af ts.length cf, .slice Ap np cp] 102
    rw [show (w.alloc (.cells #[.int .i64 op, .int .i64 x, .int .i64 y, .int .i64 n, nv] 100)).heap.size = w.heap.size + 1 by simp] at h
    exact h)
  have hmk := make_bools np (by omega)
  have HMK := Lib.hid hmk
  clear hmk
  go_enter Try.func92, Try.ntmps92
  go_upto_region 1 with (at_builtin; fail)
  generalize ((w.alloc (.cells #[.int .i64 op, .int .i64 x, .int .i64 y, .int .i64 n, nv] 100)).alloc (.cells #[.slice Af ts.length cf, .slice Ap np cp] 102)) = W2 at *
  have p1 : W2.cell? ⟨w.heap.size + 1, 1, none⟩ = some (.slice Ap np cp) := HR1.out.cell 1
  have hmk := HMK.out
  have HRZ : Hid ((List.replicate np false).length = np ∧ ∀ e, (List.replicate np false).getD e false = false) := Lib.hid ⟨by simp, fun e => rep_get'⟩
  generalize List.replicate np false = rz at *
  have HRV := Lib.hid (RowB.new W2 (bv rz) 4)
  have HBZ := Lib.hid (bel_a W2 (.cells (bv rz).toArray 4))
  have hsW := HW.out
  have HSZ : Hid ((W2.alloc (.cells (bv rz).toArray 4)).heap.size = w.heap.size + 3) := Lib.hid (by simp; omega)
  go_wp2_with (at_builtin; fail)
  generalize W2.alloc (.cells (bv rz).toArray 4) = W3 at *
  rw [hsW] at HRV
  have HR03 := Lib.hid (HR0.out.low HBZ.out HR0.out.lt)
  have HR13 := Lib.hid (HR1.out.low HBZ.out HR1.out.lt)
  have HB3 := Lib.hid (HB0.out.trans (HBZ.out.mono HB0.out.size))
  have HT3 := Lib.hid (HT.out.low HB3.out hB)
  have HF3 := Lib.hid (HF.out.frame (P' := fun b => b < w.heap.size) (w' := W3) HB3.out.size fun b _ hl => ⟨hl, HB3.out.block b hl⟩)
  have HV3 := Lib.hid (HV.out.frame (P' := fun b => b < w.heap.size) (w' := W3) HB3.out.size fun b _ hl => ⟨hl, HB3.out.block b hl⟩)
  have hs3 := HSZ.out
  clear p1 hmk hsW
  go_loopw [10] (fun i wr => ∃ (v : Nat) (L : List Bool), i = .int .i64 v ∧ v ≤ ts.length ∧ RowB wr (w.heap.size + 2) 4 (bv L) ∧ L.length = np ∧ (∀ e, e < np → L.getD e false = lvA ts op x y F LV v e) ∧ Onl (fun b => b = w.heap.size + 2) W3 wr) (fun i _ => ts.length - (intOf i).toNat)
  case atStart => exact ⟨0, rz, rfl, Nat.zero_le _, HRV.out, HRZ.out.1, fun e _ => by rw [HRZ.out.2]; rfl, Onl.refl _ _⟩
  case round =>
    obtain ⟨v, L, rfl, hvl, hrv, hll, hA, hon⟩ := hrel
    have HA := Lib.hid hA
    have HRW := Lib.hid hrv
    have HLL := Lib.hid hll
    have HON := Lib.hid hon
    have HBW := Lib.hid (hon.below (B := w.heap.size + 2) (by omega) (fun k hk => by have : k = w.heap.size + 2 := hk; omega))
    have hsr : w.heap.size + 3 ≤ wr.heap.size := by have := hon.size; omega
    clear hA hrv hll hon
    have HX := Lib.hid (HR03.out.low HBW.out (by omega))
    have HX1 := Lib.hid (HR13.out.low HBW.out (by omega))
    have x0 : wr.cell? ⟨w.heap.size, 0, none⟩ = some (.int .i64 op) := HX.out.cell 0
    have x1 : wr.cell? ⟨w.heap.size, 1, none⟩ = some (.int .i64 x) := HX.out.cell 1
    have x2 : wr.cell? ⟨w.heap.size, 2, none⟩ = some (.int .i64 y) := HX.out.cell 2
    have x3 : wr.cell? ⟨w.heap.size, 3, none⟩ = some (.int .i64 n) := HX.out.cell 3
    have x4 : wr.cell? ⟨w.heap.size, 4, none⟩ = some nv := HX.out.cell 4
    by_cases hlt : v < ts.length
    · have HTW := Lib.hid (HT3.out.low (HBW.out.mono (B' := B) (by omega)) (Nat.le_refl _))
      have HVW := Lib.hid (HV3.out.frame (P' := fun b => b < w.heap.size) (w' := wr) (by omega) fun b hb hl => ⟨hb, HBW.out.block b (by have hb' : b < w.heap.size := hb; omega)⟩)
      have HFW := Lib.hid (HF3.out.frame (P' := fun b => b < w.heap.size) (w' := wr) (by omega) fun b hb hl => ⟨hb, HBW.out.block b (by have hb' : b < w.heap.size := hb; omega)⟩)
      obtain ⟨b, off, rfl, hpb, hbl, -, hcell⟩ := HVW.out.at_ (k := v) (by rw [HLN.out]; exact hlt)
      have HSU := Lib.hid (fun e => lvA_succ ts op x y F LV v e)
      have HKB : Hid (∀ w8, Below wr.heap.size wr w8 → Onl (fun b => b = w.heap.size + 2) W3 w8 ∧ RowB w8 (w.heap.size + 2) 4 (bv L)) := Lib.hid fun w8 h8 => ⟨HON.out.trans (Onl.bel h8), HRW.out.low h8 HRW.out.lt⟩
      cases hlv1 : LV.getD v false
      · rw [hlv1] at hcell
        have HBF : Hid (∀ e, lvB ts op x y F LV e v = false) := Lib.hid fun e => by unfold lvB; rw [hlv1]; rfl
        clear hlv1
        go_wp2_with (at_builtin; fail)
        exact ⟨⟨v + 1, L, by go_num, by omega, HRW.out, HLL.out, fun e he => by rw [HSU.out, HBF.out, Bool.or_false]; exact HA.out e he, HON.out⟩, by simp [intOf] <;> omega⟩
      · rw [hlv1] at hcell
        have HLV := Lib.hid hlv1
        clear hlv1
        go_wp2_with (at_builtin; fail)
        refine (l3Set_any op x y n nv _).mono ?_
        rintro e w4 ⟨rfl, hb4⟩
        have HB4 := Lib.hid hb4
        have hs4 := hb4.size
        have HX4 := Lib.hid (HX.out.low hb4 HX.out.lt)
        clear hb4 x0 x1 x2 x3 x4 hcell
        have x0 : w4.cell? ⟨w.heap.size, 0, none⟩ = some (.int .i64 op) := HX4.out.cell 0
        have x1 : w4.cell? ⟨w.heap.size, 1, none⟩ = some (.int .i64 x) := HX4.out.cell 1
        have x2 : w4.cell? ⟨w.heap.size, 2, none⟩ = some (.int .i64 y) := HX4.out.cell 2
        have x3 : w4.cell? ⟨w.heap.size, 3, none⟩ = some (.int .i64 n) := HX4.out.cell 3
        have x4 : w4.cell? ⟨w.heap.size, 4, none⟩ = some nv := HX4.out.cell 4
        by_cases hse : (v : Int) = setsP op x
        · have HBF : Hid (∀ e, lvB ts op x y F LV e v = false) := Lib.hid fun e => by unfold lvB; rw [← hse]; simp
          rw [← hse]
          clear hse
          go_wp2_with (at_builtin; fail)
          exact ⟨⟨v + 1, L, by go_num, by omega, (HKB.out _ HB4.out).2, HLL.out, fun e he => by rw [HSU.out, HBF.out, Bool.or_false]; exact HA.out e he, (HKB.out _ HB4.out).1⟩, by simp [intOf] <;> omega⟩
        · have hne : ((v : Int) != setsP op x) = true := by simpa using hse
          have HSE := Lib.hid hse
          clear hse
          have HTX := Lib.hid (HTW.out.low (HB4.out.mono (B' := B) (by omega)) (Nat.le_refl _))
          go_wp2_with (at_builtin; fail)
          refine (l3Use_any vt ts B op x y n (v : Nat) nv w4 HTX.out (by omega) (by omega) (by omega)).mono ?_
          rintro e w5 ⟨rfl, hb5⟩
          have HB5 := Lib.hid (HB4.out.trans (hb5.mono hs4))
          have hs5 := hb5.size
          have HX5 := Lib.hid (HX4.out.low hb5 HX4.out.lt)
          have HX15 := Lib.hid (HX1.out.low HB5.out HX1.out.lt)
          clear hb5 x0 x1 x2 x3 x4
          by_cases hu : useP ts op x y (v : Nat) = 2
          · have HBF : Hid (∀ e, lvB ts op x y F LV e v = false) := Lib.hid fun e => by unfold lvB; rw [hu]; simp
            rw [hu]
            clear hu
            go_wp2_with (at_builtin; fail)
            exact ⟨⟨v + 1, L, by go_num, by omega, (HKB.out _ HB5.out).2, HLL.out, fun e he => by rw [HSU.out, HBF.out, Bool.or_false]; exact HA.out e he, (HKB.out _ HB5.out).1⟩, by simp [intOf] <;> omega⟩
          · have hne2 : (useP ts op x y (v : Nat) != 2) = true := by simpa using hu
            have HBF : Hid (∀ e, lvB ts op x y F LV e v = (F.getD v []).getD e false) := Lib.hid fun e => by
              unfold lvB; rw [HLV.out, decide_eq_true hu, decide_eq_true HSE.out]; rfl
            clear hu
            generalize useP ts op x y (v : Nat) = u at *
            have hx0 : w5.cell? ⟨w.heap.size + 1, 0, none⟩ = some (.slice Af ts.length cf) := HX15.out.cell 0
            have HF5 := Lib.hid (HFW.out.frame (P' := fun b => b < w.heap.size) (w' := w5) (by omega) fun b hb hl => ⟨hb, HB5.out.block b hl⟩)
            obtain ⟨bf, of_, rv, rfl, hpf, hblf, e9, hcf5, hrow⟩ := HF5.out.at_ (i := v) (by rw [HL.out]; exact hlt)
            have hrl := HR.out v hlt
            obtain ⟨Ar, cr, rfl, hcr⟩ := hrow.slice
            have HAD := Lib.hid (l4Add_any (w.heap.size + 2) np np (.slice Ar (F.getD v []).length cr) L (F.getD v []) w5 (HKB.out _ HB5.out).2 (hrow.imp fun b h1 h2 => by have h1' : b < w.heap.size := h1; omega) HLL.out.symm (by rw [hrl, HLL.out]; exact Nat.le_refl _) (by rw [HLL.out]; omega))
            have HRL := Lib.hid hrl
            generalize F.getD v [] = fv at *
            clear hrow hrl e9
            go_wp2_with (at_builtin; fail)
            refine HAD.out.mono ?_
            rintro e w6 ⟨rfl, r, hr, hrr, hr1, hr2, hon6⟩
            have HRR := Lib.hid (hrr.trans HLL.out)
            have HR1' := Lib.hid hr1
            have HR6 := Lib.hid hr
            have HON6 := Lib.hid ((HKB.out _ HB5.out).1.trans hon6)
            clear hrr hr1 hr2 hr hon6
            go_wp2_with (at_builtin; fail)
            exact ⟨⟨v + 1, r, by go_num, by omega, HR6.out, HRR.out, fun e he => by rw [HR1'.out e (by rw [HRL.out]; exact he), HSU.out, HBF.out, HA.out e he], HON6.out⟩, by simp [intOf] <;> omega⟩
    · obtain rfl : v = ts.length := by omega
      have hc := HRW.out
      clear x0 x1 x2 x3 x4
      go_wp2_with (at_builtin; fail)
      go_ret
      exact ⟨_, L, rfl, HRW.out, HLL.out, HA.out, HB3.out.trans (HBW.out.mono (by omega))⟩

end Go.Proofs.Ytidlifijgooceaa

/- spec.LiveLoans. -/
namespace Go.Proofs.Ytidlifijgooceaa
open Go.RowKit

theorem belC2 {B : Nat} {w w' : World} {b o : Nat} {x : Option Value} (h : Below B w w') (e : w.cell? ⟨b, o, none⟩ = x) (hb : b < B) : w'.cell? ⟨b, o, none⟩ = x := (h.cell (p := ⟨b, o, none⟩) hb).trans e
theorem lvA_kpl {ts : List Int} {pts : List Pt} {k : Nat} {p : Pt} {F : List (List Bool)} {LV : List Bool} {e : Nat} (hp : pts[k]? = some p) (hF : ∀ v e, (F.getD v []).getD e false = true ↔ Fl ts pts Gloan (Cloan ts) k v e) (hL : ∀ v, LV.getD v false = true ↔ ∃ p, pts[k]? = some p ∧ ∃ j ∈ p.next, Nd ts pts j v) : lvA ts p.op p.x p.y F LV ts.length e = dec (KpL ts pts k e) := by
  rw [Bool.eq_iff_iff, dec_iff]
  unfold lvA
  simp only [List.any_eq_true, List.mem_range, lvB, Bool.and_eq_true, decide_eq_true_eq]
  constructor
  · rintro ⟨v, hv, h1, h2, h3, h4⟩
    obtain ⟨p', hp', hn⟩ := (hL v).1 h1
    rw [hp] at hp'
    injection hp' with hp'
    subst hp'
    exact ⟨p, v, hp, hv, hn, fun h => h2 h.symm, h3, (hF v e).1 h4⟩
  · rintro ⟨p', v, hp', hv, hn, h2, h3, h4⟩
    rw [hp] at hp'
    injection hp' with hp'
    subst hp'
    exact ⟨v, hv, (hL v).2 ⟨p, hp, hn⟩, fun h => h2 h.symm, h3, (hF v e).2 h4⟩
set_option maxHeartbeats 8000000 in
set_option maxRecDepth 100000 in
theorem sLiveLoans_any (vt vb : Value) (ts : List Int) (l : List St) (a : Int) (B : Nat) (w : World) (ht : IntS w B vt ts) (hl : StS w B vb l) (hB : B ≤ w.heap.size) (hsz : szL l ≤ 4194300) :
    Calls Try.prog 39 #[.agg #[vt, vb], .int .i64 a] w (IntsRet w (liveLnRes ts l a)) := by
  have HBX := Lib.hid (Boxed.new ht hl hB 26)
  obtain ⟨At, ct, rfl, hct, -, -⟩ := ht
  obtain ⟨Ab, cb, rfl, hcb⟩ := hl.slice
  clear hl
  by_cases ha : a < 0
  · have HRES : Hid (liveLnRes ts l a = []) := Lib.hid (by unfold liveLnRes; rw [graphOk_no (.inl ha)]; rfl)
    go_enter Try.func39, Try.ntmps39
    go_wp2_with fail
    refine (sPointsOf_any _ _ ts l B _ HBX.out.ht HBX.out.hl (by have := HBX.out.lt; omega) hsz).mono ?_
    rintro e w1 ⟨vp, rfl, hps, hb1⟩
    have HB1 := Lib.hid (HBX.out.bels hb1 hB)
    obtain ⟨Ap, cp, rfl, hcp, hpl⟩ := hps.slice
    clear hps hb1
    go_wp2_with fail
    go_ret
    exact ⟨_, rfl, by rw [HRES.out]; exact IntS.nil' _ _ _ _, HB1.out.bel.trans ((bel_a _ _).mono HB1.out.bel.size)⟩
  · go_enter Try.func39, Try.ntmps39
    go_wp2_with fail
    refine (sPointsOf_any _ _ ts l B _ HBX.out.ht HBX.out.hl (by have := HBX.out.lt; omega) hsz).mono ?_
    rintro e w1 ⟨vp, rfl, hps, hb1⟩
    have HB1 := Lib.hid (HBX.out.bels hb1 hB)
    have c0 := HB1.out.c0
    have c1 := HB1.out.c1
    obtain ⟨Ap, cp, rfl, hcp, hpl⟩ := hps.slice
    have HPS := Lib.hid hps
    clear hps hb1
    have HGY : Hid (a < (pointsP ts l).length → validP ts l = true ∧ pointsP ts l = ptsP l ∧ graphOk ts l [a] = true) := Lib.hid fun h => graphOk_yes (by omega) h
    have HGN : Hid ((pointsP ts l).length ≤ a → graphOk ts l [a] = false) := Lib.hid fun h => graphOk_no (.inr h)
    obtain ⟨np, hnp⟩ : ∃ np, np = (pointsP ts l).length := ⟨_, rfl⟩
    rw [← hnp] at hcp hpl HGY HGN ⊢
    by_cases hlt : a < (np : Int)
    · obtain ⟨hv, hpe, hok⟩ := HGY.out hlt
      rw [hpe] at hnp
      obtain ⟨k, rfl⟩ : ∃ k : Nat, a = k := ⟨a.toNat, by omega⟩
      have HV := Lib.hid hv
      have HRES : Hid (liveLnRes ts l (k : Int) = liveLn ts (ptsP l) k) := Lib.hid (by unfold liveLnRes; rw [if_pos hok]; rfl)
      have hk : k < (ptsP l).length := by omega
      have hplen := (Good.of_valid hv).len
      have hpt := HPS.out
      rw [hpe] at hpt
      obtain ⟨bp, op, cp', nv, e, hbp, hcp', hlp, -, p0, p1, p2, p3, p4⟩ := hpt.get hk
      injection e with e1 e9 e2
      subst e1 e2
      have HPK := Lib.hid (List.getElem?_eq_getElem hk)
      have h6 := (Good.of_valid hv).h6
      generalize (ptsP l)[k] = P at *
      clear hv hpe hok e9 hpt
      obtain ⟨np2, hnp2⟩ : ∃ n, n = (ptsP l).length := ⟨_, rfl⟩
      have HNP := Lib.hid hnp2
      rw [← hnp2] at hk hplen hnp hlp hcp'
      subst hnp
      clear hnp2
      have hs0 := HB1.out.lt
      have BEL : Hid (∀ w', w'.cell? ⟨w.heap.size, 0, none⟩ = some (.slice At ts.length ct) ∧ w'.cell? ⟨w.heap.size, 1, none⟩ = some (.slice Ab l.length cb) ∧ w'.cell? ⟨bp, op + k * 5, none⟩ = some (.int .i64 P.op) ∧ w'.cell? ⟨bp, op + k * 5 + 1, none⟩ = some (.int .i64 P.x) ∧ w'.cell? ⟨bp, op + k * 5 + 2, none⟩ = some (.int .i64 P.y) ∧ w'.cell? ⟨bp, op + k * 5 + 3, none⟩ = some (.int .i64 P.n) ∧ w'.cell? ⟨bp, op + k * 5 + 4, none⟩ = some nv ∧ Below w1.heap.size w1 w' → Below w1.heap.size w1 w') := Lib.hid fun _ h => h.2.2.2.2.2.2.2
      go_wp2_with fail
      refine wp_region_held_drew (S := (fun w' => w'.cell? ⟨w.heap.size, 0, none⟩ = some (.slice At ts.length ct) ∧ w'.cell? ⟨w.heap.size, 1, none⟩ = some (.slice Ab l.length cb) ∧ w'.cell? ⟨bp, op + k * 5, none⟩ = some (.int .i64 P.op) ∧ w'.cell? ⟨bp, op + k * 5 + 1, none⟩ = some (.int .i64 P.x) ∧ w'.cell? ⟨bp, op + k * 5 + 2, none⟩ = some (.int .i64 P.y) ∧ w'.cell? ⟨bp, op + k * 5 + 3, none⟩ = some (.int .i64 P.n) ∧ w'.cell? ⟨bp, op + k * 5 + 4, none⟩ = some nv ∧ Below w1.heap.size w1 w')) (by kernel_rfl) ?_ (fun hHeld => ?_)
      · exact ⟨c0, c1, p0, p1, p2, p3, p4, (Below.refl _ _).drew⟩
      refine wpAnyH_take (i := 0) (oi := ⟨some 17, _, _, _, _, _⟩) (v := ?_) rfl (by kernel_rfl) (by kernel_rfl) (by kernel_rfl) (fun _ _ _ h => h) (Or.inl ⟨by rfl, fun w' hSw => ?_⟩) (by assumption) ?_
      rotate_left
      · (try dsimp only at hSw); go_simp; (try with_reducible rfl)
      (try simp only [Act.put, List.setIfInBounds_toArray, List.set_cons_zero, List.set_cons_succ])
      refine wpAnyH_take (i := 1) (oi := ⟨some 18, _, _, _, _, _⟩) (v := ?_) rfl (by kernel_rfl) (by kernel_rfl) (by kernel_rfl) (fun _ _ _ h => h) (Or.inl ⟨by rfl, fun w' hSw => ?_⟩) (by assumption) ?_
      rotate_left
      · (try dsimp only at hSw); go_simp; (try with_reducible rfl)
      (try simp only [Act.put, List.setIfInBounds_toArray, List.set_cons_zero, List.set_cons_succ])
      refine wpAnyH_take (i := 2) (oi := ⟨some 19, _, _, _, _, _⟩) (v := ?_) rfl (by kernel_rfl) (by kernel_rfl) (by kernel_rfl) (fun _ _ _ h => h) (Or.inl ⟨by rfl, fun w' hSw => ?_⟩) (by assumption) ?_
      rotate_left
      · (try dsimp only at hSw); go_simp; (try with_reducible rfl)
      (try simp only [Act.put, List.setIfInBounds_toArray, List.set_cons_zero, List.set_cons_succ])
      refine wpAnyH_take (i := 3) (oi := ⟨some 20, _, _, _, _, _⟩) (v := ?_) rfl (by kernel_rfl) (by kernel_rfl) (by kernel_rfl) (fun _ _ _ h => h) (Or.inl ⟨by rfl, fun w' hSw => ?_⟩) (by assumption) ?_
      rotate_left
      · (try dsimp only at hSw); go_simp; (try with_reducible rfl)
      (try simp only [Act.put, List.setIfInBounds_toArray, List.set_cons_zero, List.set_cons_succ])
      refine wpAnyH_take (i := 4) (oi := ⟨some 21, _, _, _, _, _⟩) (v := ?_) rfl (by kernel_rfl) (by kernel_rfl) (by kernel_rfl) (fun _ _ _ h => h) (Or.inl ⟨by rfl, fun w' hSw => ?_⟩) (by assumption) ?_
      rotate_left
      · (try dsimp only at hSw); go_simp; (try with_reducible rfl)
      (try simp only [Act.put, List.setIfInBounds_toArray, List.set_cons_zero, List.set_cons_succ])
      refine wpAnyH_take (i := 5) (oi := ⟨some 22, _, _, _, _, _⟩) (v := ?_) rfl (by kernel_rfl) (by kernel_rfl) (by kernel_rfl) (fun _ _ _ h => h) (Or.inl ⟨by rfl, fun w' hSw => ?_⟩) (by assumption) ?_
      rotate_left
      · (try dsimp only at hSw); go_simp; (try with_reducible rfl)
      (try simp only [Act.put, List.setIfInBounds_toArray, List.set_cons_zero, List.set_cons_succ])
      refine wpAnyH_take (i := 6) (oi := ⟨some 23, _, _, _, _, _⟩) (v := ?_) rfl (by kernel_rfl) (by kernel_rfl) (by kernel_rfl) (fun _ _ _ h => h) (Or.inl ⟨by rfl, fun w' hSw => ?_⟩) (by assumption) ?_
      rotate_left
      · (try dsimp only at hSw); go_simp; (try with_reducible rfl)
      (try simp only [Act.put, List.setIfInBounds_toArray, List.set_cons_zero, List.set_cons_succ])
      refine wpAnyH_take (i := 8) (oi := ⟨some 25, _, _, _, _, _⟩) (v := ?_) rfl (by kernel_rfl) (by kernel_rfl) (by kernel_rfl) (fun _ _ _ h => h) (Or.inl ⟨by rfl, fun w' hSw => ?_⟩) (by assumption) ?_
      rotate_left
      · (try dsimp only at hSw); go_simp; (try with_reducible rfl)
      (try simp only [Act.put, List.setIfInBounds_toArray, List.set_cons_zero, List.set_cons_succ])
      refine wpAnyH_take (i := 11) (oi := ⟨some 28, _, _, _, _, _⟩) (v := ?_) rfl (by kernel_rfl) (by kernel_rfl) (by kernel_rfl) (fun _ _ _ h => h) (Or.inl ⟨by rfl, fun w' hSw => ?_⟩) (by assumption) ?_
      rotate_left
      · (try dsimp only at hSw); go_simp; (try with_reducible rfl)
      (try simp only [Act.put, List.setIfInBounds_toArray, List.set_cons_zero, List.set_cons_succ])
      refine wpAnyH_take (i := 13) (oi := ⟨some 30, _, _, _, _, _⟩) (v := ?_) rfl (by kernel_rfl) (by kernel_rfl) (by kernel_rfl) (fun _ _ _ h => h) (Or.inl ⟨by rfl, fun w' hSw => ?_⟩) (by assumption) ?_
      rotate_left
      · (try dsimp only at hSw); go_simp; (try with_reducible rfl)
      (try simp only [Act.put, List.setIfInBounds_toArray, List.set_cons_zero, List.set_cons_succ])
      refine wpAnyH_ready (rs := [7]) (by kernel_rfl) (by simp) ?_
      refine (AllReadyH.cons (o := ⟨some 24, _, _, _, _, _⟩) rfl (fun K hK => ?_) AllReadyH.nil)
      go_simp
      (refine (l4Flow_any (.slice At ts.length ct) (.slice Ab l.length cb) ts l B _ (HB1.out.ht.low (BEL.out _ (by assumption)) (by omega)) (HB1.out.hl.low (BEL.out _ (by assumption)) (by omega)) (by have := ((BEL.out _ (by assumption))).size; omega) HV.out).mono ?_)
      (rintro e w6 ⟨v6, ps, rbs, R, Q, base, rfl, hbase, hb4, hri, hst, -, hb6⟩)
      (have BX6 := Lib.hid ((BEL.out _ (by assumption)).trans (hb6.mono (BEL.out _ (by assumption)).size)))
      (have hRl := hri.len)
      (rw [HNP.out.symm] at hRl)
      (have hkR : k < R.length := by omega)
      (have hkP : k < (ptsP l).length := by (rw [← HNP.out]; exact hk))
      (have hrk := hri.row k hkP)
      (obtain ⟨A6, c6, rfl, -⟩ := hb4.slice)
      (obtain ⟨g, ea, hg, hgl, -, hgk, hgk2⟩ := hb4.at_ hkR)
      (subst ea)
      (have HRX := Lib.hid ((hb4.mid k hkR).toX (fun i hi => hri.inn k i hkP (by rw [← hrk]; exact hi)) (by rw [← HNP.out]; omega)))
      (have HRK := Lib.hid hrk)
      (have HIN := Lib.hid (fun v hv => hri.inn k v hkP hv))
      (have HST := Lib.hid hst)
      (rw [← HNP.out] at hgk2 HIN)
      (generalize (ps.getD k dq).1 = vf at *)
      (generalize (ps.getD k dq).2 = pk at *)
      (have hs6 := BX6.out.size)
      clear hb6 hri hst hb4 hrk
      go_simp
      refine hK.out _ _ ?_ (fun hHeld => ?_)
      · exact ⟨belC2 BX6.out c0 hs0, belC2 BX6.out c1 hs0, belC2 BX6.out p0 hbp, belC2 BX6.out p1 hbp, belC2 BX6.out p2 hbp, belC2 BX6.out p3 hbp, belC2 BX6.out p4 hbp, BX6.out⟩
      clear hK K
      (try simp only [Act.put, List.setIfInBounds_toArray, List.set_cons_zero, List.set_cons_succ])
      refine wpAnyH_take (i := 9) (oi := ⟨some 26, _, _, _, _, _⟩) (v := ?_) rfl (by kernel_rfl) (by kernel_rfl) (by kernel_rfl) (fun _ _ _ h => h) (Or.inl ⟨by rfl, fun w' hSw => ?_⟩) (by assumption) ?_
      rotate_left
      · (try dsimp only at hSw); go_simp; (try with_reducible rfl)
      (try simp only [Act.put, List.setIfInBounds_toArray, List.set_cons_zero, List.set_cons_succ])
      refine wpAnyH_ready (rs := [10, 12]) (by kernel_rfl) (by simp) ?_
      refine (AllReadyH.cons (o := ⟨some 27, _, _, _, _, _⟩) rfl (fun K hK => ?_) (AllReadyH.cons (o := ⟨some 29, _, _, _, _, _⟩) rfl (fun K hK => ?_) AllReadyH.nil))
      · go_simp
        refine hK.out _ _ ?_ (fun hHeld => ?_)
        · assumption
        clear hK K
        (try simp only [Act.put, List.setIfInBounds_toArray, List.set_cons_zero, List.set_cons_succ])
        refine wpAnyH_ready (rs := [12]) (by kernel_rfl) (by simp) ?_
        refine (AllReadyH.cons (o := ⟨some 29, _, _, _, _, _⟩) rfl (fun K hK => ?_) AllReadyH.nil)
        go_simp
        (refine (l3Live_any (.slice At ts.length ct) (.slice Ab l.length cb) ts l B _ (HB1.out.ht.low BX6.out (by omega)) (HB1.out.hl.low BX6.out (by omega)) (by have := (BX6.out).size; omega) HV.out).mono ?_)
        (rintro e w8 ⟨v8, rb8, rows8, base8, rfl, hbs8, hbr8, hl8, hi8, hrg8, hb8⟩)
        (have BX8 := Lib.hid (BX6.out.trans (hb8.mono hs6)))
        (rw [← HNP.out] at hl8)
        (have hk8 : k < rows8.length := by omega)
        (obtain ⟨A8, c8, rfl, hc8'⟩ := hbr8.slice)
        (obtain ⟨b8, o8, rv8, rfl, -, hbl8, -, hc8, hrow8⟩ := (hbr8.toX (fun i hi => hi8 i hi) (by omega)).at_ hk8)
        (have HRW8 := Lib.hid hrow8)
        (have HLN8 := Lib.hid (hi8 k hk8))
        (have HRG8 := Lib.hid hrg8)
        (have hgk8 := belC2 hb8 hgk hgl)
        (have hgk28 := belC2 hb8 hgk2 hgl)
        (have HRX8 := Lib.hid (HRX.out.bel hb8))
        (have hs8 := BX8.out.size)
        clear hb8 hbr8 hi8 hrg8 hrow8
        go_simp
        refine hK.out _ _ ?_ (fun hHeld => ?_)
        · exact ⟨belC2 BX8.out c0 hs0, belC2 BX8.out c1 hs0, belC2 BX8.out p0 hbp, belC2 BX8.out p1 hbp, belC2 BX8.out p2 hbp, belC2 BX8.out p3 hbp, belC2 BX8.out p4 hbp, BX8.out⟩
        clear hK K
        (try simp only [Act.put, List.setIfInBounds_toArray, List.set_cons_zero, List.set_cons_succ])
        refine wpAnyH_take (i := 14) (oi := ⟨some 31, _, _, _, _, _⟩) (v := ?_) rfl (by kernel_rfl) (by kernel_rfl) (by kernel_rfl) (fun _ _ _ h => h) (Or.inl ⟨by rfl, fun w' hSw => ?_⟩) (by assumption) ?_
        rotate_left
        · (try dsimp only at hSw); go_simp; (try with_reducible rfl)
        (try simp only [Act.put, List.setIfInBounds_toArray, List.set_cons_zero, List.set_cons_succ])
        refine wpAnyH_ready (rs := [15]) (by kernel_rfl) (by simp) ?_
        refine (AllReadyH.cons (o := ⟨some 32, _, _, _, _, _⟩) rfl (fun K hK => ?_) AllReadyH.nil)
        go_simp
        refine hK.out _ _ ?_ (fun hHeld => ?_)
        · assumption
        clear hK K
        (try simp only [Act.put, List.setIfInBounds_toArray, List.set_cons_zero, List.set_cons_succ])
        refine wpAnyH_ready (rs := [16]) (by kernel_rfl) (by simp) ?_
        refine (AllReadyH.cons (o := ⟨some 33, _, _, _, _, _⟩) rfl (fun K hK => ?_) AllReadyH.nil)
        go_simp
        (refine (l4Live_any (.slice At ts.length ct) vf rv8 (some ⟨pk, 0, none⟩) np ts P.op P.x P.y P.n nv B np (R.getD k []) (rows8.getD k []) _ _ w8 (HB1.out.ht.low BX8.out (by omega)) (by omega) HRX8.out HRW8.out HRK.out HIN.out (Nat.le_refl _) HLN8.out h6 (by omega)).mono ?_)
        (rintro e w9 ⟨g9, L9, rfl, hr9, hl9, hL9, hb9⟩)
        (have BX9 := Lib.hid (BX8.out.trans (hb9.mono hs8)))
        (have HBO := Lib.hid (hr9.bools (c := np) (by omega) (by omega)))
        (rw [hl9] at HBO)
        (have HLL := Lib.hid hl9)
        (have HLK := Lib.hid (fun e he => (hL9 e he).trans (lvA_kpl HPK.out (fun v e => HST.out k v e) (fun v => HRG8.out k v))))
        clear hr9 hl9 hL9 hb9
        go_simp
        refine hK.out _ _ ?_ (fun hHeld => ?_)
        · exact ⟨belC2 BX9.out c0 hs0, belC2 BX9.out c1 hs0, belC2 BX9.out p0 hbp, belC2 BX9.out p1 hbp, belC2 BX9.out p2 hbp, belC2 BX9.out p3 hbp, belC2 BX9.out p4 hbp, BX9.out⟩
        clear hK K
        (try simp only [Act.put, List.setIfInBounds_toArray, List.set_cons_zero, List.set_cons_succ])
        refine wpAnyH_ready (rs := [17]) (by kernel_rfl) (by simp) ?_
        refine (AllReadyH.cons (o := ⟨some 34, _, _, _, _, _⟩) rfl (fun K hK => ?_) AllReadyH.nil)
        go_simp
        (refine (l3Numbers_any _ _ _ _ HBO.out (Nat.le_refl _)).mono ?_)
        (rintro e w10 ⟨v10, rfl, hi10, hb10⟩)
        (have BX10 := Lib.hid (BX9.out.trans (hb10.mono BX9.out.size)))
        (have HI10 := Lib.hid hi10)
        clear hi10 hb10
        go_simp
        refine hK.out _ _ ?_ (fun hHeld => ?_)
        · exact ⟨belC2 BX10.out c0 hs0, belC2 BX10.out c1 hs0, belC2 BX10.out p0 hbp, belC2 BX10.out p1 hbp, belC2 BX10.out p2 hbp, belC2 BX10.out p3 hbp, belC2 BX10.out p4 hbp, BX10.out⟩
        clear hK K
        (try simp only [Act.put, List.setIfInBounds_toArray, List.set_cons_zero, List.set_cons_succ])
        refine wpAnyH_take (i := 18) (oi := ⟨some 4, _, _, _, _, _⟩) (v := ?_) rfl (by kernel_rfl) (by kernel_rfl) (by kernel_rfl) (fun _ _ _ h => h) (Or.inl ⟨by rfl, fun w' hSw => ?_⟩) (by assumption) ?_
        rotate_left
        · (try dsimp only at hSw); go_simp; (try with_reducible rfl)
        (try simp only [Act.put, List.setIfInBounds_toArray, List.set_cons_zero, List.set_cons_succ])
        refine wpAnyH_done (by kernel_rfl) ?_ _
        go_wp2_with fail
        go_ret
        have hfin := HI10.out
        rw [HLL.out] at hfin
        exact ⟨_, rfl, by (rw [HRES.out]; unfold liveLn; rw [← HNP.out, ← lst_congr HLK.out]; exact hfin), HB1.out.bel.trans (BX10.out.mono HB1.out.bel.size)⟩
      · go_simp
        (refine (l3Live_any (.slice At ts.length ct) (.slice Ab l.length cb) ts l B _ (HB1.out.ht.low BX6.out (by omega)) (HB1.out.hl.low BX6.out (by omega)) (by have := (BX6.out).size; omega) HV.out).mono ?_)
        (rintro e w8 ⟨v8, rb8, rows8, base8, rfl, hbs8, hbr8, hl8, hi8, hrg8, hb8⟩)
        (have BX8 := Lib.hid (BX6.out.trans (hb8.mono hs6)))
        (rw [← HNP.out] at hl8)
        (have hk8 : k < rows8.length := by omega)
        (obtain ⟨A8, c8, rfl, hc8'⟩ := hbr8.slice)
        (obtain ⟨b8, o8, rv8, rfl, -, hbl8, -, hc8, hrow8⟩ := (hbr8.toX (fun i hi => hi8 i hi) (by omega)).at_ hk8)
        (have HRW8 := Lib.hid hrow8)
        (have HLN8 := Lib.hid (hi8 k hk8))
        (have HRG8 := Lib.hid hrg8)
        (have hgk8 := belC2 hb8 hgk hgl)
        (have hgk28 := belC2 hb8 hgk2 hgl)
        (have HRX8 := Lib.hid (HRX.out.bel hb8))
        (have hs8 := BX8.out.size)
        clear hb8 hbr8 hi8 hrg8 hrow8
        go_simp
        refine hK.out _ _ ?_ (fun hHeld => ?_)
        · exact ⟨belC2 BX8.out c0 hs0, belC2 BX8.out c1 hs0, belC2 BX8.out p0 hbp, belC2 BX8.out p1 hbp, belC2 BX8.out p2 hbp, belC2 BX8.out p3 hbp, belC2 BX8.out p4 hbp, BX8.out⟩
        clear hK K
        (try simp only [Act.put, List.setIfInBounds_toArray, List.set_cons_zero, List.set_cons_succ])
        refine wpAnyH_take (i := 14) (oi := ⟨some 31, _, _, _, _, _⟩) (v := ?_) rfl (by kernel_rfl) (by kernel_rfl) (by kernel_rfl) (fun _ _ _ h => h) (Or.inl ⟨by rfl, fun w' hSw => ?_⟩) (by assumption) ?_
        rotate_left
        · (try dsimp only at hSw); go_simp; (try with_reducible rfl)
        (try simp only [Act.put, List.setIfInBounds_toArray, List.set_cons_zero, List.set_cons_succ])
        refine wpAnyH_ready (rs := [10, 15]) (by kernel_rfl) (by simp) ?_
        refine (AllReadyH.cons (o := ⟨some 27, _, _, _, _, _⟩) rfl (fun K hK => ?_) (AllReadyH.cons (o := ⟨some 32, _, _, _, _, _⟩) rfl (fun K hK => ?_) AllReadyH.nil))
        · go_simp
          refine hK.out _ _ ?_ (fun hHeld => ?_)
          · assumption
          clear hK K
          (try simp only [Act.put, List.setIfInBounds_toArray, List.set_cons_zero, List.set_cons_succ])
          refine wpAnyH_ready (rs := [15]) (by kernel_rfl) (by simp) ?_
          refine (AllReadyH.cons (o := ⟨some 32, _, _, _, _, _⟩) rfl (fun K hK => ?_) AllReadyH.nil)
          go_simp
          refine hK.out _ _ ?_ (fun hHeld => ?_)
          · assumption
          clear hK K
          (try simp only [Act.put, List.setIfInBounds_toArray, List.set_cons_zero, List.set_cons_succ])
          refine wpAnyH_ready (rs := [16]) (by kernel_rfl) (by simp) ?_
          refine (AllReadyH.cons (o := ⟨some 33, _, _, _, _, _⟩) rfl (fun K hK => ?_) AllReadyH.nil)
          go_simp
          (refine (l4Live_any (.slice At ts.length ct) vf rv8 (some ⟨pk, 0, none⟩) np ts P.op P.x P.y P.n nv B np (R.getD k []) (rows8.getD k []) _ _ w8 (HB1.out.ht.low BX8.out (by omega)) (by omega) HRX8.out HRW8.out HRK.out HIN.out (Nat.le_refl _) HLN8.out h6 (by omega)).mono ?_)
          (rintro e w9 ⟨g9, L9, rfl, hr9, hl9, hL9, hb9⟩)
          (have BX9 := Lib.hid (BX8.out.trans (hb9.mono hs8)))
          (have HBO := Lib.hid (hr9.bools (c := np) (by omega) (by omega)))
          (rw [hl9] at HBO)
          (have HLL := Lib.hid hl9)
          (have HLK := Lib.hid (fun e he => (hL9 e he).trans (lvA_kpl HPK.out (fun v e => HST.out k v e) (fun v => HRG8.out k v))))
          clear hr9 hl9 hL9 hb9
          go_simp
          refine hK.out _ _ ?_ (fun hHeld => ?_)
          · exact ⟨belC2 BX9.out c0 hs0, belC2 BX9.out c1 hs0, belC2 BX9.out p0 hbp, belC2 BX9.out p1 hbp, belC2 BX9.out p2 hbp, belC2 BX9.out p3 hbp, belC2 BX9.out p4 hbp, BX9.out⟩
          clear hK K
          (try simp only [Act.put, List.setIfInBounds_toArray, List.set_cons_zero, List.set_cons_succ])
          refine wpAnyH_ready (rs := [17]) (by kernel_rfl) (by simp) ?_
          refine (AllReadyH.cons (o := ⟨some 34, _, _, _, _, _⟩) rfl (fun K hK => ?_) AllReadyH.nil)
          go_simp
          (refine (l3Numbers_any _ _ _ _ HBO.out (Nat.le_refl _)).mono ?_)
          (rintro e w10 ⟨v10, rfl, hi10, hb10⟩)
          (have BX10 := Lib.hid (BX9.out.trans (hb10.mono BX9.out.size)))
          (have HI10 := Lib.hid hi10)
          clear hi10 hb10
          go_simp
          refine hK.out _ _ ?_ (fun hHeld => ?_)
          · exact ⟨belC2 BX10.out c0 hs0, belC2 BX10.out c1 hs0, belC2 BX10.out p0 hbp, belC2 BX10.out p1 hbp, belC2 BX10.out p2 hbp, belC2 BX10.out p3 hbp, belC2 BX10.out p4 hbp, BX10.out⟩
          clear hK K
          (try simp only [Act.put, List.setIfInBounds_toArray, List.set_cons_zero, List.set_cons_succ])
          refine wpAnyH_take (i := 18) (oi := ⟨some 4, _, _, _, _, _⟩) (v := ?_) rfl (by kernel_rfl) (by kernel_rfl) (by kernel_rfl) (fun _ _ _ h => h) (Or.inl ⟨by rfl, fun w' hSw => ?_⟩) (by assumption) ?_
          rotate_left
          · (try dsimp only at hSw); go_simp; (try with_reducible rfl)
          (try simp only [Act.put, List.setIfInBounds_toArray, List.set_cons_zero, List.set_cons_succ])
          refine wpAnyH_done (by kernel_rfl) ?_ _
          go_wp2_with fail
          go_ret
          have hfin := HI10.out
          rw [HLL.out] at hfin
          exact ⟨_, rfl, by (rw [HRES.out]; unfold liveLn; rw [← HNP.out, ← lst_congr HLK.out]; exact hfin), HB1.out.bel.trans (BX10.out.mono HB1.out.bel.size)⟩
        · go_simp
          refine hK.out _ _ ?_ (fun hHeld => ?_)
          · assumption
          clear hK K
          (try simp only [Act.put, List.setIfInBounds_toArray, List.set_cons_zero, List.set_cons_succ])
          refine wpAnyH_ready (rs := [10]) (by kernel_rfl) (by simp) ?_
          refine (AllReadyH.cons (o := ⟨some 27, _, _, _, _, _⟩) rfl (fun K hK => ?_) AllReadyH.nil)
          go_simp
          refine hK.out _ _ ?_ (fun hHeld => ?_)
          · assumption
          clear hK K
          (try simp only [Act.put, List.setIfInBounds_toArray, List.set_cons_zero, List.set_cons_succ])
          refine wpAnyH_ready (rs := [16]) (by kernel_rfl) (by simp) ?_
          refine (AllReadyH.cons (o := ⟨some 33, _, _, _, _, _⟩) rfl (fun K hK => ?_) AllReadyH.nil)
          go_simp
          (refine (l4Live_any (.slice At ts.length ct) vf rv8 (some ⟨pk, 0, none⟩) np ts P.op P.x P.y P.n nv B np (R.getD k []) (rows8.getD k []) _ _ w8 (HB1.out.ht.low BX8.out (by omega)) (by omega) HRX8.out HRW8.out HRK.out HIN.out (Nat.le_refl _) HLN8.out h6 (by omega)).mono ?_)
          (rintro e w9 ⟨g9, L9, rfl, hr9, hl9, hL9, hb9⟩)
          (have BX9 := Lib.hid (BX8.out.trans (hb9.mono hs8)))
          (have HBO := Lib.hid (hr9.bools (c := np) (by omega) (by omega)))
          (rw [hl9] at HBO)
          (have HLL := Lib.hid hl9)
          (have HLK := Lib.hid (fun e he => (hL9 e he).trans (lvA_kpl HPK.out (fun v e => HST.out k v e) (fun v => HRG8.out k v))))
          clear hr9 hl9 hL9 hb9
          go_simp
          refine hK.out _ _ ?_ (fun hHeld => ?_)
          · exact ⟨belC2 BX9.out c0 hs0, belC2 BX9.out c1 hs0, belC2 BX9.out p0 hbp, belC2 BX9.out p1 hbp, belC2 BX9.out p2 hbp, belC2 BX9.out p3 hbp, belC2 BX9.out p4 hbp, BX9.out⟩
          clear hK K
          (try simp only [Act.put, List.setIfInBounds_toArray, List.set_cons_zero, List.set_cons_succ])
          refine wpAnyH_ready (rs := [17]) (by kernel_rfl) (by simp) ?_
          refine (AllReadyH.cons (o := ⟨some 34, _, _, _, _, _⟩) rfl (fun K hK => ?_) AllReadyH.nil)
          go_simp
          (refine (l3Numbers_any _ _ _ _ HBO.out (Nat.le_refl _)).mono ?_)
          (rintro e w10 ⟨v10, rfl, hi10, hb10⟩)
          (have BX10 := Lib.hid (BX9.out.trans (hb10.mono BX9.out.size)))
          (have HI10 := Lib.hid hi10)
          clear hi10 hb10
          go_simp
          refine hK.out _ _ ?_ (fun hHeld => ?_)
          · exact ⟨belC2 BX10.out c0 hs0, belC2 BX10.out c1 hs0, belC2 BX10.out p0 hbp, belC2 BX10.out p1 hbp, belC2 BX10.out p2 hbp, belC2 BX10.out p3 hbp, belC2 BX10.out p4 hbp, BX10.out⟩
          clear hK K
          (try simp only [Act.put, List.setIfInBounds_toArray, List.set_cons_zero, List.set_cons_succ])
          refine wpAnyH_take (i := 18) (oi := ⟨some 4, _, _, _, _, _⟩) (v := ?_) rfl (by kernel_rfl) (by kernel_rfl) (by kernel_rfl) (fun _ _ _ h => h) (Or.inl ⟨by rfl, fun w' hSw => ?_⟩) (by assumption) ?_
          rotate_left
          · (try dsimp only at hSw); go_simp; (try with_reducible rfl)
          (try simp only [Act.put, List.setIfInBounds_toArray, List.set_cons_zero, List.set_cons_succ])
          refine wpAnyH_done (by kernel_rfl) ?_ _
          go_wp2_with fail
          go_ret
          have hfin := HI10.out
          rw [HLL.out] at hfin
          exact ⟨_, rfl, by (rw [HRES.out]; unfold liveLn; rw [← HNP.out, ← lst_congr HLK.out]; exact hfin), HB1.out.bel.trans (BX10.out.mono HB1.out.bel.size)⟩
    · have HRES : Hid (liveLnRes ts l a = []) := Lib.hid (by unfold liveLnRes; rw [HGN.out (by omega)]; rfl)
      go_wp2_with fail
      go_ret
      exact ⟨_, rfl, by rw [HRES.out]; exact IntS.nil' _ _ _ _, HB1.out.bel.trans ((bel_a _ _).mono HB1.out.bel.size)⟩

end Go.Proofs.Ytidlifijgooceaa
