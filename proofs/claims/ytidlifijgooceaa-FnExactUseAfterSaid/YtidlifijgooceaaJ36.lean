import Derived.Test.YtidlifijgooceaaJ35
import Derived.Test.YtidlifijgooceaaJ17
import Derived.Test.YtidlifijgooceaaJ01
import Derived.Deep.DeepCutAuto
set_option linter.unusedVariables false

/- spec.l13Uses. -/
namespace Go.Proofs.Ytidlifijgooceaa
open Go.RowKit

set_option maxHeartbeats 4000000 in
set_option maxRecDepth 100000 in
theorem l13Uses_any (vt : Value) (ts : List Int) (B : Nat) (op x y n : Int) (A : Option Addr) (m c : Nat) (vf : Value) (Aq : Option Addr) (nq cq : Nat) (rb : List Nat) (s : Nat) (rows : List (List Bool)) (base loan : Nat) (w : World) (ht : IntS w B vt ts) (hB : B ≤ w.heap.size)
    (hr : BRow w base vf rb s rows) (hlen : rows.length = ts.length) (hin : ∀ v, v < ts.length → (rows.getD v []).length = s) (hln : loan < s) (hs : s ≤ 61) :
    Calls Try.prog 88 #[vt, .agg #[.int .i64 op, .int .i64 x, .int .i64 y, .int .i64 n, .slice A m c], .agg #[vf, .slice Aq nq cq], .int .i64 (loan : Nat)] w
      fun e w' => e = .returned (.bool (usesP (fun v => (rows.getD v []).getD loan false) ts op x y)) ∧ Below w.heap.size w w' := by
  have hvf : ∃ Af cf, vf = .slice Af rows.length cf ∧ rows.length ≤ cf := by
    rcases hr.own.2 with ⟨rfl, h0⟩ | ⟨g, cap, cur, rfl, _, _, hc, _⟩
    · exact ⟨none, 0, by rw [h0], by omega⟩
    · exact ⟨_, cap, rfl, hc⟩
  obtain ⟨Af, cf, rfl, hcf⟩ := hvf
  rw [hlen] at hr hcf ⊢
  have HX := Lib.hid ((RowB.new w [.int .i64 op, .int .i64 x, .int .i64 y, .int .i64 n, .slice A m c] 100).alloc (.cells #[.slice Af ts.length cf, .slice Aq nq cq] 102))
  have HY := Lib.hid (RowB.new (w.alloc (.cells #[.int .i64 op, .int .i64 x, .int .i64 y, .int .i64 n, .slice A m c] 100)) [.slice Af ts.length cf, .slice Aq nq cq] 102)
  have hb2 : Below w.heap.size w ((w.alloc (.cells #[.int .i64 op, .int .i64 x, .int .i64 y, .int .i64 n, .slice A m c] 100)).alloc (.cells #[.slice Af ts.length cf, .slice Aq nq cq] 102)) := (bel_a w _).alloc (by simp) _
  have hs1 : (w.alloc (.cells #[.int .i64 op, .int .i64 x, .int .i64 y, .int .i64 n, .slice A m c] 100)).heap.size = w.heap.size + 1 := by simp
  rw [hs1] at HY
  have HB2 := Lib.hid hb2
  have HT := Lib.hid (ht.low hb2 hB)
  have HR := Lib.hid (hr.low hb2)
  obtain ⟨At, ct, rfl, hct, htl, -⟩ := ht
  clear hr hb2 hs1
  go_enter Try.func88, Try.ntmps88
  go_upto_region 1 with (at_builtin; fail)
  generalize (w.alloc (.cells #[.int .i64 op, .int .i64 x, .int .i64 y, .int .i64 n, .slice A m c] 100)).alloc (.cells #[.slice Af ts.length cf, .slice Aq nq cq] 102) = W at *
  obtain ⟨gx, hgx⟩ : ∃ gx, gx = w.heap.size := ⟨_, rfl⟩
  obtain ⟨gy, hgy⟩ : ∃ gy, gy = w.heap.size + 1 := ⟨_, rfl⟩
  rw [← hgy] at HY ⊢
  rw [← hgx] at HX ⊢
  have hBW : B ≤ W.heap.size := by have := HB2.out.size; omega
  clear hgx hgy
  go_wp2_with (at_builtin; fail)
  go_loopw [9] (fun i wr => ∃ j : Nat, j ≤ ts.length ∧ i = .int .i64 j ∧ (∀ v, v < j → ((rows.getD v []).getD loan false && useP ts op x y (v : Nat) != 0) = false) ∧ Below W.heap.size W wr) (fun i _ => ts.length - (intOf i).toNat)
  case atStart => exact ⟨0, Nat.zero_le _, rfl, fun v h => by omega, Below.refl _ _⟩
  case round =>
    obtain ⟨j, hj, rfl, hno, hbw⟩ := hrel
    have HNO := Lib.hid hno
    have HBW := Lib.hid hbw
    have hx := HX.out.low hbw HX.out.lt
    have hy := HY.out.low hbw HY.out.lt
    have y0 := hy.cell 0
    have x0 := hx.cell 0
    have x1 := hx.cell 1
    have x2 := hx.cell 2
    have x3 := hx.cell 3
    have x4 := hx.cell 4
    simp only [List.getElem?_cons_zero, List.getElem?_cons_succ] at y0 x0 x1 x2 x3 x4
    have hsw := hbw.size
    clear hno hbw hx hy
    by_cases hlt : j < ts.length
    · have hrw := HR.out.low HBW.out
      obtain ⟨g, c', e, -, hgl, hcc, hcell, -⟩ := hrw.form (by omega)
      injection e with e1 e2 e3
      subst e1 e3
      clear e2
      have hck := hcell j (by omega)
      have hrow := (hrw.row j (by omega)).1
      have hin' := hin j hlt
      have hbc : wr.cell? ⟨rb.getD j 0, loan, none⟩ = some (.bool ((rows.getD j []).getD loan false)) := by rw [hrow.cell, bv_get (by omega)]
      clear hrw hrow hcell
      have HTW := Lib.hid (HT.out.low HBW.out hBW)
      generalize rb.getD j 0 = rr at *
      generalize hfl : (rows.getD j []).getD loan false = fl at *
      have HFL := Lib.hid hfl
      clear hfl
      cases fl
      · go_wp2_with (at_builtin; fail)
        refine ⟨⟨j + 1, by omega, by go_num, fun v hv => ?_, HBW.out⟩, by simp [intOf] <;> omega⟩
        rcases Nat.lt_or_ge v j with h | h
        · exact HNO.out v h
        · obtain rfl : v = j := by omega
          rw [HFL.out]; rfl
      · go_wp2_with (at_builtin; fail)
        refine (l3Use_any _ ts B op x y n ((j : Nat) : Int) _ wr HTW.out (by omega) (by omega) (by omega)).mono ?_
        rintro e w5 ⟨rfl, hb5⟩
        have HB5 := Lib.hid (HBW.out.trans (hb5.mono hsw))
        clear hb5 y0 x0 x1 x2 x3 x4
        generalize huse : useP ts op x y ((j : Nat) : Int) = us at *
        have HUS := Lib.hid huse
        clear huse
        by_cases hu : us = 0
        · have hu1 : (us != 0) = false := by rw [hu]; rfl
          go_wp2_with (at_builtin; fail)
          refine ⟨⟨j + 1, by omega, by go_num, fun v hv => ?_, HB5.out⟩, by simp [intOf] <;> omega⟩
          rcases Nat.lt_or_ge v j with h | h
          · exact HNO.out v h
          · obtain rfl : v = j := by omega
            rw [HUS.out, hu]; simp
        · have hu1 : (us != 0) = true := by simpa using hu
          have HRES : Hid (usesP (fun v => (rows.getD v []).getD loan false) ts op x y = true) := Lib.hid (usesP_yes hlt HFL.out (by rw [HUS.out]; exact hu))
          go_wp2_with (at_builtin; fail)
          go_ret
          exact ⟨by rw [HRES.out] <;> rfl, HB2.out.trans (HB5.out.mono HB2.out.size)⟩
    · have hjl : j = ts.length := by omega
      have HRES : Hid (usesP (fun v => (rows.getD v []).getD loan false) ts op x y = false) := Lib.hid (usesP_no fun v hv => HNO.out v (by omega))
      clear hjl
      go_wp2_with (at_builtin; fail)
      go_ret
      exact ⟨by rw [HRES.out] <;> rfl, HB2.out.trans (HBW.out.mono HB2.out.size)⟩

end Go.Proofs.Ytidlifijgooceaa
