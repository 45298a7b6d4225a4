import Derived.Test.YtfioaohadanjmaaGreatU16
import Derived.Test.YtfioaohadanjmaaGreatU14
import Derived.Test.YtfioaohadanjmaaGreatU07
import Derived.Test.YtfioaohadanjmaaGreatU06
set_option linter.unusedVariables false

/- spec.ReadCell, WriteCell, FreeCell. -/
namespace Go.Proofs.YtfioaohadanjmaaGreat
open Go.RowKit

/-- a memory of a call's own, a number and a code -/
def MrRet (w : World) (r : List Cl × Int × Int) (e : Ending) (w' : World) : Prop := ∃ v, e = .returned (.tuple #[v, .int .i64 r.2.1, .int .i64 r.2.2]) ∧ MeS w' w.heap.size v r.1 ∧ Below w.heap.size w w'
theorem readP_no {m : List Cl} {pc pt k : Nat} {code : Int} (h : placeP m pc pt = (k, code)) (hc : code ≠ 0) : readP m pc pt = (m, 0, code) := by
  unfold readP; rw [touchP_no h hc]; exact if_neg hc
theorem readP_yes {m : List Cl} {pc pt k : Nat} (h : placeP m pc pt = (k, 0)) : readP m pc pt = (m.set pc { clAt m pc with st := rdSt (clAt m pc).st k }, (clAt m pc).val, 0) := by
  unfold readP; rw [touchP_rd h]; exact if_pos rfl
set_option maxHeartbeats 4000000 in
set_option maxRecDepth 100000 in
theorem sReadCell_any (v : Value) (m : List Cl) (pc pt base : Nat) (w : World) (h : MeS w base v m) (hok : okM m) :
    Calls Tryz.prog 88 #[v, .agg #[.int .i64 (pc : Nat), .int .i64 (pt : Nat)]] w (MrRet w (readP m pc pt)) := by
  have hl := hok.len
  have OK := Lib.hid hok
  have H := Lib.hid h
  have HX := Lib.hid (RowB.new w [.int .i64 (pc : Nat), .int .i64 (pt : Nat)] 77)
  have HB0 := Lib.hid (bel_a w (.cells #[.int .i64 (pc : Nat), .int .i64 (pt : Nat)] 77))
  obtain ⟨A, c, rfl, hc⟩ := h.slice
  clear h hok
  go_enter Tryz.func88, Tryz.ntmps88
  go_upto_region 1 with (at_builtin; fail)
  generalize w.alloc (.cells #[.int .i64 (pc : Nat), .int .i64 (pt : Nat)] 77) = W at *
  obtain ⟨bx, hbx⟩ : ∃ bx, bx = w.heap.size := ⟨_, rfl⟩
  rw [← hbx] at HX ⊢
  have hs0 := HB0.out.size
  have HBX := Lib.hid hbx
  clear hbx
  have HCP := Lib.hid (l6Copy_any _ m base W (H.out.bel HB0.out) OK.out)
  go_wp2_with (at_builtin; fail)
  refine HCP.out.mono ?_
  rintro e w1 ⟨v1, rfl, hv1, hb1⟩
  have HO1 := Lib.hid (hv1.base hs0)
  have HB1 := Lib.hid (HB0.out.trans (hb1.mono hs0))
  have HX1 := Lib.hid (HX.out.low hb1 HX.out.lt)
  obtain ⟨A1, c1, rfl, hc1⟩ := hv1.slice
  have x0 := HX1.out.cell 0
  have x1 := HX1.out.cell 1
  simp only [List.getElem?_cons_zero, List.getElem?_cons_succ] at x0 x1
  have HPL := Lib.hid (l6Place_any _ m pc pt base w1 (H.out.bel HB1.out) OK.out)
  clear hb1 hv1 HCP
  have hs1 := HB1.out.size
  obtain ⟨k, code, hpl⟩ : ∃ k code, placeP m pc pt = (k, code) := ⟨_, _, rfl⟩
  rw [hpl] at HPL
  have HPE := Lib.hid hpl
  clear hpl
  go_wp2_with (at_builtin; fail)
  refine HPL.out.mono ?_
  rintro e w2 ⟨rfl, hb2⟩
  have HO2 := Lib.hid (HO1.out.bel hb2)
  have HB2 := Lib.hid (HB1.out.trans (hb2.mono hs1))
  have HX2 := Lib.hid (HX1.out.low hb2 HX1.out.lt)
  have hs2 := HB2.out.size
  have hxl := HX2.out.lt
  clear hb2 HPL x0 x1 HO1 HX1 HB1
  by_cases hcode : code = 0
  · subst hcode
    have HR := Lib.hid (readP_yes HPE.out)
    have x0 := HX2.out.cell 0
    simp only [List.getElem?_cons_zero] at x0
    obtain ⟨hpcl, -, htg⟩ := placeP_ok (m := m) (pc := pc) (pt := pt) (by rw [HPE.out])
    rw [HPE.out] at htg
    have hkl := tagAt_lt htg
    obtain ⟨ps, hps, hO⟩ := H.out.bel HB2.out
    have hpl := MeS.len (w := w) (base := base) (v := .slice A m.length c) hps
    obtain ⟨g, rfl, hgb, hgl, -, d0, d1, d2, d3, -⟩ := hO.at_ (i := pc) (by omega)
    have hce := map_at hps (i := pc) (by omega)
    have hst1 := (OK.out.2 (clAt m pc) (clAt_mem hpcl)).l1
    have hrw := hO.row pc (by omega)
    rw [hce] at d0 d1 d2 hrw
    have HTG := Lib.hid (hrw.toS (by omega))
    generalize ps[pc].2 = tv at *
    obtain ⟨At, ct, rfl, hct⟩ := HTG.out.slice
    obtain ⟨qs, hqs, hQ⟩ := HO2.out
    have hql := MeS.len (w := w) (base := base) (v := .slice A1 m.length c1) hqs
    have HQ := Lib.hid hQ
    have HQS := Lib.hid hqs
    have HQC := Lib.hid (map_at hqs (i := pc) (by omega))
    obtain ⟨go, rfl, hgo, hgol, -, -, -, -, e3, fz⟩ := hQ.at_ (i := pc) (by omega)
    generalize qs[pc].2 = tv2 at *

    clear hO hrw hce htg d1 d2 hQ hqs HO2
    have FIN : Hid (∀ (w' : World) (A' : Option Addr) (c' : Nat), Below w2.heap.size w2 w' → OTg w' w2.heap.size (.slice A' (rdSt (clAt m pc).st k).length c') (rdSt (clAt m pc).st k) →
        MeS (w'.setCell ⟨go, pc * 4 + 3, none⟩ (.slice A' (rdSt (clAt m pc).st k).length c')) w.heap.size (.slice (some ⟨go, 0, none⟩) m.length c1) (m.set pc { clAt m pc with st := rdSt (clAt m pc).st k }) ∧ Below w.heap.size w (w'.setCell ⟨go, pc * 4 + 3, none⟩ (.slice A' (rdSt (clAt m pc).st k).length c'))) := Lib.hid fun w' A' c' hb ht => by
      refine ⟨⟨_, ?_, HQ.out.setSt hql.symm (i := pc) (by omega) (ht.base hs2) (fun j hj hji b hb' e => ?_) (hb.block go hgol) (fun j hj hji b hb' => hb.block b ((HQ.out.row j hj).own_lt hb').2)⟩, HB2.out.trans ((hb.mono hs2).setCell (p := ⟨go, _, none⟩) hgo _)⟩
      · rw [map_set_fst, HQS.out, HQC.out]
      · have h1 := ((HQ.out.row j hj).own_lt hb').2
        have h2 := (ht.own_lt e).1
        omega
    have HCL := Lib.hid (fun (wz : World) (hz : Below w2.heap.size w2 wz) => l6Read_any (.slice At (clAt m pc).st.length ct) (clAt m pc).st k w2.heap.size wz (HTG.out.low hz (Nat.le_refl _)) hz.size hkl hst1)
    obtain ⟨val, hval⟩ : ∃ val, val = (clAt m pc).val := ⟨_, rfl⟩
    rw [← hval] at d0
    have HVE := Lib.hid hval
    clear hval
    have tok1 : True := trivial
    go_wp2_with (at_builtin; fail)
    go_region_law (first
      | ((have _t := tok1); go_simp; go_at_call 112; (refine (HCL.out _ (Below.refl w2.heap.size w2).drew).mono ?_); (rintro e w3 ⟨v3, rfl, ho3, hb3⟩); clear tok1 _t; (obtain ⟨A3, c3, rfl, hc3⟩ := OTg.slice ho3); (have HO3 := Lib.hid (show OTg w3 w2.heap.size (.slice A3 (rdSt (clAt m pc).st k).length c3) (rdSt (clAt m pc).st k) from ho3)); (have HB3 := Lib.hid (show Below w2.heap.size w2 w3 from (Below.refl w2.heap.size w2).drew.trans hb3)); (have y0 := (HB3.out.cell (p := ⟨bx, 0, none⟩) hxl).trans x0); (have z0 := (HB3.out.cell (p := ⟨g, pc * 4, none⟩) hgl).trans d0); (have y3 := (HB3.out.cell (p := ⟨go, pc * 4 + 3, none⟩) hgol).trans e3); (have yf := (HB3.out.frozen (p := ⟨go, pc * 4 + 3, none⟩) hgol).trans (fz (pc * 4 + 3))); clear ho3 hb3)
      | fail)
    all_goals
      go_wp2_with (at_builtin; fail)
      go_quiet (fail)
      go_wp2_with (at_builtin; fail)
      go_ret3
      have hf := FIN.out _ _ _ HB3.out HO3.out
      exact ⟨_, by rw [HR.out, ← HVE.out]; rfl, by rw [HR.out]; exact MeS.bel hf.1 (below_of_drewN ⟨_, rfl⟩ _), hf.2.trans (below_of_drewN ⟨_, rfl⟩ _)⟩
  · have HR := Lib.hid (readP_no HPE.out hcode)
    have hq : (code != 0) = true := by simpa using hcode
    clear hcode
    go_wp2_with (at_builtin; fail)
    go_ret3
    exact ⟨_, by rw [HR.out]; rfl, by rw [HR.out]; exact HO2.out, HB2.out⟩
set_option maxHeartbeats 4000000 in
set_option maxRecDepth 100000 in
theorem sFreeCell_any (v : Value) (m : List Cl) (pc pt base : Nat) (w : World) (h : MeS w base v m) (hok : okM m) :
    Calls Tryz.prog 81 #[v, .agg #[.int .i64 (pc : Nat), .int .i64 (pt : Nat)]] w (McRet w (freeP m pc pt)) := by
  have hl := hok.len
  have OK := Lib.hid hok
  have H := Lib.hid h
  have HX := Lib.hid (RowB.new w [.int .i64 (pc : Nat), .int .i64 (pt : Nat)] 77)
  have HB0 := Lib.hid (bel_a w (.cells #[.int .i64 (pc : Nat), .int .i64 (pt : Nat)] 77))
  obtain ⟨A, c, rfl, hc⟩ := h.slice
  clear h hok
  go_enter Tryz.func81, Tryz.ntmps81
  go_upto_region 1 with (at_builtin; fail)
  generalize w.alloc (.cells #[.int .i64 (pc : Nat), .int .i64 (pt : Nat)] 77) = W at *
  obtain ⟨bx, hbx⟩ : ∃ bx, bx = w.heap.size := ⟨_, rfl⟩
  rw [← hbx] at HX ⊢
  have hs0 := HB0.out.size
  have HBX := Lib.hid hbx
  clear hbx
  have x0 := HX.out.cell 0
  have x1 := HX.out.cell 1
  simp only [List.getElem?_cons_zero, List.getElem?_cons_succ] at x0 x1
  have HCP := Lib.hid (l6Write_any _ m pc pt base W (H.out.bel HB0.out) OK.out)
  go_wp2_with (at_builtin; fail)
  refine HCP.out.mono ?_
  rintro e w1 ⟨v1, rfl, hv1, hb1⟩
  have HO1 := Lib.hid (hv1.base hs0)
  have HB1 := Lib.hid (HB0.out.trans (hb1.mono hs0))
  have HX1 := Lib.hid (HX.out.low hb1 HX.out.lt)
  have hs1 := HB1.out.size
  have HTL := Lib.hid (touchP_len m pc pt true)
  obtain ⟨A1, c1, rfl, hc1⟩ := hv1.slice
  rw [HTL.out] at hc1 HO1 ⊢
  obtain ⟨m1, code, htp⟩ : ∃ m1 code, touchP m pc pt true = (m1, code) := ⟨_, _, rfl⟩
  rw [htp] at HO1 ⊢
  have HTP := Lib.hid htp
  have HML : Hid (m1.length = m.length) := Lib.hid (by have := HTL.out; rw [htp] at this; exact this)
  clear hb1 hv1 HCP x0 x1
  by_cases hcode : code = 0
  · subst hcode
    have HLT : Hid (pc < m.length) := Lib.hid (touchP_ok (m := m) (pc := pc) (pt := pt) (write := true) (by rw [htp])).2
    have HR : Hid (freeP m pc pt = (m1.set pc { clAt m1 pc with al := false }, 0)) := Lib.hid (by unfold freeP; rw [htp]; exact if_pos rfl)
    have x0 := HX1.out.cell 0
    simp only [List.getElem?_cons_zero] at x0
    obtain ⟨qs, hqs, hQ⟩ := (show MeS w1 w.heap.size _ m1 from HO1.out)
    have hql := MeS.len (w := w) (base := base) (v := .slice A1 m.length c1) hqs
    have hpl : pc < m.length := HLT.out
    have hml := HML.out
    have HQ := Lib.hid hQ
    have HQS := Lib.hid hqs
    have HQC := Lib.hid (map_at hqs (i := pc) (by omega))
    obtain ⟨go, rfl, hgo, hgol, -, -, e1, -, -, fz⟩ := hQ.at_ (i := pc) (by omega)
    have f1 := fz (pc * 4 + 1)
    have HS := Lib.hid (HQ.out.setAl (by omega) (i := pc) (by omega) false)
    clear hQ hqs htp fz
    go_wp2_with (at_builtin; fail)
    go_ret2
    refine ⟨_, by rw [HR.out]; rfl, ?_, HB1.out.setCell (p := ⟨go, _, none⟩) hgo _⟩
    rw [HR.out]
    exact ⟨_, by rw [map_set_fst, HQS.out, HQC.out], HS.out⟩
  · have HR : Hid (freeP m pc pt = (m1, code)) := Lib.hid (by unfold freeP; rw [htp]; exact if_neg hcode)
    have hq : (code == 0) = false := by simpa using hcode
    clear hcode htp
    go_wp2_with (at_builtin; fail)
    go_ret2
    exact ⟨_, by rw [HR.out]; rfl, by rw [HR.out]; exact HO1.out, HB1.out⟩
set_option maxHeartbeats 4000000 in
set_option maxRecDepth 100000 in
theorem sWriteCell_any (v : Value) (m : List Cl) (pc pt base : Nat) (val : Int) (w : World) (h : MeS w base v m) (hok : okM m) :
    Calls Tryz.prog 89 #[v, .agg #[.int .i64 (pc : Nat), .int .i64 (pt : Nat)], .int .i64 val] w (McRet w (writeP m pc pt val)) := by
  have hl := hok.len
  have OK := Lib.hid hok
  have H := Lib.hid h
  have HX := Lib.hid (RowB.new w [.int .i64 (pc : Nat), .int .i64 (pt : Nat)] 77)
  have HB0 := Lib.hid (bel_a w (.cells #[.int .i64 (pc : Nat), .int .i64 (pt : Nat)] 77))
  obtain ⟨A, c, rfl, hc⟩ := h.slice
  clear h hok
  go_enter Tryz.func89, Tryz.ntmps89
  go_upto_region 1 with (at_builtin; fail)
  generalize w.alloc (.cells #[.int .i64 (pc : Nat), .int .i64 (pt : Nat)] 77) = W at *
  obtain ⟨bx, hbx⟩ : ∃ bx, bx = w.heap.size := ⟨_, rfl⟩
  rw [← hbx] at HX ⊢
  have hs0 := HB0.out.size
  have HBX := Lib.hid hbx
  clear hbx
  have x0 := HX.out.cell 0
  have x1 := HX.out.cell 1
  simp only [List.getElem?_cons_zero, List.getElem?_cons_succ] at x0 x1
  by_cases hval : val < 0 ∨ 9 < val
  · have HR : Hid (writeP m pc pt val = (m, 4)) := Lib.hid (by unfold writeP; exact if_pos hval)
    have HCP := Lib.hid (l6Copy_any _ m base W (H.out.bel HB0.out) OK.out)
    have q1 : (decide (val < 0) || decide (val > 9)) = true := by
      rcases hval with h | h
      · rw [decide_eq_true h]; rfl
      · rw [decide_eq_true (show val > 9 from h), Bool.or_true]
    rcases hval with h | h
    · have q2 : decide (val < 0) = true := decide_eq_true h
      clear h q1
      go_wp2_with (at_builtin; fail)
      refine HCP.out.mono ?_
      rintro e w1 ⟨v1, rfl, hv1, hb1⟩
      go_wp2_with (at_builtin; fail)
      go_ret2
      exact ⟨_, by rw [HR.out]; rfl, by rw [HR.out]; exact hv1.base hs0, HB0.out.trans (hb1.mono hs0)⟩
    · have q2 : decide (val < 0) = false := decide_eq_false (by omega)
      have q3 : decide (val > 9) = true := decide_eq_true h
      clear h q1
      go_wp2_with (at_builtin; fail)
      refine HCP.out.mono ?_
      rintro e w1 ⟨v1, rfl, hv1, hb1⟩
      go_wp2_with (at_builtin; fail)
      go_ret2
      exact ⟨_, by rw [HR.out]; rfl, by rw [HR.out]; exact hv1.base hs0, HB0.out.trans (hb1.mono hs0)⟩
  · have q2 : decide (val < 0) = false := decide_eq_false (by omega)
    have q3 : decide (val > 9) = false := decide_eq_false (by omega)
    have HCP := Lib.hid (l6Write_any _ m pc pt base W (H.out.bel HB0.out) OK.out)
    have HV := Lib.hid hval
    clear hval
    go_wp2_with (at_builtin; fail)
    refine HCP.out.mono ?_
    rintro e w1 ⟨v1, rfl, hv1, hb1⟩
    have HO1 := Lib.hid (hv1.base hs0)
    have HB1 := Lib.hid (HB0.out.trans (hb1.mono hs0))
    have HX1 := Lib.hid (HX.out.low hb1 HX.out.lt)
    have hs1 := HB1.out.size
    have HTL := Lib.hid (touchP_len m pc pt true)
    obtain ⟨A1, c1, rfl, hc1⟩ := hv1.slice
    rw [HTL.out] at hc1 HO1 ⊢
    obtain ⟨m1, code, htp⟩ : ∃ m1 code, touchP m pc pt true = (m1, code) := ⟨_, _, rfl⟩
    rw [htp] at HO1 ⊢
    have HTP := Lib.hid htp
    have HML : Hid (m1.length = m.length) := Lib.hid (by have := HTL.out; rw [htp] at this; exact this)
    clear hb1 hv1 HCP x0 x1
    by_cases hcode : code = 0
    · subst hcode
      have HLT : Hid (pc < m.length) := Lib.hid (touchP_ok (m := m) (pc := pc) (pt := pt) (write := true) (by rw [htp])).2
      have HR : Hid (writeP m pc pt val = (m1.set pc { clAt m1 pc with val := val }, 0)) := Lib.hid (by unfold writeP; rw [if_neg HV.out, htp]; exact if_pos rfl)
      have x0 := HX1.out.cell 0
      simp only [List.getElem?_cons_zero] at x0
      obtain ⟨qs, hqs, hQ⟩ := (show MeS w1 w.heap.size _ m1 from HO1.out)
      have hql := MeS.len (w := w) (base := base) (v := .slice A1 m.length c1) hqs
      have hpl : pc < m.length := HLT.out
      have hml := HML.out
      have HQ := Lib.hid hQ
      have HQS := Lib.hid hqs
      have HQC := Lib.hid (map_at hqs (i := pc) (by omega))
      obtain ⟨go, rfl, hgo, hgol, -, e0, -, -, -, fz⟩ := hQ.at_ (i := pc) (by omega)
      have f1 := fz (pc * 4)
      have HS := Lib.hid (HQ.out.setVal (by omega) (i := pc) (by omega) val)
      clear hQ hqs htp fz
      go_wp2_with (at_builtin; fail)
      go_ret2
      refine ⟨_, by rw [HR.out]; rfl, ?_, HB1.out.setCell (p := ⟨go, _, none⟩) hgo _⟩
      rw [HR.out]
      exact ⟨_, by rw [map_set_fst, HQS.out, HQC.out], HS.out⟩
    · have HR : Hid (writeP m pc pt val = (m1, code)) := Lib.hid (by unfold writeP; rw [if_neg HV.out, htp]; exact if_neg hcode)
      have hq : (code == 0) = false := by simpa using hcode
      clear hcode htp
      go_wp2_with (at_builtin; fail)
      go_ret2
      exact ⟨_, by rw [HR.out]; rfl, by rw [HR.out]; exact HO1.out, HB1.out⟩

end Go.Proofs.YtfioaohadanjmaaGreat

/- spec.l6Push, ShareCell, BorrowCell, NewCell. -/
namespace Go.Proofs.YtfioaohadanjmaaGreat
open Go.RowKit

theorem res_mid {P : Program} {fn : Func} {a p u : Tmp} {ty : TypeId} (h : fn.results = #[.tmp a, .cell p ty, .tmp u]) (tmps : Array Value) (w : World) (g : Nat) (t : TypeId) (cs : Array Value) (fr : Nat × Nat) (d : TypeDesc)
    (hp : tmps.getD p undef = .pointer (some ⟨g, 0, none⟩)) (hg : w.heap[g]? = some (.cells cs t fr))
    (hu : P.underlying ty = some d) (hd : (match d with | .struct _ | .array _ _ => true | _ => false) = true) (hi : (P.info? ty).map (·.size) = some cs.size) :
    (results fn tmps).run P w = .ok (.tuple #[tmps.getD a undef, .agg cs, tmps.getD u undef]) w := by
  simp only [results, h]
  simp [Sem.run_bind, Result.andThen, asAddr]
  rw [← Array.getD_eq_getD_getElem?, hp]
  simp [run_loadVar_row w g t ty cs fr d hg hu hd hi]
theorem RowB.kpt {w : World} {g : Nat} {T : TypeId} {L : List Value} (h : RowB w g T L) (o : Nat) (vs : List Value) : KpT T w (w.setCells g o vs) := by
  refine ⟨by rw [size_putL]; exact Nat.le_refl _, fun b cs T' hb hT => ?_⟩
  rw [heap_putL]
  · exact hb
  · rintro rfl
    have h : w.heap[b]? = some (.cells L.toArray T (0, 0)) := h
    rw [hb] at h
    injection h with h
    injection h with _ hT'
    exact hT hT'
/-- the row of tags of one cell has grown -/
theorem OCe.growSt {w w1 : World} {base n c g : Nat} {ps : List (Cl × Value)} (h : OCe w base (.slice (some ⟨g, 0, none⟩) n c) ps) (hn : n = ps.length) {i : Nat} (hi : i < ps.length) {tv : Value} {st : List Tg} (ht : OTg w1 base tv st)
    (hg : w.grownBy w1 ps[i].2.ownBlock) (hl : tv.ownBlock = ps[i].2.ownBlock ∨ ∃ b, tv.ownBlock = some b ∧ w.heap.size ≤ b) :
    OCe (w1.setCell ⟨g, i * 4 + 3, none⟩ tv) base (.slice (some ⟨g, 0, none⟩) n c) (ps.set i ({ ps[i].1 with st := st }, tv)) := by
  refine h.setSt hn hi ht (fun j hj hji b hb e => ?_) (hg.block g (row_lt (own_heap h.own rfl).choose_spec) fun e => h.row_ne hi (g := g) rfl e.symm rfl) fun j hj hji b hb => hg.block b ((h.row j hj).own_lt hb).2 fun e => h.ne i j hi hj (Ne.symm hji) b e.symm hb
  have hlt := ((h.row j hj).own_lt hb).2
  rcases hl with hl | ⟨b', hl, hb'⟩
  · rw [hl] at e; exact h.ne i j hi hj (Ne.symm hji) b e hb
  · rw [hl] at e; injection e with e; omega
theorem tag_lit (w : World) (id : Nat) (un : Bool) : TgS (w.alloc (.cells #[.int .i64 (id : Nat), .bool un] 116)) (w.heap.size + 1) (.slice (some ⟨w.heap.size, 0, none⟩) 1 1) [⟨id, un⟩] := by
  refine ⟨_, 1, rfl, Nat.le_refl _, by simp, fun _ => ⟨w.heap.size, 0, rfl, by omega, fun i hi => ?_⟩⟩
  have : i = 0 := by simpa using hi
  subst this
  refine ⟨(cell_of_row _ _ _ _ _ _ (heap_alloc_new w _)).trans rfl, (cell_of_row _ _ _ _ _ _ (heap_alloc_new w _)).trans rfl⟩
/-- a memory, a pointer, a code -/
def MpRet (w : World) (base : Nat) (r : List Cl × (Nat × Nat) × Int) (e : Ending) (w' : World) : Prop :=
  ∃ v, e = .returned (.tuple #[v, .agg #[.int .i64 (r.2.1.1 : Nat), .int .i64 (r.2.1.2 : Nat)], .int .i64 r.2.2]) ∧ MeS w' base v r.1 ∧ Below base w w'
set_option maxHeartbeats 4000000 in
set_option maxRecDepth 100000 in
theorem l6Push_any (v vb : Value) (m1 m : List Cl) (pc b1 b2 : Nat) (un : Bool) (w : World) (h1 : MeS w b1 v m1) (h2 : MeS w b2 vb m) (hpc : pc < m1.length) (hok1 : okM m1) (hok : okM m) (hb1 : b1 ≤ w.heap.size) :
    Calls Tryz.prog 125 #[v, vb, .int .i64 (pc : Nat), .bool un] w (MpRet w b1 (pushP m m1 pc un)) := by
  have hl1 := hok1.len
  have OK := Lib.hid hok
  have OK1 := Lib.hid hok1
  have H2 := Lib.hid h2
  obtain ⟨Am, cm, rfl, hcm⟩ := h1.slice
  obtain ⟨Ab, cb, rfl, hcb⟩ := h2.slice
  obtain ⟨qs, hqs, hQ⟩ := h1
  have hql := MeS.len (w := w) (base := b1) (v := .slice Am m1.length cm) hqs
  obtain ⟨go, rfl, hgo, hgol, -, d0, d1, d2, d3, -⟩ := hQ.at_ (i := pc) (by omega)
  have HQ := Lib.hid hQ
  have HQS := Lib.hid hqs
  have hce := map_at hqs (i := pc) (by omega)
  have hrw := hQ.row pc (by omega)
  obtain ⟨tv, htv⟩ : ∃ tv, tv = qs[pc].2 := ⟨_, rfl⟩
  rw [← htv] at d3 hrw
  have HTV := Lib.hid htv
  rw [hce] at d0 d1 d2 hrw
  have HCE := Lib.hid hce
  have HRW := Lib.hid hrw
  obtain ⟨At, ct, rfl, hct⟩ := hrw.slice
  have hst1 := (OK1.out.2 (clAt m1 pc) (clAt_mem hpc)).l1
  have hnx1 := (OK1.out.2 (clAt m1 pc) (clAt_mem hpc)).n1
  clear h2 hQ hqs hrw hce htv hok hok1
  have HX0 := Lib.hid (RowB.new w [.int .i64 0, .int .i64 0] 77)
  have HB0 := Lib.hid (bel_a w (.cells #[.int .i64 0, .int .i64 0] 77))
  have hz0 : (w.alloc (.cells #[.int .i64 0, .int .i64 0] 77)).heap.size = w.heap.size + 1 := by simp
  have HZ0 := Lib.hid hz0
  have hgl0 := HX0.out.lt
  clear hz0
  go_enter Tryz.func125, Tryz.ntmps125
  go_upto_region 1 with (at_builtin; fail)
  have e0 := (HB0.out.cell (p := ⟨go, pc * 4, none⟩) hgol).trans d0
  have e1 := (HB0.out.cell (p := ⟨go, pc * 4 + 1, none⟩) hgol).trans d1
  have e2 := (HB0.out.cell (p := ⟨go, pc * 4 + 2, none⟩) hgol).trans d2
  have e3 := (HB0.out.cell (p := ⟨go, pc * 4 + 3, none⟩) hgol).trans d3
  generalize w.alloc (.cells #[.int .i64 0, .int .i64 0] 77) = W at *
  obtain ⟨bx, hbx⟩ : ∃ bx, bx = w.heap.size := ⟨_, rfl⟩
  rw [← hbx] at HX0 HZ0 hgl0 ⊢
  have HBX := Lib.hid hbx
  have hgo2 : go < bx := by omega
  clear hbx d0 d1 d2 d3
  have hgoW : go < W.heap.size := by omega
  have HC1 := Lib.hid (RowB.new W [.int .i64 (clAt m1 pc).val, .bool (clAt m1 pc).al, .int .i64 ((clAt m1 pc).nx : Nat), .slice At (clAt m1 pc).st.length ct] 84)
  have HB1 := Lib.hid (bel_a W (.cells #[.int .i64 (clAt m1 pc).val, .bool (clAt m1 pc).al, .int .i64 ((clAt m1 pc).nx : Nat), .slice At (clAt m1 pc).st.length ct] 84))
  go_upto_region 2 with (at_builtin; fail)
  generalize W.alloc (.cells #[.int .i64 (clAt m1 pc).val, .bool (clAt m1 pc).al, .int .i64 ((clAt m1 pc).nx : Nat), .slice At (clAt m1 pc).st.length ct] 84) = W1 at *
  obtain ⟨bc, hbc⟩ : ∃ bc, bc = W.heap.size := ⟨_, rfl⟩
  rw [← hbc] at HC1 ⊢
  have HBC := Lib.hid hbc
  clear hbc e0 e1 e2 e3
  have HBW := Lib.hid (HB0.out.trans (HB1.out.mono HB0.out.size))
  have HQ1 := Lib.hid (HQ.out.bel HBW.out)
  have hsw := HBW.out.size
  have HX1 := Lib.hid (HX0.out.low HB1.out hgl0)
  have HZ1 : Hid (bx < W1.heap.size ∧ bc < W1.heap.size ∧ go < W1.heap.size ∧ go < bx ∧ bx < bc ∧ w.heap.size = bx) := Lib.hid ⟨HX1.out.lt, HC1.out.lt, by have := HC1.out.lt; have := HBC.out; omega, hgo2, by have := HBC.out; have := HZ0.out; omega, HBX.out.symm⟩
  have c2 := HC1.out.cell 2
  have c3 := HC1.out.cell 3
  simp only [List.getElem?_cons_zero, List.getElem?_cons_succ] at c2 c3
  obtain ⟨nx, hnx⟩ : ∃ nx, nx = (clAt m1 pc).nx := ⟨_, rfl⟩
  rw [← hnx] at c2 hnx1
  have HNX := Lib.hid hnx
  clear hnx
  by_cases hfull : (clAt m1 pc).st.length = 200 ∨ nx = 1000
  · have HR : Hid (pushP m m1 pc un = (m, (0, 0), 4)) := Lib.hid (by unfold pushP; rw [← HNX.out]; exact if_pos hfull)
    have HCP := Lib.hid (l6Copy_any _ m b2 W1 (H2.out.bel HBW.out) OK.out)
    have r0 := HX1.out.cell 0
    rcases hfull with hf | hf
    · have q1 : ((((clAt m1 pc).st.length : Nat) : Int) == 200) = true := by rw [hf]; rfl
      clear hf
      go_wp2_with (at_builtin; fail)
      refine HCP.out.mono ?_
      rintro e w2 ⟨v2, rfl, hv2, hb2⟩
      have HX2 := Lib.hid (HX1.out.low hb2 HZ1.out.1)
      have HV2 := Lib.hid (hv2.base (Nat.le_trans hb1 hsw))
      have HB2 := Lib.hid (HBW.out.trans (hb2.mono hsw))
      have r0 := HX2.out.cell 0
      have r1 := HX2.out.cell 1
      have rf0 := HX2.out.frozen 0
      have rf1 := HX2.out.frozen 1
      simp only [List.getElem?_cons_zero, List.getElem?_cons_succ] at r0 r1
      clear hv2 hb2
      go_wp2_with (at_builtin; fail)
      have HR7 : RowB (w2.setCells bx 0 [.int .i64 0, .int .i64 0]) bx 77 _ := HX2.out.putAll _ rfl
      refine bodyPost_ret (res_mid (a := 8) (p := 9) (u := 10) (ty := 77) rfl _ _ bx 77 _ (0, 0) _ rfl HR7 Tryz.underlying77 rfl rfl) rfl ?_
      rw [HR.out]
      exact ⟨_, rfl, HV2.out.keepT (HX2.out.kpt 0 [.int .i64 0, .int .i64 0]) (by decide) (by decide), (HB2.out.mono hb1).trans (below_putL (B := b1) (g := bx) (by have := HZ1.out.2.2.2.2.2; omega) [.int .i64 0, .int .i64 0] 0 w2)⟩
    · have q2 : (((nx : Nat) : Int) == 1000) = true := by rw [hf]; rfl
      by_cases hf2 : (clAt m1 pc).st.length = 200
      · have q1 : ((((clAt m1 pc).st.length : Nat) : Int) == 200) = true := by rw [hf2]; rfl
        clear hf2
        clear hf
        go_wp2_with (at_builtin; fail)
        refine HCP.out.mono ?_
        rintro e w2 ⟨v2, rfl, hv2, hb2⟩
        have HX2 := Lib.hid (HX1.out.low hb2 HZ1.out.1)
        have HV2 := Lib.hid (hv2.base (Nat.le_trans hb1 hsw))
        have HB2 := Lib.hid (HBW.out.trans (hb2.mono hsw))
        have r0 := HX2.out.cell 0
        have r1 := HX2.out.cell 1
        have rf0 := HX2.out.frozen 0
        have rf1 := HX2.out.frozen 1
        simp only [List.getElem?_cons_zero, List.getElem?_cons_succ] at r0 r1
        clear hv2 hb2
        go_wp2_with (at_builtin; fail)
        have HR7 : RowB (w2.setCells bx 0 [.int .i64 0, .int .i64 0]) bx 77 _ := HX2.out.putAll _ rfl
        refine bodyPost_ret (res_mid (a := 8) (p := 9) (u := 10) (ty := 77) rfl _ _ bx 77 _ (0, 0) _ rfl HR7 Tryz.underlying77 rfl rfl) rfl ?_
        rw [HR.out]
        exact ⟨_, rfl, HV2.out.keepT (HX2.out.kpt 0 [.int .i64 0, .int .i64 0]) (by decide) (by decide), (HB2.out.mono hb1).trans (below_putL (B := b1) (g := bx) (by have := HZ1.out.2.2.2.2.2; omega) [.int .i64 0, .int .i64 0] 0 w2)⟩
      · have q1 : ((((clAt m1 pc).st.length : Nat) : Int) == 200) = false := by rw [beq_eq_false_iff_ne]; omega
        clear hf2
        clear hf
        go_wp2_with (at_builtin; fail)
        refine HCP.out.mono ?_
        rintro e w2 ⟨v2, rfl, hv2, hb2⟩
        have HX2 := Lib.hid (HX1.out.low hb2 HZ1.out.1)
        have HV2 := Lib.hid (hv2.base (Nat.le_trans hb1 hsw))
        have HB2 := Lib.hid (HBW.out.trans (hb2.mono hsw))
        have r0 := HX2.out.cell 0
        have r1 := HX2.out.cell 1
        have rf0 := HX2.out.frozen 0
        have rf1 := HX2.out.frozen 1
        simp only [List.getElem?_cons_zero, List.getElem?_cons_succ] at r0 r1
        clear hv2 hb2
        go_wp2_with (at_builtin; fail)
        have HR7 : RowB (w2.setCells bx 0 [.int .i64 0, .int .i64 0]) bx 77 _ := HX2.out.putAll _ rfl
        refine bodyPost_ret (res_mid (a := 8) (p := 9) (u := 10) (ty := 77) rfl _ _ bx 77 _ (0, 0) _ rfl HR7 Tryz.underlying77 rfl rfl) rfl ?_
        rw [HR.out]
        exact ⟨_, rfl, HV2.out.keepT (HX2.out.kpt 0 [.int .i64 0, .int .i64 0]) (by decide) (by decide), (HB2.out.mono hb1).trans (below_putL (B := b1) (g := bx) (by have := HZ1.out.2.2.2.2.2; omega) [.int .i64 0, .int .i64 0] 0 w2)⟩
  · have HR : Hid (pushP m m1 pc un = (m1.set pc { clAt m1 pc with st := (clAt m1 pc).st ++ [⟨nx, un⟩], nx := nx + 1 }, (pc, nx), 0)) := Lib.hid (by unfold pushP; rw [← HNX.out]; exact if_neg hfull)
    have q1 : ((((clAt m1 pc).st.length : Nat) : Int) == 200) = false := by rw [beq_eq_false_iff_ne]; omega
    have q2 : (((nx : Nat) : Int) == 1000) = false := by rw [beq_eq_false_iff_ne]; omega
    clear hfull
    have HA2 := Lib.hid (bel_a W1 (.cells #[.int .i64 (nx : Nat), .bool un] 116))
    have HT2 := Lib.hid (tag_lit W1 nx un)
    have HQ2 := Lib.hid (HQ1.out.bel HA2.out)
    have HRW2 := Lib.hid ((HRW.out.bel HBW.out).bel HA2.out)
    have hb12 : b1 ≤ (W1.alloc (.cells #[.int .i64 (nx : Nat), .bool un] 116)).heap.size := by have := HA2.out.size; omega
    have HGO : Hid (some go ≠ (Value.slice At (clAt m1 pc).st.length ct).ownBlock) := Lib.hid (by rw [HTV.out]; exact fun e => HQ.out.row_ne (i := pc) (by omega) (g := go) rfl e.symm rfl)
    have HGL : Hid (go < (W1.alloc (.cells #[.int .i64 (nx : Nat), .bool un] 116)).heap.size) := Lib.hid (by have := HA2.out.size; have := HZ1.out.2.2.1; omega)
    obtain ⟨g9, e9, -, -, -, -, -, -, z3, zf⟩ := HQ2.out.at_ (i := pc) (by omega)
    obtain rfl : go = g9 := by injection e9 with e9; injection e9
    rw [← HTV.out] at z3
    clear e9
    obtain ⟨st, hst⟩ : ∃ st, st = (clAt m1 pc).st := ⟨_, rfl⟩
    have HST := Lib.hid hst
    rw [← hst] at HRW2 q1 hst1 c3 HRW hct HC1 HTV HGO z3 ⊢
    clear hst
    go_upto_region 6 with (at_builtin; go_must (refine wpList_app_tags rfl (.tmp 33) (.tmp 37) rfl b1 _ st rfl HRW2.out (W1.heap.size + 1) _ [⟨nx, un⟩] rfl HT2.out hb12 (by simp; omega) ?_); intro v' w' hP' hG' hL'; (obtain ⟨A', c', rfl, hc'⟩ := OTg.slice hP'); (simp only [List.length_append, List.length_cons, List.length_nil, Nat.zero_add] at hP' hL'); (have HP' := Lib.hid hP'); (have HG' := Lib.hid hG'); (have HL' := Lib.hid hL'); (have hbk := hG'.block go HGL.out HGO.out); (have y3 := (World.cell?_of_block (a := ⟨go, pc * 4 + 3, none⟩) hbk).trans z3); (have yf := (World.frozen?_of_block (a := ⟨go, pc * 4 + 3, none⟩) hbk).trans (zf _)); clear hP' hG' hL' hbk)
    have HS := Lib.hid (HQ2.out.growSt hql.symm (i := pc) (by omega) HP'.out (by rw [← HTV.out]; exact HG'.out) (by rw [← HTV.out]; exact HL'.out.imp id fun h => ⟨_, h, Nat.le_refl _⟩))
    have HB3 := Lib.hid ((HBW.out.mono hb1).trans (((HA2.out.mono (Nat.le_trans hb1 hsw)).trans (grown_bel_own HRW2.out HG'.out hb12)).setCell (p := ⟨go, pc * 4 + 3, none⟩) hgo (.slice A' (st.length + 1) c')))
    have HC3 := Lib.hid ((HC1.out.low HA2.out HZ1.out.2.1))
    have HX3 : Hid (RowB (w'.setCell ⟨go, pc * 4 + 3, none⟩ (.slice A' (st.length + 1) c')) bx 77 [.int .i64 0, .int .i64 0]) := Lib.hid (by
      refine (heap_setCell_other w' ⟨go, pc * 4 + 3, none⟩ bx _ (by have := HZ1.out.2.2.2.1; show bx ≠ go; omega)).trans ((HG'.out.block bx (by have := HA2.out.size; have := HZ1.out.1; omega) fun e => ?_).trans (HX1.out.low HA2.out HZ1.out.1))
      obtain ⟨cur, e1⟩ := own_heap HRW2.out e.symm
      have e2 : (W1.alloc (.cells #[.int .i64 (nx : Nat), .bool un] 116)).heap[bx]? = _ := HX1.out.low HA2.out HZ1.out.1
      rw [e1] at e2
      injection e2 with e2
      injection e2 with _ e3
      exact absurd e3 (by decide))
    generalize st.length + 1 = sl at *
    generalize w'.setCell ⟨go, pc * 4 + 3, none⟩ (.slice A' sl c') = w3 at *
    have hsl : (qs.set pc ({ qs[pc].1 with st := st ++ [⟨nx, un⟩] }, .slice A' sl c')).length = m1.length := by rw [List.length_set]; exact hql
    obtain ⟨g9, e9, -, h9, -, -, -, y2, -, zf2⟩ := HS.out.at_ (i := pc) (by omega)
    obtain rfl : go = g9 := by injection e9 with e9; injection e9
    have f2 := zf2 (pc * 4 + 2)
    have HN := Lib.hid (HS.out.setNx hsl.symm (i := pc) (by omega) (nx + 1))
    have HQCE := Lib.hid (map_at HQS.out (i := pc) (by omega))
    have HXN := Lib.hid (HX3.out.other (show bx ≠ go by have := HZ1.out.2.2.2.1; omega) (pc * 4 + 2) (.int .i64 ((nx + 1 : Nat) : Int)))
    have HB4 := Lib.hid (HB3.out.setCell (p := ⟨go, pc * 4 + 2, none⟩) hgo (.int .i64 ((nx + 1 : Nat) : Int)))
    rw [show (((nx + 1 : Nat)) : Int) = (nx : Int) + 1 by omega] at HN HXN HB4
    have r0 := HXN.out.cell 0
    have r1 := HXN.out.cell 1
    have rf0 := HXN.out.frozen 0
    have rf1 := HXN.out.frozen 1
    simp only [List.getElem?_cons_zero, List.getElem?_cons_succ] at r0 r1
    clear e9 c2 c3 q1 q2 z3 zf y3 yf hc'
    go_wp2_with (at_builtin; fail)
    have HR7 : RowB ((w3.setCell ⟨go, pc * 4 + 2, none⟩ (.int .i64 ((nx : Int) + 1))).setCells bx 0 [.int .i64 (pc : Nat), .int .i64 (nx : Nat)]) bx 77 _ := HXN.out.putAll _ rfl
    refine bodyPost_ret (res_mid (a := 8) (p := 9) (u := 10) (ty := 77) rfl _ _ bx 77 _ (0, 0) _ rfl HR7 Tryz.underlying77 rfl rfl) rfl ?_
    rw [HR.out]
    refine ⟨_, rfl, ⟨_, ?_, HN.out.keepT (HXN.out.kpt 0 [.int .i64 (pc : Nat), .int .i64 (nx : Nat)]) (by decide) (by decide)⟩, HB4.out.trans (below_putL (B := b1) (g := bx) (by have := HZ1.out.2.2.2.2.2; omega) [.int .i64 (pc : Nat), .int .i64 (nx : Nat)] 0 _)⟩
    rw [map_set_fst, map_set_fst, HQS.out, List.getElem_set_self, List.set_set]
    simp only
    rw [HQCE.out, HST.out]
set_option maxHeartbeats 4000000 in
set_option maxRecDepth 100000 in
theorem sShareCell_any (v : Value) (m : List Cl) (pc pt base : Nat) (w : World) (h : MeS w base v m) (hok : okM m) :
    Calls Tryz.prog 109 #[v, .agg #[.int .i64 (pc : Nat), .int .i64 (pt : Nat)]] w (MpRet w w.heap.size (lendP m pc pt false)) := by
  have hl := hok.len
  have OK := Lib.hid hok
  have H := Lib.hid h
  have HX := Lib.hid ((RowB.new w [.int .i64 (pc : Nat), .int .i64 (pt : Nat)] 77).alloc (.cells #[.int .i64 0, .int .i64 0] 77))
  have HY := Lib.hid (RowB.new (w.alloc (.cells #[.int .i64 (pc : Nat), .int .i64 (pt : Nat)] 77)) [.int .i64 0, .int .i64 0] 77)
  have hz1 : (w.alloc (.cells #[.int .i64 (pc : Nat), .int .i64 (pt : Nat)] 77)).heap.size = w.heap.size + 1 := by simp
  rw [hz1] at HY
  have HB0 := Lib.hid ((bel_a w (.cells #[.int .i64 (pc : Nat), .int .i64 (pt : Nat)] 77)).alloc (by simp) (.cells #[.int .i64 0, .int .i64 0] 77))
  obtain ⟨A, c, rfl, hc⟩ := h.slice
  clear h hok hz1
  go_enter Tryz.func109, Tryz.ntmps109
  go_upto_region 1 with (at_builtin; fail)
  generalize (w.alloc (.cells #[.int .i64 (pc : Nat), .int .i64 (pt : Nat)] 77)).alloc (.cells #[.int .i64 0, .int .i64 0] 77) = W at *
  obtain ⟨bx, hbx⟩ : ∃ bx, bx = w.heap.size := ⟨_, rfl⟩
  rw [← hbx] at HX HY ⊢
  have hs0 := HB0.out.size
  have HBX := Lib.hid hbx
  clear hbx
  have x0 := HX.out.cell 0
  have x1 := HX.out.cell 1
  simp only [List.getElem?_cons_zero, List.getElem?_cons_succ] at x0 x1
  have hyl := HY.out.lt
  have hxl := HX.out.lt
  have HCP := Lib.hid (sReadCell_any _ m pc pt base W (H.out.bel HB0.out) OK.out)
  have HOK1 := Lib.hid (OK.out.touch pc pt false)
  have HTL := Lib.hid (touchP_len m pc pt false)
  obtain ⟨m1, code, htp⟩ : ∃ m1 code, touchP m pc pt false = (m1, code) := ⟨_, _, rfl⟩
  have HRD : Hid (readP m pc pt = if code = 0 then (m1, (clAt m pc).val, 0) else (m1, 0, code)) := Lib.hid (by unfold readP; rw [htp])
  obtain ⟨rv, hrv⟩ : ∃ rv, readP m pc pt = (m1, rv, code) := by
    rw [HRD.out]
    by_cases h : code = 0
    · subst h; exact ⟨_, if_pos rfl⟩
    · exact ⟨_, if_neg h⟩
  rw [hrv] at HCP
  clear hrv
  rw [htp] at HOK1 HTL
  have HTP := Lib.hid htp
  go_wp2_with (at_builtin; fail)
  refine HCP.out.mono ?_
  rintro e w1 ⟨v1, rfl, hv1, hb1⟩
  have HO1 := Lib.hid (show MeS w1 w.heap.size v1 m1 from hv1.base hs0)
  have HOW := Lib.hid (show MeS w1 W.heap.size v1 m1 from hv1)
  have HBI := Lib.hid (show Below W.heap.size W w1 from hb1)
  have HB1 := Lib.hid (HB0.out.trans (hb1.mono hs0))
  have HX1 := Lib.hid (HX.out.low hb1 hxl)
  have HY1 := Lib.hid (HY.out.low hb1 hyl)
  have hs1 := HB1.out.size
  have hml : m1.length = m.length := HTL.out
  obtain ⟨A1, c1, rfl, hc1⟩ := HO1.out.slice
  rw [hml] at hc1 HO1 HOW ⊢
  clear hb1 hv1 HCP x0 x1
  have r0 := HY1.out.cell 0
  have r1 := HY1.out.cell 1
  have rf0 := HY1.out.frozen 0
  have rf1 := HY1.out.frozen 1
  simp only [List.getElem?_cons_zero, List.getElem?_cons_succ] at r0 r1
  by_cases hcode : code = 0
  · subst hcode
    have HLT : Hid (pc < m.length) := Lib.hid (touchP_ok (m := m) (pc := pc) (pt := pt) (write := false) (by rw [htp])).2
    have HR : Hid (lendP m pc pt false = pushP m m1 pc false) := Lib.hid (by unfold lendP; rw [htp]; exact if_neg (by simp))
    have x0 := HX1.out.cell 0
    simp only [List.getElem?_cons_zero] at x0
    have HPU := Lib.hid (l6Push_any (.slice A1 m.length c1) (.slice A m.length c) m1 m pc W.heap.size base false w1 (show MeS w1 W.heap.size (.slice A1 m.length c1) m1 from HOW.out) (H.out.bel HB1.out) (by have := HLT.out; omega) HOK1.out OK.out HBI.out.size)
    obtain ⟨pm, pp, pcode, hpu⟩ : ∃ pm pp pcode, pushP m m1 pc false = (pm, pp, pcode) := ⟨_, _, _, rfl⟩
    rw [hpu] at HPU HR
    have HLEN := Lib.hid hpu
    clear hpu htp r0 r1 rf0 rf1
    go_wp2_with (at_builtin; fail)
    refine HPU.out.mono ?_
    rintro e w2 ⟨v2, rfl, hv2, hb2⟩
    have HV2 := Lib.hid (show MeS w2 w.heap.size v2 pm from hv2.base hs0)
    have HB2 := Lib.hid (HB0.out.trans ((HBI.out.trans hb2).mono hs0))
    have HY2 := Lib.hid (HY1.out.low hb2 hyl)
    have r0 := HY2.out.cell 0
    have r1 := HY2.out.cell 1
    have rf0 := HY2.out.frozen 0
    have rf1 := HY2.out.frozen 1
    simp only [List.getElem?_cons_zero, List.getElem?_cons_succ] at r0 r1
    clear hv2 hb2 x0
    go_wp2_with (at_builtin; fail)
    have HR7 : RowB (w2.setCells (bx + 1) 0 [.int .i64 (pp.1 : Nat), .int .i64 (pp.2 : Nat)]) (bx + 1) 77 _ := HY2.out.putAll _ rfl
    refine bodyPost_ret (res_mid (a := 4) (p := 5) (u := 6) (ty := 77) rfl _ _ (bx + 1) 77 _ (0, 0) _ rfl HR7 Tryz.underlying77 rfl rfl) rfl ?_
    rw [HR.out]
    exact ⟨_, rfl, HV2.out.keepT (HY2.out.kpt 0 [.int .i64 (pp.1 : Nat), .int .i64 (pp.2 : Nat)]) (by decide) (by decide), HB2.out.trans (below_putL (B := w.heap.size) (g := bx + 1) (by have := HBX.out; omega) [.int .i64 (pp.1 : Nat), .int .i64 (pp.2 : Nat)] 0 w2)⟩
  · have HR : Hid (lendP m pc pt false = (m1, (0, 0), code)) := Lib.hid (by unfold lendP; rw [htp]; exact if_pos hcode)
    have hq : (code != 0) = true := by simpa using hcode
    clear hcode htp
    go_wp2_with (at_builtin; fail)
    have HR7 : RowB (w1.setCells (bx + 1) 0 [.int .i64 0, .int .i64 0]) (bx + 1) 77 _ := HY1.out.putAll _ rfl
    refine bodyPost_ret (res_mid (a := 4) (p := 5) (u := 6) (ty := 77) rfl _ _ (bx + 1) 77 _ (0, 0) _ rfl HR7 Tryz.underlying77 rfl rfl) rfl ?_
    rw [HR.out]
    exact ⟨_, rfl, HO1.out.keepT (HY1.out.kpt 0 [.int .i64 0, .int .i64 0]) (by decide) (by decide), HB1.out.trans (below_putL (B := w.heap.size) (g := bx + 1) (by have := HBX.out; omega) [.int .i64 0, .int .i64 0] 0 w1)⟩
set_option maxHeartbeats 4000000 in
set_option maxRecDepth 100000 in
theorem sBorrowCell_any (v : Value) (m : List Cl) (pc pt base : Nat) (w : World) (h : MeS w base v m) (hok : okM m) :
    Calls Tryz.prog 110 #[v, .agg #[.int .i64 (pc : Nat), .int .i64 (pt : Nat)]] w (MpRet w w.heap.size (lendP m pc pt true)) := by
  have hl := hok.len
  have OK := Lib.hid hok
  have H := Lib.hid h
  have HX := Lib.hid ((RowB.new w [.int .i64 (pc : Nat), .int .i64 (pt : Nat)] 77).alloc (.cells #[.int .i64 0, .int .i64 0] 77))
  have HY := Lib.hid (RowB.new (w.alloc (.cells #[.int .i64 (pc : Nat), .int .i64 (pt : Nat)] 77)) [.int .i64 0, .int .i64 0] 77)
  have hz1 : (w.alloc (.cells #[.int .i64 (pc : Nat), .int .i64 (pt : Nat)] 77)).heap.size = w.heap.size + 1 := by simp
  rw [hz1] at HY
  have HB0 := Lib.hid ((bel_a w (.cells #[.int .i64 (pc : Nat), .int .i64 (pt : Nat)] 77)).alloc (by simp) (.cells #[.int .i64 0, .int .i64 0] 77))
  obtain ⟨A, c, rfl, hc⟩ := h.slice
  clear h hok hz1
  go_enter Tryz.func110, Tryz.ntmps110
  go_upto_region 1 with (at_builtin; fail)
  generalize (w.alloc (.cells #[.int .i64 (pc : Nat), .int .i64 (pt : Nat)] 77)).alloc (.cells #[.int .i64 0, .int .i64 0] 77) = W at *
  obtain ⟨bx, hbx⟩ : ∃ bx, bx = w.heap.size := ⟨_, rfl⟩
  rw [← hbx] at HX HY ⊢
  have hs0 := HB0.out.size
  have HBX := Lib.hid hbx
  clear hbx
  have x0 := HX.out.cell 0
  have x1 := HX.out.cell 1
  simp only [List.getElem?_cons_zero, List.getElem?_cons_succ] at x0 x1
  have hyl := HY.out.lt
  have hxl := HX.out.lt
  have HCP := Lib.hid (l6Write_any _ m pc pt base W (H.out.bel HB0.out) OK.out)
  have HOK1 := Lib.hid (OK.out.touch pc pt true)
  have HTL := Lib.hid (touchP_len m pc pt true)
  obtain ⟨m1, code, htp⟩ : ∃ m1 code, touchP m pc pt true = (m1, code) := ⟨_, _, rfl⟩
  rw [htp] at HCP
  rw [htp] at HOK1 HTL
  have HTP := Lib.hid htp
  go_wp2_with (at_builtin; fail)
  refine HCP.out.mono ?_
  rintro e w1 ⟨v1, rfl, hv1, hb1⟩
  have HO1 := Lib.hid (show MeS w1 w.heap.size v1 m1 from hv1.base hs0)
  have HOW := Lib.hid (show MeS w1 W.heap.size v1 m1 from hv1)
  have HBI := Lib.hid (show Below W.heap.size W w1 from hb1)
  have HB1 := Lib.hid (HB0.out.trans (hb1.mono hs0))
  have HX1 := Lib.hid (HX.out.low hb1 hxl)
  have HY1 := Lib.hid (HY.out.low hb1 hyl)
  have hs1 := HB1.out.size
  have hml : m1.length = m.length := HTL.out
  obtain ⟨A1, c1, rfl, hc1⟩ := HO1.out.slice
  rw [hml] at hc1 HO1 HOW ⊢
  clear hb1 hv1 HCP x0 x1
  have r0 := HY1.out.cell 0
  have r1 := HY1.out.cell 1
  have rf0 := HY1.out.frozen 0
  have rf1 := HY1.out.frozen 1
  simp only [List.getElem?_cons_zero, List.getElem?_cons_succ] at r0 r1
  by_cases hcode : code = 0
  · subst hcode
    have HLT : Hid (pc < m.length) := Lib.hid (touchP_ok (m := m) (pc := pc) (pt := pt) (write := true) (by rw [htp])).2
    have HR : Hid (lendP m pc pt true = pushP m m1 pc true) := Lib.hid (by unfold lendP; rw [htp]; exact if_neg (by simp))
    have x0 := HX1.out.cell 0
    simp only [List.getElem?_cons_zero] at x0
    have HPU := Lib.hid (l6Push_any (.slice A1 m.length c1) (.slice A m.length c) m1 m pc W.heap.size base true w1 (show MeS w1 W.heap.size (.slice A1 m.length c1) m1 from HOW.out) (H.out.bel HB1.out) (by have := HLT.out; omega) HOK1.out OK.out HBI.out.size)
    obtain ⟨pm, pp, pcode, hpu⟩ : ∃ pm pp pcode, pushP m m1 pc true = (pm, pp, pcode) := ⟨_, _, _, rfl⟩
    rw [hpu] at HPU HR
    have HLEN := Lib.hid hpu
    clear hpu htp r0 r1 rf0 rf1
    go_wp2_with (at_builtin; fail)
    refine HPU.out.mono ?_
    rintro e w2 ⟨v2, rfl, hv2, hb2⟩
    have HV2 := Lib.hid (show MeS w2 w.heap.size v2 pm from hv2.base hs0)
    have HB2 := Lib.hid (HB0.out.trans ((HBI.out.trans hb2).mono hs0))
    have HY2 := Lib.hid (HY1.out.low hb2 hyl)
    have r0 := HY2.out.cell 0
    have r1 := HY2.out.cell 1
    have rf0 := HY2.out.frozen 0
    have rf1 := HY2.out.frozen 1
    simp only [List.getElem?_cons_zero, List.getElem?_cons_succ] at r0 r1
    clear hv2 hb2 x0
    go_wp2_with (at_builtin; fail)
    have HR7 : RowB (w2.setCells (bx + 1) 0 [.int .i64 (pp.1 : Nat), .int .i64 (pp.2 : Nat)]) (bx + 1) 77 _ := HY2.out.putAll _ rfl
    refine bodyPost_ret (res_mid (a := 4) (p := 5) (u := 6) (ty := 77) rfl _ _ (bx + 1) 77 _ (0, 0) _ rfl HR7 Tryz.underlying77 rfl rfl) rfl ?_
    rw [HR.out]
    exact ⟨_, rfl, HV2.out.keepT (HY2.out.kpt 0 [.int .i64 (pp.1 : Nat), .int .i64 (pp.2 : Nat)]) (by decide) (by decide), HB2.out.trans (below_putL (B := w.heap.size) (g := bx + 1) (by have := HBX.out; omega) [.int .i64 (pp.1 : Nat), .int .i64 (pp.2 : Nat)] 0 w2)⟩
  · have HR : Hid (lendP m pc pt true = (m1, (0, 0), code)) := Lib.hid (by unfold lendP; rw [htp]; exact if_pos hcode)
    have hq : (code != 0) = true := by simpa using hcode
    clear hcode htp
    go_wp2_with (at_builtin; fail)
    have HR7 : RowB (w1.setCells (bx + 1) 0 [.int .i64 0, .int .i64 0]) (bx + 1) 77 _ := HY1.out.putAll _ rfl
    refine bodyPost_ret (res_mid (a := 4) (p := 5) (u := 6) (ty := 77) rfl _ _ (bx + 1) 77 _ (0, 0) _ rfl HR7 Tryz.underlying77 rfl rfl) rfl ?_
    rw [HR.out]
    exact ⟨_, rfl, HO1.out.keepT (HY1.out.kpt 0 [.int .i64 0, .int .i64 0]) (by decide) (by decide), HB1.out.trans (below_putL (B := w.heap.size) (g := bx + 1) (by have := HBX.out; omega) [.int .i64 0, .int .i64 0] 0 w1)⟩

end Go.Proofs.YtfioaohadanjmaaGreat

/- The machine: points, runs. Plain; no program in sight. -/
namespace Go.Proofs.YtfioaohadanjmaaGreat

def newOk (m : List Cl) (val : Int) : Bool := decide (0 ≤ val ∧ val ≤ 9 ∧ m.length ≠ 200)
/-- a used variable has no value -/
def unsetP (ts : List Int) (s : Ms) (x : Pt) : Bool := (List.range ts.length).any fun v => useP ts x.op x.x x.y (v : Nat) != 0 && !(slAt s.sl v).set
def endO (code : Int) : Option Int := if code = 0 then none else some (endP code)
/-- a point is executed: the state, the end -/
def doP (ts : List Int) (s : Ms) (x : Pt) : Ms × Option Int :=
  if unsetP ts s x = true then (s, some 2) else
  if x.op = 1 then putP ts s x.x.toNat ⟨true, x.n, 0, 0⟩ else
  if x.op = 2 then (if newOk s.ce x.n = true then putP ts ⟨s.sl, s.ce ++ [newC x.n], s.rd⟩ x.x.toNat ⟨true, 0, s.ce.length, 0⟩ else (s, some 1)) else
  if x.op = 3 then putP ts ⟨if takesP ts x.y = true then s.sl.set x.y.toNat slD else s.sl, s.ce, s.rd⟩ x.x.toNat (slAt s.sl x.y.toNat) else
  if x.op = 4 ∨ x.op = 5 then
    (if (lendP s.ce (slAt s.sl x.y.toNat).pc (slAt s.sl x.y.toNat).pt (x.op == 5)).2.2 ≠ 0 then (s, some (endP (lendP s.ce (slAt s.sl x.y.toNat).pc (slAt s.sl x.y.toNat).pt (x.op == 5)).2.2)) else
     putP ts ⟨s.sl, (lendP s.ce (slAt s.sl x.y.toNat).pc (slAt s.sl x.y.toNat).pt (x.op == 5)).1, s.rd⟩ x.x.toNat ⟨true, 0, (lendP s.ce (slAt s.sl x.y.toNat).pc (slAt s.sl x.y.toNat).pt (x.op == 5)).2.1.1, (lendP s.ce (slAt s.sl x.y.toNat).pc (slAt s.sl x.y.toNat).pt (x.op == 5)).2.1.2⟩) else
  if x.op = 6 then
    (if (readP s.ce (slAt s.sl x.y.toNat).pc (slAt s.sl x.y.toNat).pt).2.2 ≠ 0 then (s, some (endP (readP s.ce (slAt s.sl x.y.toNat).pc (slAt s.sl x.y.toNat).pt).2.2)) else
     putP ts ⟨s.sl, (readP s.ce (slAt s.sl x.y.toNat).pc (slAt s.sl x.y.toNat).pt).1, s.rd ++ [(readP s.ce (slAt s.sl x.y.toNat).pc (slAt s.sl x.y.toNat).pt).2.1]⟩ x.x.toNat ⟨true, (readP s.ce (slAt s.sl x.y.toNat).pc (slAt s.sl x.y.toNat).pt).2.1, 0, 0⟩) else
  if x.op = 7 then (⟨s.sl, (writeP s.ce (slAt s.sl x.x.toNat).pc (slAt s.sl x.x.toNat).pt (slAt s.sl x.y.toNat).num).1, s.rd⟩, endO (writeP s.ce (slAt s.sl x.x.toNat).pc (slAt s.sl x.x.toNat).pt (slAt s.sl x.y.toNat).num).2) else
  if x.op = 8 then (⟨s.sl.set x.x.toNat slD, (freeP s.ce (slAt s.sl x.x.toNat).pc (slAt s.sl x.x.toNat).pt).1, s.rd⟩, endO (freeP s.ce (slAt s.sl x.x.toNat).pc (slAt s.sl x.x.toNat).pt).2) else
  if x.op = 11 then ((finP ts ts.length 0 s).1, some (finP ts ts.length 0 s).2) else (s, none)
/-- a run along a path: the state, and the end with its point -/
def runM (ts : List Int) (pts : List Pt) : List Nat → Ms → Ms × Option (Int × Nat)
  | [], s => (s, none)
  | a :: r, s => match doP ts s (ptD pts a) with
    | (s', some e) => (s', some (e, a))
    | (s', none) => runM ts pts r s'
/-- how a run ends, and where -/
def endM (path : List Nat) : Option (Int × Nat) → Int × Nat
  | some e => e
  | none => (1, path.getLastD 0)
def ms0 (ts : List Int) : Ms := ⟨List.replicate ts.length slD, [], []⟩
/-- the state is that of these types -/
structure MsOk (ts : List Int) (s : Ms) : Prop where
  ce : okM s.ce
  ln : s.sl.length = ts.length
theorem ms0_ok (ts : List Int) : MsOk ts (ms0 ts) := ⟨okM.nil, by simp [ms0]⟩
theorem MsOk.put {ts : List Int} {s : Ms} (h : MsOk ts s) (v : Nat) (x : Sl) : MsOk ts (putP ts s v x).1 := by
  unfold putP
  split
  · exact ⟨h.ce.free _ _, by simpa using h.ln⟩
  · exact ⟨h.ce, by simpa using h.ln⟩
theorem putP_rd (ts : List Int) (s : Ms) (v : Nat) (x : Sl) : (putP ts s v x).1.rd = s.rd := by unfold putP; split <;> rfl
theorem MsOk.fin {ts : List Int} : ∀ (n v : Nat) {s : Ms}, MsOk ts s → MsOk ts (finP ts n v s).1 ∧ (finP ts n v s).1.rd = s.rd
  | 0, _, s, h => ⟨h, rfl⟩
  | n + 1, v, s, h => by
    unfold finP
    split
    · split
      · have := MsOk.fin n (v + 1) (s := ⟨s.sl.set v slD, (freeP s.ce (slAt s.sl v).pc (slAt s.sl v).pt).1, s.rd⟩) ⟨h.ce.free _ _, by simpa using h.ln⟩
        exact ⟨this.1, this.2⟩
      · exact ⟨⟨h.ce.free _ _, h.ln⟩, rfl⟩
    · exact MsOk.fin n (v + 1) h
theorem newOk_len {m : List Cl} {val : Int} (h : newOk m val = true) (hok : okM m) : m.length < 200 ∧ 0 ≤ val ∧ val ≤ 9 := by
  have := of_decide_eq_true h
  have := hok.1
  omega
theorem MsOk.do_ {ts : List Int} {s : Ms} (h : MsOk ts s) (x : Pt) : MsOk ts (doP ts s x).1 ∧ (doP ts s x).1.rd.length ≤ s.rd.length + 1 := by
  unfold doP
  split
  · exact ⟨h, by simp⟩
  split
  · exact ⟨h.put _ _, by rw [putP_rd]; omega⟩
  split
  · split
    · rename_i hn
      obtain ⟨h1, h2, h3⟩ := newOk_len hn h.ce
      refine ⟨MsOk.put ?_ _ _, by rw [putP_rd]; simp⟩
      exact ⟨h.ce.snoc h1 h2 h3, h.ln⟩
    · exact ⟨h, by simp⟩
  split
  · refine ⟨MsOk.put ?_ _ _, by rw [putP_rd]; simp⟩
    refine ⟨h.ce, ?_⟩
    show (if takesP ts x.y = true then s.sl.set x.y.toNat slD else s.sl).length = _
    split
    · simpa using h.ln
    · exact h.ln
  split
  · split
    · exact ⟨h, by simp⟩
    · refine ⟨MsOk.put ?_ _ _, by rw [putP_rd]; simp⟩
      exact ⟨h.ce.lend _ _ _, h.ln⟩
  split
  · split
    · exact ⟨h, by simp⟩
    · refine ⟨MsOk.put ?_ _ _, by rw [putP_rd]; simp⟩
      exact ⟨h.ce.read _ _, h.ln⟩
  split
  · exact ⟨⟨h.ce.write _ _ _, h.ln⟩, by simp⟩
  split
  · exact ⟨⟨h.ce.free _ _, by simpa using h.ln⟩, by simp⟩
  split
  · have := MsOk.fin ts.length 0 h
    exact ⟨this.1, by rw [this.2]; omega⟩
  · exact ⟨h, by simp⟩
/-- the end point always ends a run -/
theorem doP_end {ts : List Int} {s : Ms} {x : Pt} (h : x.op = 11) : doP ts s x = ((finP ts ts.length 0 s).1, some (finP ts ts.length 0 s).2) := by
  have hu : unsetP ts s x = false := by
    unfold unsetP
    rw [List.any_eq_false]
    intro v _
    simp [useP, h]
  unfold doP
  rw [hu]
  simp [h]
theorem lendP_no {m : List Cl} {pc pt : Nat} {un : Bool} (h : (lendP m pc pt un).2.2 ≠ 0) : (lendP m pc pt un).1 = m := by
  unfold lendP at *
  split
  · rename_i h1
    unfold touchP at *
    split
    · rfl
    · rename_i h2
      split
      · split
        · rename_i h3 h4
          rw [if_neg h2, if_pos h3, if_pos h4] at h1
          simp at h1
        · rfl
      · rename_i h3
        rw [if_neg h2, if_neg h3] at h1
        simp at h1
  · rename_i h1
    rw [if_neg h1] at h
    unfold pushP at *
    split
    · rfl
    · rename_i h2
      rw [if_neg h2] at h
      simp at h
theorem readP_fail {m : List Cl} {pc pt : Nat} (h : (readP m pc pt).2.2 ≠ 0) : (readP m pc pt).1 = m := by
  unfold readP at *
  split
  · rename_i h1
    rw [if_pos h1] at h
    simp at h
  · rename_i h1
    unfold touchP at *
    split
    · rfl
    · rename_i h2
      rw [if_neg h2, if_neg (by decide)] at h1
      simp at h1
theorem runM_ok {ts : List Int} {pts : List Pt} : ∀ (l : List Nat) {s : Ms}, MsOk ts s → MsOk ts (runM ts pts l s).1 ∧ (runM ts pts l s).1.rd.length ≤ s.rd.length + l.length
  | [], s, h => ⟨h, by simp [runM]⟩
  | a :: r, s, h => by
    obtain ⟨h1, h2⟩ := h.do_ (ptD pts a)
    unfold runM
    split
    · rename_i s' e he
      rw [he] at h1 h2
      exact ⟨h1, by simp at h2 ⊢; omega⟩
    · rename_i s' he
      rw [he] at h1 h2
      have h2 : s'.rd.length ≤ s.rd.length + 1 := h2
      obtain ⟨k1, k2⟩ := runM_ok r (show MsOk ts s' from h1)
      exact ⟨k1, by rw [List.length_cons]; omega⟩
/-- a path that ends with the end point ends the run -/
theorem runM_done {ts : List Int} {pts : List Pt} : ∀ (l : List Nat) (s : Ms), l ≠ [] → (ptD pts (l.getLastD 0)).op = 11 → (runM ts pts l s).2 ≠ none
  | [], s, h, _ => absurd rfl h
  | [a], s, _, hl => by
    have h1 : (ptD pts a).op = 11 := hl
    unfold runM
    rw [doP_end h1]
    simp
  | a :: b :: r, s, _, hl => by
    have hl' : (ptD pts ((b :: r).getLastD 0)).op = 11 := by simpa using hl
    unfold runM
    split
    · simp
    · exact runM_done (b :: r) _ (by simp) hl'
theorem runF_last {pts : List Pt} : ∀ (m a : Nat) (cs : List Int), (runF pts m a cs).2 = true → (runF pts m a cs).1 ≠ [] ∧ (ptD pts ((runF pts m a cs).1.getLastD 0)).op = 11
  | 0, a, cs, h => by
    unfold runF at *
    split
    · rename_i h1; exact ⟨by simp, h1⟩
    · rename_i h1; rw [if_neg h1] at h; cases h
  | m + 1, a, cs, h => by
    unfold runF at *
    split
    · rename_i h1; exact ⟨by simp, h1⟩
    · rename_i h1
      rw [if_neg h1] at h
      obtain ⟨k1, k2⟩ := runF_last m (stepP (ptD pts a) cs) (restP (ptD pts a) cs) h
      refine ⟨by simp, ?_⟩
      simp only
      generalize (runF pts m (stepP (ptD pts a) cs) (restP (ptD pts a) cs)).1 = L at *
      cases L with
      | nil => exact absurd rfl k1
      | cons x r => simpa using k2

end Go.Proofs.YtfioaohadanjmaaGreat

/- spec.NewCell, spec.AliveCells. -/
namespace Go.Proofs.YtfioaohadanjmaaGreat
open Go.RowKit

/-- a memory with a further cell, a pointer to it -/
def MnRet (w : World) (m : List Cl) (val : Int) (e : Ending) (w' : World) : Prop :=
  ∃ v, e = .returned (.tuple #[v, .agg #[.int .i64 ((if newOk m val = true then m.length else 0 : Nat) : Nat), .int .i64 0], .bool (newOk m val)]) ∧ (newOk m val = true → MeS w' w.heap.size v (m ++ [newC val])) ∧ Below w.heap.size w w'
theorem newTag (w : World) (base : Nat) (hb : base ≤ w.heap.size) : OTg (w.alloc (.cells #[.int .i64 0, .bool true] 116)) base (.slice (some ⟨w.heap.size, 0, none⟩) 1 1) [⟨0, true⟩] :=
  World.ownsRow_lit (base := base) (e := 116) (size := 2) w #[.int .i64 0, .bool true] 1 hb (by simp [maxLen]) rfl
set_option maxHeartbeats 4000000 in
set_option maxRecDepth 100000 in
theorem sNewCell_any (v : Value) (m : List Cl) (val : Int) (base : Nat) (w : World) (h : MeS w base v m) (hok : okM m) :
    Calls Tryz.prog 85 #[v, .int .i64 val] w (MnRet w m val) := by
  have hl := hok.len
  have OK := Lib.hid hok
  have H := Lib.hid h
  have HY := Lib.hid (RowB.new w [.int .i64 0, .int .i64 0] 77)
  have HB0 := Lib.hid (bel_a w (.cells #[.int .i64 0, .int .i64 0] 77))
  obtain ⟨A, c, rfl, hc⟩ := h.slice
  clear h hok
  go_enter Tryz.func85, Tryz.ntmps85
  go_upto_region 1 with (at_builtin; fail)
  generalize w.alloc (.cells #[.int .i64 0, .int .i64 0] 77) = W at *
  obtain ⟨bx, hbx⟩ : ∃ bx, bx = w.heap.size := ⟨_, rfl⟩
  rw [← hbx] at HY ⊢
  have hs0 := HB0.out.size
  have HBX := Lib.hid hbx
  clear hbx
  have hyl := HY.out.lt
  obtain ⟨ps, hps, hO⟩ := H.out.bel HB0.out
  have HCV := Lib.hid (sCellsValid_any _ ps base W hO (by rw [hps]; exact OK.out))
  clear hO hps
  go_wp2_with (at_builtin; fail)
  refine HCV.out.mono ?_
  rintro e w1 ⟨rfl, hb1⟩
  have HB1 := Lib.hid (HB0.out.trans (hb1.mono hs0))
  have HY1 := Lib.hid (HY.out.low hb1 hyl)
  have hs1 := HB1.out.size
  have r0 := HY1.out.cell 0
  have r1 := HY1.out.cell 1
  have rf0 := HY1.out.frozen 0
  have rf1 := HY1.out.frozen 1
  simp only [List.getElem?_cons_zero, List.getElem?_cons_succ] at r0 r1
  clear hb1 HCV
  have HR7 := Lib.hid (show RowB ((w1.setCells bx 0 [.int .i64 0, .int .i64 0]).alloc (.cells #[] 84)) bx 77 _ from (HY1.out.putAll (w := w1) [.int .i64 0, .int .i64 0] rfl).alloc _)
  have NO : Hid (newOk m val = false → ∀ v', MnRet w m val (.returned (.tuple #[v', .agg #[.int .i64 0, .int .i64 0], .bool false])) ((w1.setCells bx 0 [.int .i64 0, .int .i64 0]).alloc (.cells #[] 84))) := Lib.hid fun hno v' =>
    ⟨v', (by rw [hno]; rfl), (fun h => by rw [hno] at h; cases h), (HB1.out.trans (below_putL (B := w.heap.size) (g := bx) (by have := HBX.out; omega) [.int .i64 0, .int .i64 0] 0 w1)).alloc (by rw [size_putL]; exact hs1) _⟩
  have hyl1 := HY1.out.lt
  by_cases h0 : val < 0
  · have q1 : decide (val < 0) = true := decide_eq_true h0
    have HNO : Hid (newOk m val = false) := Lib.hid (by unfold newOk; exact decide_eq_false (by omega))
    clear h0
    go_wp2_with (at_builtin; fail)
    exact bodyPost_ret (res_mid (a := 4) (p := 5) (u := 6) (ty := 77) rfl _ _ bx 77 _ (0, 0) _ rfl HR7.out Tryz.underlying77 rfl rfl) rfl (NO.out HNO.out _)
  · have q1 : decide (val < 0) = false := decide_eq_false h0
    by_cases h9 : val > 9
    · have q2 : decide (val > 9) = true := decide_eq_true h9
      have HNO : Hid (newOk m val = false) := Lib.hid (by unfold newOk; exact decide_eq_false (by omega))
      clear h0 h9
      go_wp2_with (at_builtin; fail)
      exact bodyPost_ret (res_mid (a := 4) (p := 5) (u := 6) (ty := 77) rfl _ _ bx 77 _ (0, 0) _ rfl HR7.out Tryz.underlying77 rfl rfl) rfl (NO.out HNO.out _)
    · have q2 : decide (val > 9) = false := decide_eq_false h9
      by_cases hf : m.length = 200
      · have q3 : (((m.length : Nat) : Int) == 200) = true := by rw [hf]; rfl
        have HNO : Hid (newOk m val = false) := Lib.hid (by unfold newOk; exact decide_eq_false (by omega))
        clear h0 h9 hf
        go_wp2_with (at_builtin; fail)
        exact bodyPost_ret (res_mid (a := 4) (p := 5) (u := 6) (ty := 77) rfl _ _ bx 77 _ (0, 0) _ rfl HR7.out Tryz.underlying77 rfl rfl) rfl (NO.out HNO.out _)
      · have q3 : (((m.length : Nat) : Int) == 200) = false := by rw [beq_eq_false_iff_ne]; omega
        have HYES : Hid (newOk m val = true) := Lib.hid (by unfold newOk; exact decide_eq_true (by omega))
        have HCP := Lib.hid (l6Copy_any _ m base w1 (H.out.bel HB1.out) OK.out)
        clear h0 h9 hf HR7 NO
        go_wp2_with (at_builtin; fail)
        refine HCP.out.mono ?_
        rintro e w2 ⟨v2, rfl, hv2, hb2⟩
        have HB2 := Lib.hid (HB1.out.trans (hb2.mono hs1))
        have HY2 := Lib.hid (HY1.out.low hb2 hyl1)
        obtain ⟨qs, hqs, hQ⟩ := hv2.base hs1
        have hql := MeS.len (w := w) (base := base) (v := v2) hqs
        have HQS := Lib.hid hqs
        have HBT := Lib.hid (bel_a w2 (.cells #[.int .i64 0, .bool true] 116))
        have HQ := Lib.hid (hQ.bel HBT.out)
        have HNT := Lib.hid (newTag w2 w.heap.size HB2.out.size)
        have HNE : Hid (∀ i (h : i < qs.length), ∀ b, qs[i].2.ownBlock = some b → (Value.slice (some ⟨w2.heap.size, 0, none⟩) 1 1).ownBlock ≠ some b) := Lib.hid fun i hi b hb e => by
          have h1 := ((hQ.row i hi).own_lt hb).2
          injection e with e
          have e' : w2.heap.size = b := e
          omega
        obtain ⟨A2, c2, rfl, hc2⟩ := hQ.slice
        rw [hql] at HQ hc2 ⊢
        have hs2 := HB2.out.size
        have hbt : w.heap.size ≤ (w2.alloc (.cells #[.int .i64 0, .bool true] 116)).heap.size := by have := HBT.out.size; omega
        have HYT := Lib.hid (HY2.out.low HBT.out HY2.out.lt)
        have HBU := Lib.hid (HB2.out.trans (HBT.out.mono hs2))
        have HBXL : Hid (bx = w.heap.size) := Lib.hid HBX.out
        clear hv2 hb2 hqs hQ r0 r1 rf0 rf1 HCP
        go_upto_region 4 with (at_builtin; go_must (refine wpList_push_ceCells rfl (.tmp 27) (.tmp 32) rfl HQ.out hbt (by omega) (newC val) _ HNT.out HNE.out rfl (by simp [Act.eval]) ?_); intro v' w' hP' hE' hK'; (obtain ⟨A', c', rfl, hc'⟩ := OCe.slice hP'); (simp only [List.length_append, List.length_cons, List.length_nil, Nat.zero_add, hql] at hP'); (have HP' := Lib.hid hP'); (have HBE := Lib.hid hE'); (have HYV := Lib.hid (show RowB w' bx 77 [.int .i64 0, .int .i64 0] from hK'.2 _ _ _ HYT.out (by decide))); (have r0 := HYV.out.cell 0); (have r1 := HYV.out.cell 1); (have rf0 := HYV.out.frozen 0); (have rf1 := HYV.out.frozen 1); (simp only [List.getElem?_cons_zero, List.getElem?_cons_succ] at r0 r1); clear hP' hE' hK')
        go_wp2_with (at_builtin; fail)
        have HR7 : RowB (w'.setCells bx 0 [.int .i64 (m.length : Nat), .int .i64 0]) bx 77 _ := HYV.out.putAll _ rfl
        refine bodyPost_ret (res_mid (a := 4) (p := 5) (u := 6) (ty := 77) rfl _ _ bx 77 _ (0, 0) _ rfl HR7 Tryz.underlying77 rfl rfl) rfl ?_
        have HM : Hid ((qs ++ [(newC val, Value.slice (some ⟨w2.heap.size, 0, none⟩) 1 1)]).map (·.1) = m ++ [newC val]) := Lib.hid (by rw [List.map_append, HQS.out, List.map_cons, List.map_nil])
        have HF : Hid (OCe (w'.setCells bx 0 [.int .i64 (m.length : Nat), .int .i64 0]) w.heap.size (.slice A' (m.length + 1) c') (qs ++ [(newC val, Value.slice (some ⟨w2.heap.size, 0, none⟩) 1 1)])) := Lib.hid (HP'.out.keepT (HYV.out.kpt 0 [.int .i64 (m.length : Nat), .int .i64 0]) (by decide) (by decide))
        have HB9 := Lib.hid ((HBU.out.trans HBE.out).trans (below_putL (B := w.heap.size) (g := bx) (by have := HBX.out; omega) [.int .i64 (m.length : Nat), .int .i64 0] 0 w'))
        unfold MnRet
        simp only [HYES.out, if_true]
        exact ⟨_, rfl, fun _ => ⟨_, HM.out, HF.out⟩, HB9.out⟩

end Go.Proofs.YtfioaohadanjmaaGreat
