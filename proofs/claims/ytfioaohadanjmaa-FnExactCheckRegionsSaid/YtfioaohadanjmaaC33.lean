import Derived.Test.YtfioaohadanjmaaC21
import Derived.Test.YtfioaohadanjmaaC32
import Derived.Test.YtfioaohadanjmaaC18
set_option linter.unusedVariables false

/- Conflicts: spec.l4Conflicts. -/
namespace Go.Proofs.Ytfioaohadanjmaa
open Go.RowKit

/-- what l4Conflicts makes of one loan -/
def nearB (pts : List Pt) (LK QK : List Bool) (i : Nat) (a : Acc) : Bool := LK.getD i false && QK.getD i false && ((ptD pts i).y == a.vr)
def cfS (pts : List Pt) (LK QK : List Bool) (ac : List Acc) (i : Nat) : Bool := ac.any fun a => nearB pts LK QK i a && cndB pts a i
theorem cfS_snoc (pts : List Pt) (LK QK : List Bool) (ac : List Acc) (a : Acc) (i : Nat) : cfS pts LK QK (ac ++ [a]) i = (cfS pts LK QK ac i || (nearB pts LK QK i a && cndB pts a i)) := by simp [cfS]
theorem BoolS.cell {w : World} {B n c : Nat} {A : Option Addr} {l : List Bool} (h : BoolS w B (.slice A n c) l) {k : Nat} (hk : k < l.length) : ∃ b off, A = some ⟨b, off, none⟩ ∧ b < B ∧ w.cell? ⟨b, off + k, none⟩ = some (.bool (l.getD k false)) := by
  obtain ⟨A', c', e, -, -, h3⟩ := h
  injection e with e1 _ _
  subst e1
  obtain ⟨b, off, e, hb, hc⟩ := h3.2 (by omega)
  refine ⟨b, off, e, hb, hc k _ ?_⟩
  rw [List.getElem?_map, List.getElem?_eq_getElem hk, getD_lt hk]; rfl
def CfBRet (w : World) (np : Nat) (f : Nat → Bool) (e : Ending) (w' : World) : Prop :=
  ∃ (g : Nat) (L : List Bool), e = .returned (.slice (some ⟨g, 0, none⟩) np np) ∧ RowB w' g 4 (bv L) ∧ L.length = np ∧ (∀ i, i < np → L.getD i false = f i) ∧ Below w.heap.size w w'
theorem bset {L : List Bool} {i : Nat} {b : Bool} (hi : i < L.length) (j : Nat) : (L.set i b).getD j false = if j = i then b else L.getD j false := by
  rw [getD_setL hi]
set_option maxHeartbeats 8000000 in
set_option maxRecDepth 100000 in
theorem l4Conflicts_any (vf : Value) (Ap Aa Aq Al : Option Addr) (cp ca cq cl B : Nat) (pts : List Pt) (ac : List Acc) (LK QK : List Bool) (w : World)
    (hp : PtS w B (.slice Ap pts.length cp) pts) (hx : AxS w B (.slice Aa ac.length ca) ac) (hq : BoolS w B (.slice Aq pts.length cq) QK) (hl : BoolS w B (.slice Al pts.length cl) LK) (hB : B ≤ w.heap.size) (hql : QK.length = pts.length) (hll : LK.length = pts.length) (hnp : pts.length ≤ 64) :
    Calls Try.prog 61 #[.slice Ap pts.length cp, .slice Aa ac.length ca, .agg #[vf, .slice Aq pts.length cq], .slice Al pts.length cl] w (CfBRet w pts.length (cfS pts LK QK ac)) := by
  have HP := Lib.hid hp
  have HX := Lib.hid hx
  have HQ := Lib.hid hq
  have HL := Lib.hid hl
  have HQL := Lib.hid hql
  have HLL := Lib.hid hll
  have hacl : ac.length ≤ 100000 := by obtain ⟨_, _, _, _, h, _⟩ := hx; exact h
  have hcpl : pts.length ≤ cp := by obtain ⟨_, _, e, h⟩ := hp.slice; injection e with _ _ e; omega
  have hcal : ac.length ≤ ca := by obtain ⟨_, _, e, h⟩ := hx.slice; injection e with _ _ e; omega
  have hcql : pts.length ≤ cq := by obtain ⟨_, _, e, h, _⟩ := hq; injection e with _ _ e; omega
  have hcll : pts.length ≤ cl := by obtain ⟨_, _, e, h, _⟩ := hl; injection e with _ _ e; omega
  clear hp hx hq hl hql hll
  have HMK := Lib.hid (make_bools pts.length (by omega))
  have HRX := Lib.hid (RowB.new w [vf, .slice Aq pts.length cq] 99)
  have HBX := Lib.hid (bel_a w (.cells #[vf, .slice Aq pts.length cq] 99))
  have HWS : Hid ((w.alloc (.cells #[vf, .slice Aq pts.length cq] 99)).heap.size = w.heap.size + 1) := Lib.hid (by simp)
  go_enter Try.func61, Try.ntmps61
  go_upto_region 1 with (at_builtin; fail)
  generalize w.alloc (.cells #[vf, .slice Aq pts.length cq] 99) = W1 at *
  have hmk := HMK.out W1
  have HRZ : Hid ((List.replicate pts.length false).length = pts.length ∧ ∀ e, (List.replicate pts.length false).getD e false = false) := Lib.hid ⟨by simp, fun e => rep_get'⟩
  generalize List.replicate pts.length false = rz at *
  have HRV := Lib.hid (RowB.new W1 (bv rz) 4)
  have HBZ := Lib.hid (bel_a W1 (.cells (bv rz).toArray 4))
  obtain ⟨bx, hbx⟩ : ∃ bx, bx = w.heap.size := ⟨_, rfl⟩
  obtain ⟨rs, hrs⟩ : ∃ rs, rs = W1.heap.size := ⟨_, rfl⟩
  have HRS : Hid (rs = bx + 1 ∧ bx = w.heap.size) := Lib.hid ⟨by rw [hrs, HWS.out, hbx], hbx⟩
  go_wp2_with (at_builtin; fail)
  rw [← hrs] at HRV ⊢
  generalize W1.alloc (.cells (bv rz).toArray 4) = W3 at *
  have HRX3 := Lib.hid (HRX.out.low HBZ.out HRX.out.lt)
  have HB3 := Lib.hid (HBX.out.trans (HBZ.out.mono HBX.out.size))
  rw [← hbx] at HRX3 ⊢
  clear hmk hrs hbx
  go_loopw [10] (fun c wr => ∃ (i : Nat) (L : List Bool), c = .int .i64 i ∧ i ≤ pts.length ∧ RowB wr bx 99 [vf, .slice Aq pts.length cq] ∧ RowB wr rs 4 (bv L) ∧ L.length = pts.length ∧ (∀ j, L.getD j false = (decide (j < i) && cfS pts LK QK ac j)) ∧ Below w.heap.size w wr) (fun c _ => pts.length - (intOf c).toNat)
  case atStart => exact ⟨0, rz, rfl, Nat.zero_le _, HRX3.out, HRV.out, HRZ.out.1, fun e => by rw [HRZ.out.2]; simp, HB3.out⟩
  case round =>
    obtain ⟨i, L, rfl, hi, hrx, hrv, hLl, hLv, hbw⟩ := hrel
    have HRXW := Lib.hid hrx
    have HRVW := Lib.hid hrv
    have HLLW := Lib.hid hLl
    have HLVW := Lib.hid hLv
    have HBW := Lib.hid hbw
    clear hrx hrv hLl hLv hbw
    by_cases hlt : i < pts.length
    · have HLT := Lib.hid hlt
      go_wp2_with (at_builtin; fail)
      go_loopw [11] (fun c wx => ∃ (k : Nat) (M : List Bool), c = .int .i64 k ∧ k ≤ ac.length ∧ RowB wx bx 99 [vf, .slice Aq pts.length cq] ∧ RowB wx rs 4 (bv M) ∧ M.length = pts.length ∧ (∀ j, M.getD j false = if j = i then cfS pts LK QK (ac.take k) i else L.getD j false) ∧ Below w.heap.size w wx) (fun c _ => ac.length - (intOf c).toNat)
      case atStart =>
        refine ⟨0, L, rfl, Nat.zero_le _, HRXW.out, HRVW.out, HLLW.out, fun j => ?_, HBW.out⟩
        by_cases hj : j = i
        · subst hj; rw [if_pos rfl, HLVW.out]; simp [cfS]
        · rw [if_neg hj]
      case round =>
        obtain ⟨k, M, rfl, hk, hrx, hrv, hMl, hMv, hbx⟩ := hrel
        have HRXX := Lib.hid hrx
        have HRVX := Lib.hid hrv
        have HML := Lib.hid hMl
        have HMV := Lib.hid hMv
        have HBXX := Lib.hid hbx
        clear hrv hMv hbx
        by_cases hkl : k < ac.length
        · have hwr := HBXX.out.size
          have hrsl := HRVX.out.lt
          have hbxl := hrx.lt
          have hiM : i < M.length := by have := HML.out; omega
          have x1 : wr.cell? ⟨bx, 1, none⟩ = some (.slice Aq pts.length cq) := hrx.cell 1
          obtain ⟨bq, oq, rfl, hbq, zq⟩ := (HQ.out.low HBXX.out hB).cell (k := i) (by have := HQL.out; omega)
          obtain ⟨bl, ol, rfl, hbl, zl⟩ := (HL.out.low HBXX.out hB).cell (k := i) (by have := HLL.out; omega)
          obtain ⟨ba, oa, rfl, hba, a0, a1⟩ := (HX.out.low HBXX.out hB).get hkl
          obtain ⟨bp, op, c9, nv, e, hbp, -, -, -, p0, p1, p2, p3, p4⟩ := (HP.out.low HBXX.out hB).get hlt
          injection e with e1 e9 e2
          subst e1 e2
          clear e9 p1 p3 p4
          have hbqw : bq < wr.heap.size := by omega
          have hblw : bl < wr.heap.size := by omega
          have hbaw : ba < wr.heap.size := by omega
          have hbpw : bp < wr.heap.size := by omega
          have zo : wr.cell? ⟨rs, i, none⟩ = some (.bool (M.getD i false)) := by rw [HRVX.out.cell i, bv_get hiM]
          have zf : wr.frozen? ⟨rs, i, none⟩ = false := HRVX.out.frozen i
          have HTK : Hid (cfS pts LK QK (ac.take (k + 1)) i = (cfS pts LK QK (ac.take k) i || (nearB pts LK QK i (ac[k]'hkl) && cndB pts (ac[k]'hkl) i))) := Lib.hid (by rw [take_succ_get ac k hkl, cfS_snoc])
          have HMI : Hid (M.getD i false = cfS pts LK QK (ac.take k) i) := Lib.hid (by rw [HMV.out, if_pos rfl])
          have HNB : Hid (nearB pts LK QK i (ac[k]'hkl) = (LK.getD i false && QK.getD i false && ((pts[i]'hlt).y == (ac[k]'hkl).vr))) := Lib.hid (by unfold nearB; rw [ptD_get hlt])
          have HCB : Hid (cndB pts (ac[k]'hkl) i = ((ac[k]'hkl).wr || ((pts[i]'hlt).op == 5))) := Lib.hid (by unfold cndB; rw [ptD_get hlt])
          have HEND : Hid (∀ (b : Bool) (w' : World), b = cfS pts LK QK (ac.take (k + 1)) i → Below wr.heap.size wr w' → RowB (w'.setCell ⟨rs, i, none⟩ (.bool b)) bx 99 [vf, .slice (some ⟨bq, oq, none⟩) pts.length cq] ∧ RowB (w'.setCell ⟨rs, i, none⟩ (.bool b)) rs 4 (bv (M.set i b)) ∧ (M.set i b).length = pts.length ∧ (∀ j, (M.set i b).getD j false = if j = i then cfS pts LK QK (ac.take (k + 1)) i else L.getD j false) ∧ Below w.heap.size w (w'.setCell ⟨rs, i, none⟩ (.bool b))) := Lib.hid fun b w' hb hw => by
            refine ⟨(HRXX.out.low hw hbxl).other (by have := HRS.out; omega) _ _, by rw [← bv_set]; exact (HRVX.out.low hw hrsl).set_ _ _, by rw [List.length_set]; exact HML.out, fun j => ?_, (HBXX.out.trans (hw.mono (by omega))).setCell (p := ⟨rs, i, none⟩) (by have := HRS.out; show w.heap.size ≤ rs; omega) _⟩
            rw [bset hiM]
            by_cases hj : j = i
            · rw [if_pos hj, if_pos hj, hb]
            · rw [if_neg hj, if_neg hj, HMV.out, if_neg hj]
          rw [HMI.out] at zo
          generalize cfS pts LK QK (ac.take k) i = mb at *
          generalize hme : cfS pts LK QK (ac.take (k + 1)) i = me at *
          have HME := Lib.hid hme
          clear hme
          generalize nearB pts LK QK i (ac[k]'hkl) = nb at *
          generalize cndB pts (ac[k]'hkl) i = cb at *
          generalize LK.getD i false = lb at *
          generalize QK.getD i false = qb at *
          generalize ac[k]'hkl = aj at *
          generalize pts[i]'hlt = P at *
          generalize hwt : aj.wr = wt at *
          generalize h5 : (P.op == 5) = fv at *
          generalize hye : (P.y == aj.vr) = ye at *
          clear hwt HMI hrx
          have HYE := Lib.hid hye
          have H5 := Lib.hid h5
          have hlti := hlt
          clear hye h5
          cases lb
          · go_upto_region 8 with (at_builtin; fail)
            refine wp_region_seq (Below wr.heap.size wr) (by kernel_rfl) (by kernel_rfl) (Below.refl _ _).drew ?_
            repeat (first
              | (refine SeqS.skip (by rfl) ?_; (try simp only [Act.put, List.setIfInBounds_toArray, List.set_cons_zero, List.set_cons_succ]))
              | (refine SeqS.pure (v := ?_) (by rfl) (fun w' hSw => ?_) ?_; rotate_left; (obtain ⟨hc9, hf9⟩ := bcell hSw; go_simp; with_reducible rfl); (try simp only [Act.put, List.setIfInBounds_toArray, List.set_cons_zero, List.set_cons_succ]))
              | fail)
            intro w2 hb2
            (have zo2 := (hb2.cell (p := ⟨rs, i, none⟩) hrsl).trans zo)
            (have zf2 : w2.frozen? ⟨rs, i, none⟩ = false := (HRVX.out.low hb2 hrsl).frozen i)
            (have a12 := (hb2.cell (p := ⟨ba, oa + k * 2 + 1, none⟩) hbaw).trans a1)
            (have p02 := (hb2.cell (p := ⟨bp, op + i * 5, none⟩) hbpw).trans p0)
            cases mb
            · skip
              have HE := Lib.hid (HEND.out false w2 (by rw [HTK.out, HNB.out, HCB.out]; rfl) hb2)
              have hlt2 := hkl
              go_wp2_with (at_builtin; fail)
              obtain ⟨h1, h2, h3, h4, h5⟩ := HE.out
              exact ⟨⟨k + 1, _, by go_num, by omega, h1, h2, h3, (fun j => by rw [HME.out]; exact h4 j), h5⟩, by simp [intOf] <;> omega⟩
            · skip
              have HE := Lib.hid (HEND.out true w2 (by rw [HTK.out, HNB.out, HCB.out]; rfl) hb2)
              have hlt2 := hkl
              go_wp2_with (at_builtin; fail)
              obtain ⟨h1, h2, h3, h4, h5⟩ := HE.out
              exact ⟨⟨k + 1, _, by go_num, by omega, h1, h2, h3, (fun j => by rw [HME.out]; exact h4 j), h5⟩, by simp [intOf] <;> omega⟩
          · cases qb
            · go_upto_region 8 with (at_builtin; fail)
              refine wp_region_seq (Below wr.heap.size wr) (by kernel_rfl) (by kernel_rfl) (Below.refl _ _).drew ?_
              repeat (first
                | (refine SeqS.skip (by rfl) ?_; (try simp only [Act.put, List.setIfInBounds_toArray, List.set_cons_zero, List.set_cons_succ]))
                | (refine SeqS.pure (v := ?_) (by rfl) (fun w' hSw => ?_) ?_; rotate_left; (obtain ⟨hc9, hf9⟩ := bcell hSw; go_simp; with_reducible rfl); (try simp only [Act.put, List.setIfInBounds_toArray, List.set_cons_zero, List.set_cons_succ]))
                | fail)
              intro w2 hb2
              (have zo2 := (hb2.cell (p := ⟨rs, i, none⟩) hrsl).trans zo)
              (have zf2 : w2.frozen? ⟨rs, i, none⟩ = false := (HRVX.out.low hb2 hrsl).frozen i)
              (have a12 := (hb2.cell (p := ⟨ba, oa + k * 2 + 1, none⟩) hbaw).trans a1)
              (have p02 := (hb2.cell (p := ⟨bp, op + i * 5, none⟩) hbpw).trans p0)
              cases mb
              · skip
                have HE := Lib.hid (HEND.out false w2 (by rw [HTK.out, HNB.out, HCB.out]; rfl) hb2)
                have hlt2 := hkl
                go_wp2_with (at_builtin; fail)
                obtain ⟨h1, h2, h3, h4, h5⟩ := HE.out
                exact ⟨⟨k + 1, _, by go_num, by omega, h1, h2, h3, (fun j => by rw [HME.out]; exact h4 j), h5⟩, by simp [intOf] <;> omega⟩
              · skip
                have HE := Lib.hid (HEND.out true w2 (by rw [HTK.out, HNB.out, HCB.out]; rfl) hb2)
                have hlt2 := hkl
                go_wp2_with (at_builtin; fail)
                obtain ⟨h1, h2, h3, h4, h5⟩ := HE.out
                exact ⟨⟨k + 1, _, by go_num, by omega, h1, h2, h3, (fun j => by rw [HME.out]; exact h4 j), h5⟩, by simp [intOf] <;> omega⟩
            · have hye := HYE.out
              cases ye
              · go_upto_region 8 with (at_builtin; fail)
                refine wp_region_seq (Below wr.heap.size wr) (by kernel_rfl) (by kernel_rfl) (Below.refl _ _).drew ?_
                repeat (first
                  | (refine SeqS.skip (by rfl) ?_; (try simp only [Act.put, List.setIfInBounds_toArray, List.set_cons_zero, List.set_cons_succ]))
                  | (refine SeqS.pure (v := ?_) (by rfl) (fun w' hSw => ?_) ?_; rotate_left; (obtain ⟨hc9, hf9⟩ := bcell hSw; go_simp; with_reducible rfl); (try simp only [Act.put, List.setIfInBounds_toArray, List.set_cons_zero, List.set_cons_succ]))
                  | fail)
                intro w2 hb2
                (have zo2 := (hb2.cell (p := ⟨rs, i, none⟩) hrsl).trans zo)
                (have zf2 : w2.frozen? ⟨rs, i, none⟩ = false := (HRVX.out.low hb2 hrsl).frozen i)
                (have a12 := (hb2.cell (p := ⟨ba, oa + k * 2 + 1, none⟩) hbaw).trans a1)
                (have p02 := (hb2.cell (p := ⟨bp, op + i * 5, none⟩) hbpw).trans p0)
                cases mb
                · skip
                  have HE := Lib.hid (HEND.out false w2 (by rw [HTK.out, HNB.out, HCB.out]; rfl) hb2)
                  have hlt2 := hkl
                  go_wp2_with (at_builtin; fail)
                  obtain ⟨h1, h2, h3, h4, h5⟩ := HE.out
                  exact ⟨⟨k + 1, _, by go_num, by omega, h1, h2, h3, (fun j => by rw [HME.out]; exact h4 j), h5⟩, by simp [intOf] <;> omega⟩
                · skip
                  have HE := Lib.hid (HEND.out true w2 (by rw [HTK.out, HNB.out, HCB.out]; rfl) hb2)
                  have hlt2 := hkl
                  go_wp2_with (at_builtin; fail)
                  obtain ⟨h1, h2, h3, h4, h5⟩ := HE.out
                  exact ⟨⟨k + 1, _, by go_num, by omega, h1, h2, h3, (fun j => by rw [HME.out]; exact h4 j), h5⟩, by simp [intOf] <;> omega⟩
              · go_upto_region 8 with (at_builtin; fail)
                refine wp_region_seq (Below wr.heap.size wr) (by kernel_rfl) (by kernel_rfl) (Below.refl _ _).drew ?_
                repeat (first
                  | (refine SeqS.skip (by rfl) ?_; (try simp only [Act.put, List.setIfInBounds_toArray, List.set_cons_zero, List.set_cons_succ]))
                  | (refine SeqS.pure (v := ?_) (by rfl) (fun w' hSw => ?_) ?_; rotate_left; (obtain ⟨hc9, hf9⟩ := bcell hSw; go_simp; with_reducible rfl); (try simp only [Act.put, List.setIfInBounds_toArray, List.set_cons_zero, List.set_cons_succ]))
                  | fail)
                intro w2 hb2
                (have zo2 := (hb2.cell (p := ⟨rs, i, none⟩) hrsl).trans zo)
                (have zf2 : w2.frozen? ⟨rs, i, none⟩ = false := (HRVX.out.low hb2 hrsl).frozen i)
                (have a12 := (hb2.cell (p := ⟨ba, oa + k * 2 + 1, none⟩) hbaw).trans a1)
                (have p02 := (hb2.cell (p := ⟨bp, op + i * 5, none⟩) hbpw).trans p0)
                cases mb
                · cases wt
                  · have h5 := H5.out
                    cases fv
                    · skip
                      have HE := Lib.hid (HEND.out false w2 (by rw [HTK.out, HNB.out, HCB.out]; rfl) hb2)
                      have hlt2 := hkl
                      go_wp2_with (at_builtin; fail)
                      obtain ⟨h1, h2, h3, h4, h5⟩ := HE.out
                      exact ⟨⟨k + 1, _, by go_num, by omega, h1, h2, h3, (fun j => by rw [HME.out]; exact h4 j), h5⟩, by simp [intOf] <;> omega⟩
                    · skip
                      have HE := Lib.hid (HEND.out true w2 (by rw [HTK.out, HNB.out, HCB.out]; rfl) hb2)
                      have hlt2 := hkl
                      go_wp2_with (at_builtin; fail)
                      obtain ⟨h1, h2, h3, h4, h5⟩ := HE.out
                      exact ⟨⟨k + 1, _, by go_num, by omega, h1, h2, h3, (fun j => by rw [HME.out]; exact h4 j), h5⟩, by simp [intOf] <;> omega⟩
                  · skip
                    have HE := Lib.hid (HEND.out true w2 (by rw [HTK.out, HNB.out, HCB.out]; rfl) hb2)
                    have hlt2 := hkl
                    go_wp2_with (at_builtin; fail)
                    obtain ⟨h1, h2, h3, h4, h5⟩ := HE.out
                    exact ⟨⟨k + 1, _, by go_num, by omega, h1, h2, h3, (fun j => by rw [HME.out]; exact h4 j), h5⟩, by simp [intOf] <;> omega⟩
                · skip
                  have HE := Lib.hid (HEND.out true w2 (by rw [HTK.out, HNB.out, HCB.out]; rfl) hb2)
                  have hlt2 := hkl
                  go_wp2_with (at_builtin; fail)
                  obtain ⟨h1, h2, h3, h4, h5⟩ := HE.out
                  exact ⟨⟨k + 1, _, by go_num, by omega, h1, h2, h3, (fun j => by rw [HME.out]; exact h4 j), h5⟩, by simp [intOf] <;> omega⟩
        · have hke : k = ac.length := by omega
          have HFIN : Hid (∀ j, M.getD j false = (decide (j < i + 1) && cfS pts LK QK ac j)) := Lib.hid fun j => by
            rw [HMV.out, hke, List.take_length]
            by_cases hj : j = i
            · subst hj; rw [if_pos rfl, decide_eq_true (by omega)]; rfl
            · rw [if_neg hj, HLVW.out]
              congr 1
              rw [decide_eq_decide]; omega
          clear hke hrx
          go_wp2_with (at_builtin; fail)
          have hlt := HLT.out
          exact ⟨⟨i + 1, M, by go_num, by omega, HRXX.out, HRVX.out, HML.out, HFIN.out, HBXX.out⟩, by simp [intOf] <;> omega⟩
    · have hie : i = pts.length := by omega
      go_wp2_with (at_builtin; fail)
      go_ret
      exact ⟨rs, L, rfl, HRVW.out, HLLW.out, fun j hj => by rw [HLVW.out, decide_eq_true (by omega)]; rfl, HBW.out⟩

end Go.Proofs.Ytfioaohadanjmaa
