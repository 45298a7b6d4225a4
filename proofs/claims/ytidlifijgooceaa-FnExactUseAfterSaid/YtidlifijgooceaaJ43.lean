import Derived.Test.YtidlifijgooceaaJ42
import Derived.Deep.CutBlock
import Derived.Deep.DeepCutAuto
set_option linter.unusedVariables false

/- spec.l4Lose, l4Within. -/
namespace Go.Proofs.Ytidlifijgooceaa
open Go.RowKit

/-- is e a loan of v? -/
def lonV (pts : List Pt) (v : Int) (e : Nat) : Bool := match pts[e]? with
  | some q => lonB q && (q.y == v)
  | none => false
set_option maxHeartbeats 2000000 in
set_option maxRecDepth 100000 in
theorem l4Lose_any (Af : Option Addr) (nf cf : Nat) (vpts : Value) (gp cp B lo : Nat) (pts : List Pt) (P : List Bool) (v : Int) (w : World) (hps : PtS w B vpts pts) (hB : B ≤ w.heap.size) (hgp : B ≤ gp) (hP : OBools w lo (.slice (some ⟨gp, 0, none⟩) pts.length cp) P) (hl : P.length = pts.length) (hpl : pts.length ≤ 100) :
    Calls Try.prog 161 #[.agg #[.slice Af nf cf, .slice (some ⟨gp, 0, none⟩) pts.length cp], vpts, .int .i64 v] w fun e w' => e = .returned (.tuple #[]) ∧ ∃ P', OBools w' lo (.slice (some ⟨gp, 0, none⟩) pts.length cp) P' ∧ P'.length = pts.length ∧ (∀ e, P'.getD e false = (P.getD e false && !lonV pts v e)) ∧ Onl (fun b => b = gp) w w' := by
  have HPS := Lib.hid hps
  have HP := Lib.hid hP
  have HL := Lib.hid hl
  obtain ⟨Ap, cpp, rfl, hcp, -⟩ := hps.slice
  have hgl : gp < w.heap.size := (hP.own_lt rfl).2
  have HX : Hid ((w.alloc (.cells #[.slice Af nf cf, .slice (some ⟨gp, 0, none⟩) pts.length cp] 102)).heap[w.heap.size]? = some (.cells #[.slice Af nf cf, .slice (some ⟨gp, 0, none⟩) pts.length cp] 102 (0, 0))) := Lib.hid (heap_alloc_new w _)
  have HB0 := Lib.hid (bel_a w (.cells #[.slice Af nf cf, .slice (some ⟨gp, 0, none⟩) pts.length cp] 102))
  have HP0 := Lib.hid (hP.bel HB0.out)
  clear hps hP hl
  go_enter Try.func161, Try.ntmps161
  go_wp2_with (at_builtin; fail)
  generalize w.alloc (.cells #[.slice Af nf cf, .slice (some ⟨gp, 0, none⟩) pts.length cp] 102) = w1 at *
  have hs1 := HB0.out.size
  have hgl1 : gp < w1.heap.size := by omega
  go_loopw [6] (fun i wr => ∃ (k : Nat) (P' : List Bool), k ≤ pts.length ∧ i = .int .i64 k ∧ OBools wr lo (.slice (some ⟨gp, 0, none⟩) pts.length cp) P' ∧ P'.length = pts.length ∧ (∀ e, P'.getD e false = (P.getD e false && !(decide (e < k) && lonV pts v e))) ∧ Onl (fun b => b = gp) w1 wr) (fun i _ => pts.length - (intOf i).toNat)
  case atStart => exact ⟨0, P, Nat.zero_le _, rfl, HP0.out, HL.out, fun e => by simp, Onl.refl _ _⟩
  case round =>
    obtain ⟨k, P', hk, rfl, hP', hl', hge, hon⟩ := hrel
    have HPW := Lib.hid hP'
    have HLW := Lib.hid hl'
    have HGE := Lib.hid hge
    have HON := Lib.hid hon
    have hsw := hon.size
    have hbo := (Onl.below hon (B := gp) (by omega) (fun k e => by have e' : k = gp := e; omega))
    have HPTS := Lib.hid ((HPS.out.low HB0.out hB).low hbo hgp)
    have HXW : Hid (wr.heap[w.heap.size]? = some (.cells #[.slice Af nf cf, .slice (some ⟨gp, 0, none⟩) pts.length cp] 102)) := Lib.hid ((hon.block w.heap.size (row_lt HX.out) (fun e => by have e' : w.heap.size = gp := e; omega)).trans HX.out)
    have b0 : wr.cell? ⟨w.heap.size, 0, none⟩ = some (.slice Af nf cf) := by rw [cell_of_row _ _ _ _ _ _ HXW.out]; rfl
    have b1 : wr.cell? ⟨w.heap.size, 1, none⟩ = some (.slice (some ⟨gp, 0, none⟩) pts.length cp) := by rw [cell_of_row _ _ _ _ _ _ HXW.out]; rfl
    clear hP' hl' hge hon hbo
    by_cases hlt : k < pts.length
    · obtain ⟨bp, op, cq, nv, e, hbp, hcq, hlp, hnx, z0, z1, z2, z3, z4⟩ := HPTS.out.get hlt
      injection e with e1 e9 e2
      subst e1 e2
      clear e9 hnx
      have HLV : Hid (lonV pts v k = (lonB pts[k] && ((pts[k]).y == v))) := Lib.hid (by unfold lonV; rw [List.getElem?_eq_getElem hlt])
      generalize pts[k] = Q at *
      have HNO : Hid (lonV pts v k = false → ∀ e, P'.getD e false = (P.getD e false && !(decide (e < k + 1) && lonV pts v e))) := Lib.hid fun h e => by
        rw [HGE.out e]
        by_cases h1 : e < k
        · rw [decide_eq_true h1, decide_eq_true (by omega)]
        · rw [decide_eq_false h1]
          by_cases h2 : e = k
          · rw [h2, h]; simp
          · rw [decide_eq_false (by omega)]
      have HYES : Hid (lonV pts v k = true → ∀ e, (P'.set k false).getD e false = (P.getD e false && !(decide (e < k + 1) && lonV pts v e))) := Lib.hid fun h e => by
        rw [getD_setT (by rw [HLW.out]; exact hlt)]
        by_cases h2 : e = k
        · rw [if_pos h2, h2, h]; simp
        · rw [if_neg h2, HGE.out e]
          by_cases h1 : e < k
          · rw [decide_eq_true h1, decide_eq_true (by omega)]
          · rw [decide_eq_false h1, decide_eq_false (by omega)]
      obtain ⟨g', eg, -, -, -, hcp2, hfp⟩ := HPW.out.at_ (k := k) (by rw [HLW.out]; exact hlt)
      injection eg with eg
      injection eg with eg
      subst eg
      by_cases hlo : lonB Q = true
      · by_cases hy : Q.y = v
        · have hye : (Q.y == v) = true := by simpa using hy
          have HE := Lib.hid (HYES.out (by rw [HLV.out, hlo, hye]; rfl))
          have hop : Q.op = 4 ∨ Q.op = 5 := lonB_iff.1 hlo
          clear hlo hy
          rcases hop with hop | hop
          · have ho4 : (Q.op == 4) = true := by rw [hop]; rfl
            clear hop
            go_wp2_with (at_builtin; fail)
            exact ⟨⟨k + 1, P'.set k false, by omega, by go_num, HPW.out.set k false, by rw [List.length_set]; exact HLW.out, HE.out, HON.out.trans (Onl.set (S := fun b => b = gp) _ rfl _ _)⟩, by simp [intOf] <;> omega⟩
          · have ho4 : (Q.op == 4) = false := by rw [hop]; rfl
            have ho5 : (Q.op == 5) = true := by rw [hop]; rfl
            clear hop
            go_wp2_with (at_builtin; fail)
            exact ⟨⟨k + 1, P'.set k false, by omega, by go_num, HPW.out.set k false, by rw [List.length_set]; exact HLW.out, HE.out, HON.out.trans (Onl.set (S := fun b => b = gp) _ rfl _ _)⟩, by simp [intOf] <;> omega⟩
        · have hye : (Q.y == v) = false := by simpa using hy
          have HE := Lib.hid (HNO.out (by rw [HLV.out, hye]; simp))
          have hop : Q.op = 4 ∨ Q.op = 5 := lonB_iff.1 hlo
          clear hlo hy
          rcases hop with hop | hop
          · have ho4 : (Q.op == 4) = true := by rw [hop]; rfl
            clear hop
            go_wp2_with (at_builtin; fail)
            exact ⟨⟨k + 1, P', by omega, by go_num, HPW.out, HLW.out, HE.out, HON.out⟩, by simp [intOf] <;> omega⟩
          · have ho4 : (Q.op == 4) = false := by rw [hop]; rfl
            have ho5 : (Q.op == 5) = true := by rw [hop]; rfl
            clear hop
            go_wp2_with (at_builtin; fail)
            exact ⟨⟨k + 1, P', by omega, by go_num, HPW.out, HLW.out, HE.out, HON.out⟩, by simp [intOf] <;> omega⟩
      · rw [Bool.not_eq_true] at hlo
        have HE := Lib.hid (HNO.out (by rw [HLV.out, hlo]; rfl))
        have ho4 : (Q.op == 4) = false := by
          cases h : (Q.op == 4)
          · rfl
          · unfold lonB at hlo; rw [h] at hlo; simp at hlo
        have ho5 : (Q.op == 5) = false := by
          cases h : (Q.op == 5)
          · rfl
          · unfold lonB at hlo; rw [h] at hlo; simp at hlo
        clear hlo
        go_wp2_with (at_builtin; fail)
        exact ⟨⟨k + 1, P', by omega, by go_num, HPW.out, HLW.out, HE.out, HON.out⟩, by simp [intOf] <;> omega⟩
    · have hke : k = pts.length := by omega
      have HFIN : Hid (∀ e, P'.getD e false = (P.getD e false && !lonV pts v e)) := Lib.hid fun e => by
        rw [HGE.out e, hke]
        by_cases h : e < pts.length
        · rw [decide_eq_true h, Bool.true_and]
        · unfold lonV; rw [List.getElem?_eq_none (by omega)]; simp
      clear hke
      go_wp2_with (at_builtin; fail)
      go_end0
      exact ⟨rfl, P', HPW.out, HLW.out, HFIN.out, (Onl.bel HB0.out).trans HON.out⟩

/-- what l4Within answers -/
def WinRet (w : World) (n s : Nat) (Fa : List (List Bool)) (Pa : List Bool) (Fb : List (List Bool)) (Pb : List Bool) (e : Ending) (w' : World) : Prop :=
  ∃ c, e = .returned (.bool c) ∧ (c = true → (∀ e, e < s → Pa.getD e false = true → Pb.getD e false = true) ∧ ∀ v e, v < n → e < s → rget Fa v e = true → rget Fb v e = true) ∧
    (c = false → (∃ e, e < s ∧ Pa.getD e false = true ∧ Pb.getD e false = false) ∨ ∃ v e, v < n ∧ e < s ∧ rget Fa v e = true ∧ rget Fb v e = false) ∧ Below w.heap.size w w'
set_option maxHeartbeats 4000000 in
set_option maxRecDepth 100000 in
theorem l4Within_any (vfa vpa vfb vpb : Value) (n s : Nat) (Fa : List (List Bool)) (Pa : List Bool) (Fb : List (List Bool)) (Pb : List Bool) (Qa Qb : Nat → Prop) (w : World) (hfa : RwX w Qa vfa Fa) (hpa : BoolX w Qa vpa Pa) (hfb : RwX w Qb vfb Fb) (hpb : BoolX w Qb vpb Pb)
    (h1 : Fa.length = n) (h2 : Fb.length = n) (h3 : Pa.length = s) (h4 : Pb.length = s) (h5 : ∀ v, v < n → (Fa.getD v []).length = s) (h6 : ∀ v, v < n → (Fb.getD v []).length = s) (hs : s ≤ 100) (hn : n ≤ 100) :
    Calls Try.prog 136 #[.agg #[vfa, vpa], .agg #[vfb, vpb]] w (WinRet w n s Fa Pa Fb Pb) := by
  obtain ⟨Afa, cfa, rfl, hcfa⟩ := hfa.slice
  obtain ⟨Apa, cpa, rfl, hcpa⟩ := hpa.slice
  obtain ⟨Afb, cfb, rfl, hcfb⟩ := hfb.slice
  obtain ⟨Apb, cpb, rfl, hcpb⟩ := hpb.slice
  have HX0 : Hid (((w.alloc (.cells #[.slice Afa Fa.length cfa, .slice Apa Pa.length cpa] 102 (0, 0))).alloc (.cells #[.slice Afb Fb.length cfb, .slice Apb Pb.length cpb] 102 (0, 0))).heap[w.heap.size]? = some (.cells #[.slice Afa Fa.length cfa, .slice Apa Pa.length cpa] 102 (0, 0))) := Lib.hid (row_below (heap_alloc_new w _) (bel_a _ _))
  have HX1 : Hid (((w.alloc (.cells #[.slice Afa Fa.length cfa, .slice Apa Pa.length cpa] 102 (0, 0))).alloc (.cells #[.slice Afb Fb.length cfb, .slice Apb Pb.length cpb] 102 (0, 0))).heap[w.heap.size + 1]? = some (.cells #[.slice Afb Fb.length cfb, .slice Apb Pb.length cpb] 102 (0, 0))) := Lib.hid (by
    have h := heap_alloc_new (w.alloc (.cells #[.slice Afa Fa.length cfa, .slice Apa Pa.length cpa] 102 (0, 0))) (.cells #[.slice Afb Fb.length cfb, .slice Apb Pb.length cpb] 102 (0, 0))
    rw [show (w.alloc (.cells #[.slice Afa Fa.length cfa, .slice Apa Pa.length cpa] 102 (0, 0))).heap.size = w.heap.size + 1 by simp] at h
    exact h)
  have HB0 : Hid (Below w.heap.size w ((w.alloc (.cells #[.slice Afa Fa.length cfa, .slice Apa Pa.length cpa] 102 (0, 0))).alloc (.cells #[.slice Afb Fb.length cfb, .slice Apb Pb.length cpb] 102 (0, 0)))) := Lib.hid ((bel_a w _).alloc (by simp) _)
  have HFA := Lib.hid (hfa.bel HB0.out)
  have HPA := Lib.hid (hpa.bel HB0.out)
  have HFB := Lib.hid (hfb.bel HB0.out)
  have HPB := Lib.hid (hpb.bel HB0.out)
  have HRA := Lib.hid h5
  have HRB := Lib.hid h6
  clear hfa hpa hfb hpb h5 h6
  have h3a : Pa.length ≤ s := by omega
  have h3b : s ≤ Pa.length := by omega
  have h4b : s ≤ Pb.length := by omega
  have h1a : Fa.length ≤ n := by omega
  have h1b : n ≤ Fa.length := by omega
  have h2b : n ≤ Fb.length := by omega
  have H3 := Lib.hid h3
  have H4 := Lib.hid h4
  clear h1 h2 h3 h4
  go_enter Try.func136, Try.ntmps136
  go_wp2_with (at_builtin; fail)
  generalize ((w.alloc (.cells #[.slice Afa Fa.length cfa, .slice Apa Pa.length cpa] 102 (0, 0))).alloc (.cells #[.slice Afb Fb.length cfb, .slice Apb Pb.length cpb] 102 (0, 0))) = w2 at *
  have a0 : w2.cell? ⟨w.heap.size, 0, none⟩ = some (.slice Afa Fa.length cfa) := by rw [cell_of_row _ _ _ _ _ _ HX0.out]; rfl
  have a1 : w2.cell? ⟨w.heap.size, 1, none⟩ = some (.slice Apa Pa.length cpa) := by rw [cell_of_row _ _ _ _ _ _ HX0.out]; rfl
  have d0 : w2.cell? ⟨w.heap.size + 1, 0, none⟩ = some (.slice Afb Fb.length cfb) := by rw [cell_of_row _ _ _ _ _ _ HX1.out]; rfl
  have d1 : w2.cell? ⟨w.heap.size + 1, 1, none⟩ = some (.slice Apb Pb.length cpb) := by rw [cell_of_row _ _ _ _ _ _ HX1.out]; rfl
  go_loopw [5] (fun i wr => ∃ k : Nat, k ≤ s ∧ i = .int .i64 k ∧ (∀ e, e < k → (Pa.getD e false = true → Pb.getD e false = true) ∧ ∀ v, v < n → rget Fa v e = true → rget Fb v e = true) ∧ w2 = wr) (fun i _ => s - (intOf i).toNat)
  case atStart => exact ⟨0, Nat.zero_le _, rfl, fun e he => by omega, rfl⟩
  case round =>
    obtain ⟨k, hk, rfl, hge, rfl⟩ := hrel
    have HGE := Lib.hid hge
    clear hge
    by_cases hlt : k < s
    · obtain ⟨b1, o1, rfl, -, hb1, e9, hca⟩ := HPA.out.at_ (k := k) (by omega)
      obtain ⟨b2, o2, rfl, -, hb2, e9, hcb⟩ := HPB.out.at_ (k := k) (by omega)
      have hka : k < Pa.length := by omega
      have hkb : k < Pb.length := by omega
      clear e9
      obtain ⟨x, hx⟩ : ∃ x, x = Pa.getD k false := ⟨_, rfl⟩
      obtain ⟨y, hy⟩ : ∃ y, y = Pb.getD k false := ⟨_, rfl⟩
      rw [← hx] at hca
      rw [← hy] at hcb
      have HX := Lib.hid hx
      have HY := Lib.hid hy
      clear hx hy
      by_cases hxy : x = true ∧ y = false
      · obtain ⟨rfl, rfl⟩ := hxy
        go_wp2_with (at_builtin; fail)
        go_ret
        exact ⟨false, rfl, fun h => (by cases h), fun _ => .inl ⟨k, hlt, HX.out.symm, HY.out.symm⟩, HB0.out⟩
      · have HXY : Hid (Pa.getD k false = true → Pb.getD k false = true) := Lib.hid fun h => by
          rw [← HX.out] at h; rw [← HY.out]
          cases y
          · exact absurd ⟨h, rfl⟩ hxy
          · rfl
        have hcase : x = false ∨ (x = true ∧ y = true) := by
          cases x
          · exact .inl rfl
          · cases y
            · exact absurd ⟨rfl, rfl⟩ hxy
            · exact .inr ⟨rfl, rfl⟩
        clear hxy
        go_upto_region 4 with (at_builtin; fail)
        go_cut [26] from 7 to 52 (fun s26 wx => s26 = .bool false ∧ w2 = wx)
        case first =>
          rcases hcase with rfl | ⟨rfl, rfl⟩
          · go_wp2_with (at_builtin; fail)
            go_meet
            exact ⟨rfl, rfl⟩
          · go_wp2_with (at_builtin; fail)
            go_meet
            exact ⟨rfl, rfl⟩
        case rest =>
          obtain ⟨rfl, rfl⟩ := hcut
          clear hcase hca hcb
          go_wp2_with (at_builtin; fail)
          go_loopw [6] (fun i wr => ∃ j : Nat, j ≤ n ∧ i = .int .i64 j ∧ (∀ v, v < j → rget Fa v k = true → rget Fb v k = true) ∧ w2 = wr) (fun i _ => n - (intOf i).toNat)
          case atStart => exact ⟨0, Nat.zero_le _, rfl, fun v hv => by omega, rfl⟩
          case round =>
            obtain ⟨j, hj, rfl, hje, rfl⟩ := hrel
            have HJE := Lib.hid hje
            clear hje
            by_cases hjl : j < n
            · obtain ⟨b3, o3, rv3, rfl, -, hb3, e9, hc3, hr3⟩ := HFA.out.at_ (i := j) (by omega)
              obtain ⟨b4, o4, rv4, rfl, -, hb4, e9, hc4, hr4⟩ := HFB.out.at_ (i := j) (by omega)
              have hlA : k < (Fa.getD j []).length := by rw [HRA.out j hjl]; exact hlt
              have hlB : k < (Fb.getD j []).length := by rw [HRB.out j hjl]; exact hlt
              have hjA : j < Fa.length := by omega
              have hjB : j < Fb.length := by omega
              have HGA : Hid (rget Fa j k = (Fa.getD j []).getD k false) := Lib.hid rfl
              have HGB : Hid (rget Fb j k = (Fb.getD j []).getD k false) := Lib.hid rfl
              generalize Fa.getD j [] = ra at *
              generalize Fb.getD j [] = rb at *
              obtain ⟨A3, c3, rfl, hcc3⟩ := hr3.slice
              obtain ⟨A4, c4, rfl, hcc4⟩ := hr4.slice
              obtain ⟨b5, o5, rfl, -, hb5, e9, hc5⟩ := hr3.at_ hlA
              obtain ⟨b6, o6, rfl, -, hb6, e9, hc6⟩ := hr4.at_ hlB
              clear e9 hr3 hr4
              rw [← HGA.out] at hc5
              rw [← HGB.out] at hc6
              have HPp : Hid (∃ p, p = rget Fa j k) := Lib.hid ⟨_, rfl⟩
              obtain ⟨p, hp⟩ : ∃ p, p = rget Fa j k := ⟨_, rfl⟩
              obtain ⟨q, hq⟩ : ∃ q, q = rget Fb j k := ⟨_, rfl⟩
              rw [← hp] at hc5
              rw [← hq] at hc6
              clear HPp
              have HPp := Lib.hid hp
              have HQq := Lib.hid hq
              clear hp hq
              by_cases hpq : p = true ∧ q = false
              · obtain ⟨rfl, rfl⟩ := hpq
                go_wp2_with (at_builtin; fail)
                go_ret
                exact ⟨false, rfl, fun h => (by cases h), fun _ => .inr ⟨j, k, hjl, hlt, HPp.out.symm, HQq.out.symm⟩, HB0.out⟩
              · have HPQ : Hid (∀ v, v < j + 1 → rget Fa v k = true → rget Fb v k = true) := Lib.hid fun v hv h => by
                  by_cases hvj : v < j
                  · exact HJE.out v hvj h
                  · have : v = j := by omega
                    subst this
                    rw [← HPp.out] at h; rw [← HQq.out]
                    cases q
                    · exact absurd ⟨h, rfl⟩ hpq
                    · rfl
                have hcase : p = false ∨ (p = true ∧ q = true) := by
                  cases p
                  · exact .inl rfl
                  · cases q
                    · exact absurd ⟨rfl, rfl⟩ hpq
                    · exact .inr ⟨rfl, rfl⟩
                clear hpq
                go_upto_region 9 with (at_builtin; fail)
                go_cut [52] from 27 to 52 (fun s52 wx => s52 = .bool false ∧ w2 = wx)
                case first =>
                  rcases hcase with rfl | ⟨rfl, rfl⟩
                  · go_wp2_with (at_builtin; fail)
                    go_meet
                    exact ⟨rfl, rfl⟩
                  · go_wp2_with (at_builtin; fail)
                    go_meet
                    exact ⟨rfl, rfl⟩
                case rest =>
                  obtain ⟨rfl, rfl⟩ := hcut
                  go_wp2_with (at_builtin; fail)
                  exact ⟨⟨j + 1, by omega, by go_num, HPQ.out, trivial⟩, by simp [intOf] <;> omega⟩
            · have hjn : j = n := by omega
              have HEN : Hid (∀ e, e < k + 1 → (Pa.getD e false = true → Pb.getD e false = true) ∧ ∀ v, v < n → rget Fa v e = true → rget Fb v e = true) := Lib.hid fun e he => by
                by_cases hek : e < k
                · exact HGE.out e hek
                · have : e = k := by omega
                  subst this
                  exact ⟨HXY.out, by rw [← hjn]; exact HJE.out⟩
              clear hjn
              go_wp2_with (at_builtin; fail)
              exact ⟨⟨k + 1, by omega, by go_num, HEN.out, trivial⟩, by simp [intOf] <;> omega⟩
    · have hks : k = s := by omega
      have HEN : Hid ((∀ e, e < s → Pa.getD e false = true → Pb.getD e false = true) ∧ ∀ v e, v < n → e < s → rget Fa v e = true → rget Fb v e = true) := Lib.hid (by
        rw [← hks]
        exact ⟨fun e he => (HGE.out e he).1, fun v e hv he => (HGE.out e he).2 v hv⟩)
      clear hks
      go_wp2_with (at_builtin; fail)
      go_ret
      exact ⟨true, rfl, fun _ => HEN.out, fun h => (by cases h), HB0.out⟩

end Go.Proofs.Ytidlifijgooceaa
