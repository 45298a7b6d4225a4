import Derived.Test.YtfioaohadanjmaaGreatU07
import Derived.Test.YtfioaohadanjmaaGreatU10
set_option linter.unusedVariables false

/- eqIntS, eqStmt, eqStmtS, eqProgram of equal values. -/
namespace Go.Proofs.YtfioaohadanjmaaGreat
open Go.RowKit

set_option maxHeartbeats 400000 in
theorem eqIntS_any (va vb : Value) (l : List Int) (Ba Bb : Nat) (w : World) (ha : IntS w Ba va l) (hb : IntS w Bb vb l) :
    Calls Tryz.prog 14 #[va, vb] w (TruRet w) := by
  obtain ⟨A, c, rfl, hc, hm, hr⟩ := ha
  obtain ⟨A', c', rfl, hc', hm', hr'⟩ := hb
  have hle : ((l.length : Int) != (l.length : Int)) = false := by simp
  go_enter Tryz.func14, Tryz.ntmps14
  go_wp2_with (at_builtin; fail)
  go_loopw [5] (fun i wr => ∃ k : Nat, k ≤ l.length ∧ i = .int .i64 k ∧ ∃ n, wr = w.drewN n) (fun i _ => l.length - (intOf i).toNat)
  case atStart => exact ⟨0, Nat.zero_le _, rfl, 0, rfl⟩
  case round =>
    obtain ⟨k, hk, rfl, n0, rfl⟩ := hrel
    by_cases hlt : k < l.length
    · obtain ⟨b, off, rfl, hb, hcell⟩ := hr.int_at hlt
      have hck := hcell k hlt
      obtain ⟨b', off', rfl, hb', hcell'⟩ := hr'.int_at hlt
      have hck' := hcell' k hlt
      have hx : ((l.getD k 0 : Int) != l.getD k 0) = false := by simp
      clear hcell hcell'
      generalize l.getD k 0 = x at *
      go_wp2_with (at_builtin; fail)
      go_quiet (fail)
      go_wp2_with (at_builtin; fail)
      exact ⟨⟨k + 1, by omega, by go_num, ⟨_, rfl⟩⟩, by simp [intOf] <;> omega⟩
    · go_wp2_with (at_builtin; fail)
      go_ret
      exact ⟨rfl, below_of_drewN ⟨n0, rfl⟩ _⟩
def EqOk (m : Nat) : Prop := ∀ (va vb : Value) (l : List St) (B : Nat) (w : World), szL l ≤ m → StS w B va l → StS w B vb l → B ≤ w.heap.size → Calls Tryz.prog 41 #[va, vb] w (TruRet w)
set_option maxHeartbeats 2000000 in
set_option maxRecDepth 100000 in
theorem eqStmt_of (m : Nat) (ih : ∀ j, j < m → EqOk j) (op x y n : Int) (tv ev tv' ev' : Value) (th el : List St) (B : Nat) (w : World) (hm : szL th + szL el < m) (h1 : StS w B tv th) (h2 : StS w B tv' th) (h3 : StS w B ev el) (h4 : StS w B ev' el) (hB : B ≤ w.heap.size) :
    Calls Tryz.prog 68 #[.agg #[.int .i64 op, .int .i64 x, .int .i64 y, .int .i64 n, tv, ev], .agg #[.int .i64 op, .int .i64 x, .int .i64 y, .int .i64 n, tv', ev']] w (TruRet w) := by
  obtain ⟨A1, c1, rfl, -⟩ := h1.slice
  obtain ⟨A2, c2, rfl, -⟩ := h2.slice
  obtain ⟨A3, c3, rfl, -⟩ := h3.slice
  obtain ⟨A4, c4, rfl, -⟩ := h4.slice
  have H1 := Lib.hid h1
  have H2 := Lib.hid h2
  have H3 := Lib.hid h3
  have H4 := Lib.hid h4
  have IH := Lib.hid ih
  clear h1 h2 h3 h4 ih
  have HR := Lib.hid (RowB.new w [.int .i64 op, .int .i64 x, .int .i64 y, .int .i64 n, .slice A1 th.length c1, .slice A3 el.length c3] 100)
  have HB1 := Lib.hid (bel_a w (.cells #[.int .i64 op, .int .i64 x, .int .i64 y, .int .i64 n, .slice A1 th.length c1, .slice A3 el.length c3] 100))
  have hs1 : (w.alloc (.cells #[.int .i64 op, .int .i64 x, .int .i64 y, .int .i64 n, .slice A1 th.length c1, .slice A3 el.length c3] 100)).heap.size = w.heap.size + 1 := by simp
  have HR2 := Lib.hid (RowB.new (w.alloc (.cells #[.int .i64 op, .int .i64 x, .int .i64 y, .int .i64 n, .slice A1 th.length c1, .slice A3 el.length c3] 100)) [.int .i64 op, .int .i64 x, .int .i64 y, .int .i64 n, .slice A2 th.length c2, .slice A4 el.length c4] 100)
  have HB2 := Lib.hid (bel_a (w.alloc (.cells #[.int .i64 op, .int .i64 x, .int .i64 y, .int .i64 n, .slice A1 th.length c1, .slice A3 el.length c3] 100)) (.cells #[.int .i64 op, .int .i64 x, .int .i64 y, .int .i64 n, .slice A2 th.length c2, .slice A4 el.length c4] 100))
  have HS1 := Lib.hid hs1
  clear hs1
  have he : ∀ z : Int, (z != z) = false := fun z => by simp
  have he1 := he op
  have he2 := he x
  have he3 := he y
  have he4 := he n
  clear he
  go_enter Tryz.func68, Tryz.ntmps68
  go_upto_region 1 with (at_builtin; fail)
  generalize w.alloc (.cells #[.int .i64 op, .int .i64 x, .int .i64 y, .int .i64 n, .slice A1 th.length c1, .slice A3 el.length c3] 100) = w1 at *
  generalize w1.alloc (.cells #[.int .i64 op, .int .i64 x, .int .i64 y, .int .i64 n, .slice A2 th.length c2, .slice A4 el.length c4] 100) = w2 at *
  have hs1 := HS1.out
  rw [hs1] at HR2
  have HS1 := Lib.hid hs1
  clear hs1
  have HRA := Lib.hid (HR.out.low HB2.out HR.out.lt)
  have HBA := Lib.hid (HB1.out.trans (HB2.out.mono HB1.out.size))
  have hsz := HBA.out.size
  have a0 := HRA.out.cell 0
  have a1 := HRA.out.cell 1
  have a2 := HRA.out.cell 2
  have a3 := HRA.out.cell 3
  have a4 := HRA.out.cell 4
  have a5 := HRA.out.cell 5
  have b0 := HR2.out.cell 0
  have b1 := HR2.out.cell 1
  have b2 := HR2.out.cell 2
  have b3 := HR2.out.cell 3
  have b4 := HR2.out.cell 4
  have b5 := HR2.out.cell 5
  simp only [List.getElem?_cons_zero, List.getElem?_cons_succ] at a0 a1 a2 a3 a4 a5 b0 b1 b2 b3 b4 b5
  go_wp2_with (at_builtin; fail)
  refine (IH.out (szL th) (by omega) _ _ th B w2 (Nat.le_refl _) (H1.out.low HBA.out hB) (H2.out.low HBA.out hB) (by omega)).mono ?_
  rintro e w3 ⟨rfl, hb3⟩
  have HB3 := Lib.hid (HBA.out.trans (hb3.mono hsz))
  have hs3 := HB3.out.size
  have HRA3 := Lib.hid (HRA.out.low hb3 HRA.out.lt)
  have HR23 := Lib.hid (HR2.out.low hb3 HR2.out.lt)
  clear a0 a1 a2 a3 a4 a5 b0 b1 b2 b3 b4 b5 hb3
  have a5 := HRA3.out.cell 5
  have b5 := HR23.out.cell 5
  simp only [List.getElem?_cons_zero, List.getElem?_cons_succ] at a5 b5
  go_wp2_with (at_builtin; fail)
  refine (IH.out (szL el) (by omega) _ _ el B w3 (Nat.le_refl _) (H3.out.low HB3.out hB) (H4.out.low HB3.out hB) (by omega)).mono ?_
  rintro e w4 ⟨rfl, hb4⟩
  go_wp2_with (at_builtin; fail)
  go_ret
  exact ⟨rfl, HB3.out.trans (hb4.mono hs3)⟩
set_option maxHeartbeats 2000000 in
set_option maxRecDepth 100000 in
theorem eqS_of (m : Nat) (hM : m ≤ 4194304) (ih : ∀ j, j < m → EqOk j) : EqOk m := by
  intro va vb l B w hm h1 h2 hB
  have hll := len_le_szL l
  have H1 := Lib.hid h1
  have H2 := Lib.hid h2
  have IH := Lib.hid ih
  obtain ⟨A1, c1, rfl, hc1⟩ := h1.slice
  obtain ⟨A2, c2, rfl, hc2⟩ := h2.slice
  have hle : ((l.length : Int) != (l.length : Int)) = false := by simp
  clear h1 h2 ih
  go_enter Tryz.func41, Tryz.ntmps41
  go_wp2_with (at_builtin; fail)
  clear hle
  go_loopw [5] (fun i wr => ∃ k : Nat, k ≤ l.length ∧ i = .int .i64 k ∧ Below w.heap.size w wr) (fun i _ => l.length - (intOf i).toNat)
  case atStart => exact ⟨0, Nat.zero_le _, rfl, Below.refl _ _⟩
  case round =>
    obtain ⟨k, hk, rfl, hbw⟩ := hrel
    have HBW := Lib.hid hbw
    have hsw := hbw.size
    clear hbw
    by_cases hlt : k < l.length
    · have hsz := szL_mem hlt
      rw [l[k].sz_eq] at hsz
      obtain ⟨b1, o1, t1, e1, rfl, hb1, ht1, he1, p0, p1, p2, p3, p4, p5⟩ := (H1.out.low HBW.out hB).get hlt
      obtain ⟨b2, o2, t2, e2, rfl, hb2, ht2, he2, q0, q1, q2, q3, q4, q5⟩ := (H2.out.low HBW.out hB).get hlt
      obtain ⟨A3, c3, rfl, -⟩ := ht1.slice
      obtain ⟨A4, c4, rfl, -⟩ := he1.slice
      obtain ⟨A5, c5, rfl, -⟩ := ht2.slice
      obtain ⟨A6, c6, rfl, -⟩ := he2.slice
      have HT1 := Lib.hid ht1
      have HE1 := Lib.hid he1
      have HT2 := Lib.hid ht2
      have HE2 := Lib.hid he2
      generalize l[k]'hlt = s at *
      clear ht1 he1 ht2 he2
      have HC := Lib.hid (fun (wz : World) (hz : Below wr.heap.size wr wz) => eqStmt_of m IH.out s.op s.x s.y s.n (.slice A3 s.th.length c3) (.slice A4 s.el.length c4) (.slice A5 s.th.length c5) (.slice A6 s.el.length c6) s.th s.el B wz (by omega) (HT1.out.low hz (by omega)) (HT2.out.low hz (by omega)) (HE1.out.low hz (by omega)) (HE2.out.low hz (by omega)) (by have := hz.size; omega))
      go_wp2_with (at_builtin; fail)
      go_region_law (first
        | (go_simp; go_at_call 68; refine (HC.out _ (Below.refl wr.heap.size wr).drew).mono ?_; rintro e w3 ⟨rfl, hb3⟩; (have HB3 := Lib.hid (HBW.out.trans ((show Below wr.heap.size wr w3 from (Below.refl wr.heap.size wr).drew.trans hb3).mono hsw))); clear hb3)
        | fail)
      all_goals
        go_wp2_with (at_builtin; fail)
        exact ⟨⟨k + 1, by omega, by go_num, HB3.out⟩, by simp [intOf] <;> omega⟩
    · go_wp2_with (at_builtin; fail)
      go_ret
      exact ⟨rfl, HBW.out⟩
theorem eqS_any (m : Nat) (hM : m ≤ 4194304) : EqOk m := by
  induction m using Nat.strongRecOn with
  | _ m ih => exact eqS_of m hM fun j hj => ih j hj (by omega)
set_option maxHeartbeats 1000000 in
set_option maxRecDepth 100000 in
theorem eqProgram_any (vt vb vt' vb' : Value) (ts : List Int) (l : List St) (B : Nat) (w : World) (ht : IntS w B vt ts) (hl : StS w B vb l) (ht' : IntS w B vt' ts) (hl' : StS w B vb' l) (hB : B ≤ w.heap.size) (hsz : szL l ≤ 4194304) :
    Calls Tryz.prog 15 #[.agg #[vt, vb], .agg #[vt', vb']] w (TruRet w) := by
  have hb2 : Below w.heap.size w ((w.alloc (.cells #[vt, vb] 31)).alloc (.cells #[vt', vb'] 31)) := (bel_a w _).alloc (by simp) _
  have HB2 := Lib.hid hb2
  have HT := Lib.hid (ht.low hb2 hB)
  have HT' := Lib.hid (ht'.low hb2 hB)
  have HL := Lib.hid (hl.low hb2 hB)
  have HL' := Lib.hid (hl'.low hb2 hB)
  have HR1 := Lib.hid ((RowB.new w [vt, vb] 31).alloc (.cells #[vt', vb'] 31))
  have HR2 := Lib.hid (RowB.new (w.alloc (.cells #[vt, vb] 31)) [vt', vb'] 31)
  have hs1 : (w.alloc (.cells #[vt, vb] 31)).heap.size = w.heap.size + 1 := by simp
  rw [hs1] at HR2
  obtain ⟨A1, c1, rfl, -⟩ := ht
  obtain ⟨A2, c2, rfl, -⟩ := ht'
  obtain ⟨A3, c3, rfl, -⟩ := hl.slice
  obtain ⟨A4, c4, rfl, -⟩ := hl'.slice
  clear hb2 hs1 hl hl'
  go_enter Tryz.func15, Tryz.ntmps15
  go_upto_region 1 with (at_builtin; fail)
  generalize (w.alloc (.cells #[.slice A1 ts.length c1, .slice A3 l.length c3] 31)).alloc (.cells #[.slice A2 ts.length c2, .slice A4 l.length c4] 31) = w2 at *
  have a0 := HR1.out.cell 0
  have a1 := HR1.out.cell 1
  have b0 := HR2.out.cell 0
  have b1 := HR2.out.cell 1
  simp only [List.getElem?_cons_zero, List.getElem?_cons_succ] at a0 a1 b0 b1
  have hs2 := HB2.out.size
  go_wp2_with (at_builtin; fail)
  refine (eqIntS_any _ _ ts B B w2 HT.out HT'.out).mono ?_
  rintro e w3 ⟨rfl, hb3⟩
  have HB3 := Lib.hid (HB2.out.trans (hb3.mono hs2))
  have HL3 := Lib.hid (HL.out.low hb3 (by omega))
  have HL3' := Lib.hid (HL'.out.low hb3 (by omega))
  have c1' := (hb3.cell (p := ⟨w.heap.size, 1, none⟩) HR1.out.lt).trans a1
  have d1' := (hb3.cell (p := ⟨w.heap.size + 1, 1, none⟩) HR2.out.lt).trans b1
  have hs3 := HB3.out.size
  clear a0 a1 b0 b1 hb3
  go_wp2_with (at_builtin; fail)
  refine (eqS_any (szL l) hsz _ _ l B w3 (Nat.le_refl _) HL3.out HL3'.out (by omega)).mono ?_
  rintro e w4 ⟨rfl, hb4⟩
  go_wp2_with (at_builtin; fail)
  go_ret
  exact ⟨rfl, HB3.out.trans (hb4.mono hs3)⟩

end Go.Proofs.YtfioaohadanjmaaGreat
