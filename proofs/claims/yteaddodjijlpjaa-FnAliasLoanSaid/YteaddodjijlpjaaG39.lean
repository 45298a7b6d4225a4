import Derived.Test.YteaddodjijlpjaaG25
import Derived.Test.YteaddodjijlpjaaG29
import Derived.Test.YteaddodjijlpjaaG35
import Derived.Test.YteaddodjijlpjaaG37
import Derived.Test.YteaddodjijlpjaaG38
import Derived.Test.YteaddodjijlpjaaG24
import Derived.Test.YteaddodjijlpjaaG34
set_option linter.unusedVariables false

/- FnAliasLoan: the plain law, the walk. -/
namespace Go.Proofs.Yteaddodjijlpjaa
open Go.RowKit

theorem alias_loan {ts : List Int} {l : List St} (hval : validP ts l = true) {k m : Nat} (hk : k < (ptsP l).length) (ho : loanB ((ptsP l)[k]).op = true) (hm : ((ptsP l)[k]).next[0]? = some m) (hne : flRes ts l Gcell Ccell (k : Nat) ((ptsP l)[k]).y ≠ []) :
    aliasRes ts l (m : Nat) ((ptsP l)[k]).x ((ptsP l)[k]).y = true := by
  have G := Good.of_valid hval
  have hp := List.getElem?_eq_getElem hk
  generalize (ptsP l)[k] = p at *
  have ho' : p.op = 4 ∨ p.op = 5 := by simpa [loanB] using ho
  have hmem : m ∈ p.next := List.mem_of_getElem? hm
  have hml := G.next p (List.mem_of_getElem? hp) m hmem
  have hok : graphOk ts l [((m : Nat) : Int)] = true := by
    simp only [graphOk, hval, Bool.true_and, List.all_cons, List.all_nil, Bool.and_true, withinP, Bool.and_eq_true, decide_eq_true_eq]; omega
  have hs : simpleP ts p.op p.x p.y p.n = true := by
    rcases G.ok p (List.mem_of_getElem? hp) with h | h | h | h
    · omega
    · omega
    · omega
    · exact h
  have hx := typeOf_in (simple_x hs).2.2
  have hy := typeOf_in (simple_y hs (by omega))
  unfold flRes at hne
  split at hne
  · obtain ⟨z, hz⟩ := List.exists_mem_of_ne_nil _ hne
    unfold flS at hz
    obtain ⟨e, he, hf, rfl⟩ := lst_mem.1 hz
    obtain ⟨f1, f2⟩ := (dec_iff.1 hf).loan hp hmem ho' G
    unfold aliasRes
    rw [hok, show withinP p.x 0 ((ts.length : Int) - 1) = true by simp [withinP]; omega, show withinP p.y 0 ((ts.length : Int) - 1) = true by simp [withinP]; omega]
    simp only [Bool.true_and, List.any_eq_true, List.mem_range, Bool.and_eq_true]
    exact ⟨e, he, dec_true f1, dec_true f2⟩
  · exact absurd rfl hne
theorem loan_point {ts : List Int} {l : List St} {j : Nat} (hj : j < (lnL (pointsP ts l) (pointsP ts l).length).length) : validP ts l = true ∧ ∃ k : Nat, ((lnL (pointsP ts l) (pointsP ts l).length)[j]).pt = k ∧ ∃ hk : k < (ptsP l).length, loanB ((ptsP l)[k]).op = true ∧ ((lnL (pointsP ts l) (pointsP ts l).length)[j]).vr = ((ptsP l)[k]).y := by
  have h := lnL_get hj
  generalize (lnL (pointsP ts l) (pointsP ts l).length)[j] = x at *
  obtain ⟨h1, h2, -, h4⟩ := h
  by_cases hv : validP ts l = true
  · have e : pointsP ts l = ptsP l := by unfold pointsP; rw [if_pos hv]
    rw [e] at h1 h2 h4
    rw [ptD_get h1] at h2 h4
    exact ⟨hv, x.pt, rfl, h1, h2, h4⟩
  · have e : pointsP ts l = [] := by unfold pointsP; rw [if_neg hv]
    rw [e] at h1
    simp at h1

set_option maxHeartbeats 8000000
set_option maxRecDepth 100000
theorem fnAliasLoan_any (A : Option Addr) (n c : Nat) (w : World) (hb : Byt w w.heap.size A n) (hm : n ≤ maxLen) (hc : n ≤ c) :
    Calls Try.prog 8 #[.slice A n c] w (LawRet w) := by
  have HB := Lib.hid hb
  clear hb
  by_cases hn : n ≤ 1048576
  · go_enter Try.func8, Try.ntmps8
    go_wp2_with fail
    refine (drawMayAlias_any A n c _ HB.out hn hc).mono ?_
    rintro e w1 ⟨vt, vb, ts, l, a, v, u, rfl, hit, hst, hts, hsz, hb1⟩
    have HP1 := Lib.hid (PgB.new hit hst hb1)
    obtain ⟨At, ct, rfl, hct⟩ := hit.slice
    obtain ⟨Ab, cb, rfl, hcb⟩ := hst.slice
    clear hit hst hb1
    go_wp2_with fail
    generalize w1.alloc (.cells #[.slice At ts.length ct, .slice Ab l.length cb] 26) = W1 at *
    obtain ⟨g, hg⟩ : ∃ g, g = w1.heap.size := ⟨_, rfl⟩
    rw [← hg] at HP1 ⊢
    clear hg
    have hgl := HP1.out.lt
    have c0 := HP1.out.c0
    have c1 := HP1.out.c1
    have HCI := Lib.hid (fun (w' : World) (hSw : Below W1.heap.size W1 w') => (iMayAlias_any (.slice At ts.length ct) (.slice Ab l.length cb) ts l a v u _ w' (HP1.out.ht.low hSw (Nat.le_refl _)) (HP1.out.hl.low hSw (Nat.le_refl _)) hSw.size (by omega)).mono (fun _ _ h => (⟨h.1, hSw.trans (h.2.mono hSw.size)⟩ : _ ∧ Below W1.heap.size W1 _)))
    have HCS := Lib.hid (fun (w' : World) (hSw : Below W1.heap.size W1 w') => (sMayAlias_any (.slice At ts.length ct) (.slice Ab l.length cb) ts l a v u _ w' (HP1.out.ht.low hSw (Nat.le_refl _)) (HP1.out.hl.low hSw (Nat.le_refl _)) hSw.size (by omega)).mono (fun _ _ h => (⟨h.1, hSw.trans (h.2.mono hSw.size)⟩ : _ ∧ Below W1.heap.size W1 _)))
    generalize aliasRes ts l a v u = q at *
    have hqq : (q != q) = false := by cases q <;> rfl
    refine wp_region_seq (Below W1.heap.size W1) (by kernel_rfl) (by kernel_rfl) (Below.refl _ _).drew ?_
    repeat (first
      | (refine SeqS.skip (by rfl) ?_; (try simp only [Act.put, List.setIfInBounds_toArray, List.set_cons_zero, List.set_cons_succ]))
      | (refine SeqS.pure (v := ?_) (by rfl) (fun w' hSw => ?_) ?_; rotate_left; (obtain ⟨hc9, hf9⟩ := bcell hSw; go_simp; with_reducible rfl); (try simp only [Act.put, List.setIfInBounds_toArray, List.set_cons_zero, List.set_cons_succ]))
      | (refine SeqS.call (f := ?_) (args := ?_) (v := ?_) (by rfl) (fun w' => ?_) (fun w' hSw => ?_) ?_; rotate_left 3; (go_simp; constructor; (with_reducible rfl); (with_reducible rfl)); (first | exact HCI.out _ hSw | exact HCS.out _ hSw | fail); (try simp only [Act.put, List.setIfInBounds_toArray, List.set_cons_zero, List.set_cons_succ]))
      | fail)
    intro w2 hb2
    have HP2 := Lib.hid (HP1.out.bels hb2)
    clear c0 c1
    have c0 := HP2.out.c0
    have c1 := HP2.out.c1
    clear hb2
    clear HCI HCS hqq
    go_wp2_with (at_builtin; fail)
    refine (iLoansOf_any _ _ ts l _ _ HP2.out.ht HP2.out.hl (Nat.le_refl _) (by omega)).mono ?_
    rintro e w3 ⟨v3, rfl, hv3, hb3⟩
    have HL_3 := Lib.hid hv3
    obtain ⟨A3, k3, rfl, hk3⟩ := hv3.slice
    clear hv3
    have HP3 := Lib.hid (HP2.out.bels hb3)
    clear c0 c1
    have c0 := HP3.out.c0
    have c1 := HP3.out.c1
    clear hb3
    go_wp2_with (at_builtin; fail)
    refine (iPointsOf_any _ _ ts l _ _ HP3.out.ht HP3.out.hl (Nat.le_refl _) (by omega)).mono ?_
    rintro e w4 ⟨v4, rfl, hv4, hb4⟩
    have HPT_4 := Lib.hid hv4
    obtain ⟨Ap, cp, rfl, hcp, hpl⟩ := hv4.slice
    clear hv4
    have HL_4 := Lib.hid (HL_3.out.bel hb4)
    have HP4 := Lib.hid (HP3.out.bels hb4)
    clear c0 c1
    have c0 := HP4.out.c0
    have c1 := HP4.out.c1
    clear hb4
    have HLP := Lib.hid (fun j hj => loan_point (ts := ts) (l := l) (j := j) hj)
    have hln1 := lnL_len (pointsP ts l) (pointsP ts l).length
    go_wp2_with (at_builtin; fail)
    generalize hLL : lnL (pointsP ts l) (pointsP ts l).length = LL at *
    clear hLL
    go_loopw [9, 10] (fun i _ wr => ∃ j : Nat, j ≤ LL.length ∧ i = .int .i64 j ∧ Below w4.heap.size w4 wr) (fun i _ _ => LL.length - (intOf i).toNat)
    case atStart => exact ⟨0, Nat.zero_le _, rfl, Below.refl _ _⟩
    case round =>
      obtain ⟨j, hj, rfl, hbw⟩ := hrel
      have HBW := Lib.hid hbw
      have HPW := Lib.hid (HP4.out.bels hbw)
      have hlw := HL_4.out.bel hbw
      have hptw := HPT_4.out.bel hbw
      clear hbw c0 c1
      by_cases hjl : j < LL.length
      · obtain ⟨hval, k, hk, hkl, hop, hvr⟩ := HLP.out j hjl
        have hpe : pointsP ts l = ptsP l := by unfold pointsP; rw [hval]; rfl
        rw [hpe] at hptw hpl hcp hln1 ⊢
        have HLAW := Lib.hid (fun m hm hne => alias_loan hval hkl hop (m := m) hm hne)
        have hn1 := ptsP_next1 l _ (List.getElem_mem hkl) (by intro h; rw [h] at hop; simp [loanB] at hop)
        obtain ⟨b3, o3, rfl, hb3, x0, -, x2⟩ := hlw.get hjl
        rw [hk] at x0
        rw [hvr] at x2
        obtain ⟨bp, op, cp', nv, e, hbp, hcp', hlp, hnx, p0, p1, p2, p3, p4⟩ := hptw.get hkl
        injection e with e1 e9 e2
        subst e1 e2
        obtain ⟨An, cn, rfl, hcn, hln, hrn⟩ := hnx
        simp only [List.length_map] at hcn hln p4
        generalize ((ptsP l)[k]).next = nx at *
        generalize ((ptsP l)[k]).x = px at *
        generalize ((ptsP l)[k]).y = py at *
        clear e9 hptw hlw hvr hk hop hpe p0 p2 p3
        obtain ⟨m, nr, rfl⟩ : ∃ m nr, nx = m :: nr := by cases nx with
          | nil => simp at hn1
          | cons m nr => exact ⟨m, nr, rfl⟩
        obtain ⟨bn, on, rfl, hbn, hcell⟩ := Rd.int_at (l := (m :: nr).map fun k => ((k : Nat) : Int)) (by simpa using hrn) (k := 0) (by simp)
        have hcm : wr.cell? ⟨bn, on, none⟩ = some (.int .i64 (m : Nat)) := by simpa using hcell 0 (by simp)
        have HAL := Lib.hid (HLAW.out m rfl)
        have hnn1 : 0 < (m :: nr).length := by simp
        generalize hnn : (m :: nr).length = nn at *
        have hgl := HPW.out.lt
        have c0 := HPW.out.c0
        have c1 := HPW.out.c1
        have HCC := Lib.hid (fun (w' : World) (hSw : Below wr.heap.size wr w') => (iCellsOf_any (.slice At ts.length ct) (.slice Ab l.length cb) ts l (k : Nat) py _ w' (HPW.out.ht.low hSw (Nat.le_refl _)) (HPW.out.hl.low hSw (Nat.le_refl _)) hSw.size (by omega)).mono (fun e w2 h => (by
          obtain ⟨v, e, hv, hb⟩ := h
          obtain ⟨A, c, e1, h1, h2, -⟩ := hv
          exact ⟨v, e, ⟨A, c, e1⟩, hSw.trans (hb.mono hSw.size)⟩ : ∃ v, e = .returned v ∧ (∃ A c, v = .slice A (flRes ts l Gcell Ccell (k : Nat) py).length c) ∧ Below wr.heap.size wr w2)))
        have HCA := Lib.hid (fun (w' : World) (hSw : Below wr.heap.size wr w') => (iMayAlias_any (.slice At ts.length ct) (.slice Ab l.length cb) ts l (m : Nat) px py _ w' (HPW.out.ht.low hSw (Nat.le_refl _)) (HPW.out.hl.low hSw (Nat.le_refl _)) hSw.size (by omega)).mono (fun e w2 h => (⟨_, h.1, rfl, hSw.trans (h.2.mono hSw.size)⟩ : ∃ v, e = .returned v ∧ v = .bool (aliasRes ts l (m : Nat) px py) ∧ Below wr.heap.size wr w2)))
        clear hcell hrn hnn HLAW hn1
        by_cases hz : (flRes ts l Gcell Ccell (k : Nat) py).length = 0
        · have hz1 : decide ((0 : Int) < ((flRes ts l Gcell Ccell (k : Nat) py).length : Nat)) = false := by simp [hz]
          generalize (flRes ts l Gcell Ccell (k : Nat) py).length = q at *
          go_wp2_with (at_builtin; fail)
          refine wp_region_seqV (Below wr.heap.size wr) (fun i => if i = 7 then some (fun v => ∃ A c, v = .slice A q c) else none) (by kernel_rfl) (by kernel_rfl) (Below.refl _ _).drew ?_
          repeat (first
            | (refine SeqV.skip (by rfl) ?_; (try simp only [Act.put, List.setIfInBounds_toArray, List.set_cons_zero, List.set_cons_succ]))
            | (refine SeqV.pure (v := ?_) (by rfl) (by rfl) (fun w' hSw => ?_) ?_; rotate_left; (obtain ⟨hc9, hf9⟩ := bcell hSw; go_simp; with_reducible rfl); (try simp only [Act.put, List.setIfInBounds_toArray, List.set_cons_zero, List.set_cons_succ]))
            | fail)
          refine SeqV.call (f := ?_) (args := ?_) _ (by rfl) (by rfl) (fun w' => ?_) (fun w' hSw => ?_) (fun v hv => ?_)
          rotate_left 2
          · go_simp; constructor; (with_reducible rfl); (with_reducible rfl)
          · exact HCC.out _ hSw
          obtain ⟨A7, c7, rfl⟩ := hv
          (try simp only [Act.put, List.setIfInBounds_toArray, List.set_cons_zero, List.set_cons_succ])
          repeat (first
            | (refine SeqV.skip (by rfl) ?_; (try simp only [Act.put, List.setIfInBounds_toArray, List.set_cons_zero, List.set_cons_succ]))
            | (refine SeqV.pure (v := ?_) (by rfl) (by rfl) (fun w' hSw => ?_) ?_; rotate_left; (obtain ⟨hc9, hf9⟩ := bcell hSw; go_simp; with_reducible rfl); (try simp only [Act.put, List.setIfInBounds_toArray, List.set_cons_zero, List.set_cons_succ]))
            | fail)
          intro w5 hb5
          go_wp2_with (at_builtin; fail)
          exact ⟨⟨j + 1, by omega, by go_num, HBW.out.trans (hb5.mono HBW.out.size)⟩, by simp [intOf] <;> omega⟩
        · have hz1 : decide ((0 : Int) < ((flRes ts l Gcell Ccell (k : Nat) py).length : Nat)) = true := by simp; omega
          have HT := HAL.out (fun h => hz (by rw [h]; rfl))
          rw [HT] at HCA
          generalize (flRes ts l Gcell Ccell (k : Nat) py).length = q at *
          have hz3 : 0 < q := by omega
          go_wp2_with (at_builtin; fail)
          refine wp_region_seqV (Below wr.heap.size wr) (fun i => if i = 7 then some (fun v => ∃ A c, v = .slice A q c) else if i = 29 then some (fun v => v = .bool true) else none) (by kernel_rfl) (by kernel_rfl) (Below.refl _ _).drew ?_
          repeat (first
            | (refine SeqV.skip (by rfl) ?_; (try simp only [Act.put, List.setIfInBounds_toArray, List.set_cons_zero, List.set_cons_succ]))
            | (refine SeqV.pure (v := ?_) (by rfl) (by rfl) (fun w' hSw => ?_) ?_; rotate_left; (obtain ⟨hc9, hf9⟩ := bcell hSw; go_simp; with_reducible rfl); (try simp only [Act.put, List.setIfInBounds_toArray, List.set_cons_zero, List.set_cons_succ]))
            | fail)
          refine SeqV.call (f := ?_) (args := ?_) _ (by rfl) (by rfl) (fun w' => ?_) (fun w' hSw => ?_) (fun v hv => ?_)
          rotate_left 2
          · go_simp; constructor; (with_reducible rfl); (with_reducible rfl)
          · exact HCC.out _ hSw
          obtain ⟨A7, c7, rfl⟩ := hv
          (try simp only [Act.put, List.setIfInBounds_toArray, List.set_cons_zero, List.set_cons_succ])
          repeat (first
            | (refine SeqV.skip (by rfl) ?_; (try simp only [Act.put, List.setIfInBounds_toArray, List.set_cons_zero, List.set_cons_succ]))
            | (refine SeqV.pure (v := ?_) (by rfl) (by rfl) (fun w' hSw => ?_) ?_; rotate_left; (obtain ⟨hc9, hf9⟩ := bcell hSw; go_simp; with_reducible rfl); (try simp only [Act.put, List.setIfInBounds_toArray, List.set_cons_zero, List.set_cons_succ]))
            | fail)
          refine SeqV.call (f := ?_) (args := ?_) _ (by rfl) (by rfl) (fun w' => ?_) (fun w' hSw => ?_) (fun v hv => ?_)
          rotate_left 2
          · go_simp; constructor; (with_reducible rfl); (with_reducible rfl)
          · exact HCA.out _ hSw
          obtain rfl := hv
          (try simp only [Act.put, List.setIfInBounds_toArray, List.set_cons_zero, List.set_cons_succ])
          repeat (first
            | (refine SeqV.skip (by rfl) ?_; (try simp only [Act.put, List.setIfInBounds_toArray, List.set_cons_zero, List.set_cons_succ]))
            | (refine SeqV.pure (v := ?_) (by rfl) (by rfl) (fun w' hSw => ?_) ?_; rotate_left; (obtain ⟨hc9, hf9⟩ := bcell hSw; go_simp; with_reducible rfl); (try simp only [Act.put, List.setIfInBounds_toArray, List.set_cons_zero, List.set_cons_succ]))
            | fail)
          intro w5 hb5
          go_wp2_with (at_builtin; fail)
          exact ⟨⟨j + 1, by omega, by go_num, HBW.out.trans (hb5.mono HBW.out.size)⟩, by simp [intOf] <;> omega⟩
      · go_wp2_with (at_builtin; fail)
        go_ret
        exact ⟨rfl, HPW.out.bel⟩
  · have hn1 : (1048576 : Int) < n := by omega
    unfold maxLen at hm
    go_enter Try.func8, Try.ntmps8
    go_wp2_with fail
    go_ret
    exact ⟨rfl, Below.refl _ _⟩

end Go.Proofs.Yteaddodjijlpjaa
