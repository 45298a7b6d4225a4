import Derived.Test.YtmaaaiccmllnlaaG25
import Derived.Test.YtmaaaiccmllnlaaG44
import Derived.Test.YtmaaaiccmllnlaaG41
import Derived.Test.YtmaaaiccmllnlaaG09
import Derived.Test.YtmaaaiccmllnlaaG10
import Derived.Test.YtmaaaiccmllnlaaG32
import Derived.Test.YtmaaaiccmllnlaaG24
import Derived.Test.YtmaaaiccmllnlaaG38
set_option linter.unusedVariables false

/- FnOwnLoan: the plain law, the walk. -/
namespace Go.Proofs.Ytmaaaiccmllnlaa
open Go.RowKit

theorem own_loan {ts : List Int} {l : List St} (hval : validP ts l = true) {k m : Nat} (hk : k < (ptsP l).length) (ho : loanB ((ptsP l)[k]).op = true) (hm : ((ptsP l)[k]).next[0]? = some m) : hasP (flRes ts l Gloan (Cloan ts) (m : Nat) ((ptsP l)[k]).x) (k : Nat) = true := by
  have G := Good.of_valid hval
  have hp := List.getElem?_eq_getElem hk
  generalize (ptsP l)[k] = p at *
  have ho' : p.op = 4 ∨ p.op = 5 := by simpa [loanB] using ho
  have hmem : m ∈ p.next := List.mem_of_getElem? hm
  have hml := G.next p (List.mem_of_getElem? hp) m hmem
  have hok : graphOk ts l [((m : Nat) : Int)] = true := by
    simp only [graphOk, hval, Bool.true_and, List.all_cons, List.all_nil, Bool.and_true, withinP, Bool.and_eq_true, decide_eq_true_eq]; omega
  have hs : simpleP ts p.op p.x p.y p.n = true := by
    rcases G.ok p (List.mem_of_getElem? hp) with h | h | h | h
    · omega
    · omega
    · omega
    · exact h
  have hx := typeOf_in (simple_x hs).2.2
  have hset : setsP p.op p.x = p.x := by
    unfold setsP; rcases ho' with h | h <;> simp [h]
  obtain ⟨x, hx'⟩ : ∃ x : Nat, p.x = x := ⟨p.x.toNat, by omega⟩
  have hfl : Fl ts (ptsP l) Gloan (Cloan ts) m x k := .gen hp hmem (by omega) (by rw [hset, hx']) (Gloan_iff.2 ⟨ho', rfl⟩)
  rw [hx']
  unfold flRes
  rw [if_pos ⟨hok, by simp [withinP]; omega⟩]
  unfold flS
  rw [lst_has, decide_eq_true hk, Bool.true_and]
  exact dec_true hfl
theorem loan_point {ts : List Int} {l : List St} {j : Nat} (hj : j < (lnL (pointsP ts l) (pointsP ts l).length).length) : validP ts l = true ∧ ∃ k : Nat, ((lnL (pointsP ts l) (pointsP ts l).length)[j]).pt = k ∧ ∃ hk : k < (ptsP l).length, loanB ((ptsP l)[k]).op = true ∧ ((lnL (pointsP ts l) (pointsP ts l).length)[j]).vr = ((ptsP l)[k]).y := by
  have h := lnL_get hj
  generalize (lnL (pointsP ts l) (pointsP ts l).length)[j] = x at *
  obtain ⟨h1, h2, -, h4⟩ := h
  by_cases hv : validP ts l = true
  · have e : pointsP ts l = ptsP l := by unfold pointsP; rw [if_pos hv]
    rw [e] at h1 h2 h4
    rw [ptD_get h1] at h2 h4
    exact ⟨hv, x.pt, rfl, h1, h2, h4⟩
  · have e : pointsP ts l = [] := by unfold pointsP; rw [if_neg hv]
    rw [e] at h1
    simp at h1

set_option maxHeartbeats 8000000
set_option maxRecDepth 100000
theorem fnOwnLoan_any (A : Option Addr) (n c : Nat) (w : World) (hb : Byt w w.heap.size A n) (hm : n ≤ maxLen) (hc : n ≤ c) :
    Calls Try.prog 9 #[.slice A n c] w (LawRet w) := by
  have HB := Lib.hid hb
  clear hb
  by_cases hn : n ≤ 1048576
  · go_enter Try.func9, Try.ntmps9
    go_wp2_with fail
    refine (drawLoansIn_any A n c _ HB.out hn hc).mono ?_
    rintro e w1 ⟨vt, vb, ts, l, a, v, rfl, hit, hst, hts, hsz, hb1⟩
    have HP1 := Lib.hid (PgB.new hit hst hb1)
    obtain ⟨At, ct, rfl, hct⟩ := hit.slice
    obtain ⟨Ab, cb, rfl, hcb⟩ := hst.slice
    clear hit hst hb1
    go_wp2_with fail
    generalize w1.alloc (.cells #[.slice At ts.length ct, .slice Ab l.length cb] 26) = W1 at *
    obtain ⟨g, hg⟩ : ∃ g, g = w1.heap.size := ⟨_, rfl⟩
    rw [← hg] at HP1 ⊢
    clear hg
    have hgl := HP1.out.lt
    have c0 := HP1.out.c0
    have c1 := HP1.out.c1
    have BEL : Hid (∀ w', w'.cell? ⟨g, 0, none⟩ = some (.slice At ts.length ct) ∧ w'.cell? ⟨g, 1, none⟩ = some (.slice Ab l.length cb) ∧ Below W1.heap.size W1 w' → Below W1.heap.size W1 w') := Lib.hid fun _ h => h.2.2
    refine wp_region_held_drew (S := (fun w' => w'.cell? ⟨g, 0, none⟩ = some (.slice At ts.length ct) ∧ w'.cell? ⟨g, 1, none⟩ = some (.slice Ab l.length cb) ∧ Below W1.heap.size W1 w')) (by kernel_rfl) ?_ (fun hHeld => ?_)
    · exact ⟨c0, c1, (Below.refl _ _).drew⟩
    refine wpAnyH_take (i := 0) (oi := ⟨some 19, _, _, _, _, _⟩) (v := ?_) rfl (by kernel_rfl) (by kernel_rfl) (by kernel_rfl) (fun _ _ _ h => h) (Or.inl ⟨by rfl, fun w' hSw => ?_⟩) (by assumption) ?_
    rotate_left
    · (try dsimp only at hSw); go_simp; (try with_reducible rfl)
    (try simp only [Act.put, List.setIfInBounds_toArray, List.set_cons_zero, List.set_cons_succ])
    refine wpAnyH_take (i := 1) (oi := ⟨some 20, _, _, _, _, _⟩) (v := ?_) rfl (by kernel_rfl) (by kernel_rfl) (by kernel_rfl) (fun _ _ _ h => h) (Or.inl ⟨by rfl, fun w' hSw => ?_⟩) (by assumption) ?_
    rotate_left
    · (try dsimp only at hSw); go_simp; (try with_reducible rfl)
    (try simp only [Act.put, List.setIfInBounds_toArray, List.set_cons_zero, List.set_cons_succ])
    refine wpAnyH_take (i := 2) (oi := ⟨some 21, _, _, _, _, _⟩) (v := ?_) rfl (by kernel_rfl) (by kernel_rfl) (by kernel_rfl) (fun _ _ _ h => h) (Or.inl ⟨by rfl, fun w' hSw => ?_⟩) (by assumption) ?_
    rotate_left
    · (try dsimp only at hSw); go_simp; (try with_reducible rfl)
    (try simp only [Act.put, List.setIfInBounds_toArray, List.set_cons_zero, List.set_cons_succ])
    refine wpAnyH_take (i := 4) (oi := ⟨some 23, _, _, _, _, _⟩) (v := ?_) rfl (by kernel_rfl) (by kernel_rfl) (by kernel_rfl) (fun _ _ _ h => h) (Or.inl ⟨by rfl, fun w' hSw => ?_⟩) (by assumption) ?_
    rotate_left
    · (try dsimp only at hSw); go_simp; (try with_reducible rfl)
    (try simp only [Act.put, List.setIfInBounds_toArray, List.set_cons_zero, List.set_cons_succ])
    refine wpAnyH_take (i := 5) (oi := ⟨some 24, _, _, _, _, _⟩) (v := ?_) rfl (by kernel_rfl) (by kernel_rfl) (by kernel_rfl) (fun _ _ _ h => h) (Or.inl ⟨by rfl, fun w' hSw => ?_⟩) (by assumption) ?_
    rotate_left
    · (try dsimp only at hSw); go_simp; (try with_reducible rfl)
    (try simp only [Act.put, List.setIfInBounds_toArray, List.set_cons_zero, List.set_cons_succ])
    refine wpAnyH_take (i := 6) (oi := ⟨some 25, _, _, _, _, _⟩) (v := ?_) rfl (by kernel_rfl) (by kernel_rfl) (by kernel_rfl) (fun _ _ _ h => h) (Or.inl ⟨by rfl, fun w' hSw => ?_⟩) (by assumption) ?_
    rotate_left
    · (try dsimp only at hSw); go_simp; (try with_reducible rfl)
    (try simp only [Act.put, List.setIfInBounds_toArray, List.set_cons_zero, List.set_cons_succ])
    refine wpAnyH_ready (rs := [3]) (by kernel_rfl) (by simp) ?_
    refine AllReadyH.cons (o := ⟨some 22, _, _, _, _, _⟩) rfl (fun K hK => ?_) AllReadyH.nil
    go_simp
    (refine (iLoansIn_any (.slice At ts.length ct) (.slice Ab l.length cb) ts l a v _ _ (HP1.out.ht.low (BEL.out _ (by assumption)) (Nat.le_refl _)) (HP1.out.hl.low (BEL.out _ (by assumption)) (Nat.le_refl _)) ((BEL.out _ (by assumption))).size (by omega)).mono ?_)
    (rintro e wa ⟨va, rfl, hva, hba⟩)
    (have BX2 := Lib.hid ((BEL.out _ (by assumption)).trans (hba.mono (BEL.out _ (by assumption)).size)))
    (have HVA := Lib.hid hva)
    clear hva hba
    go_simp
    refine hK.out _ _ ?_ (fun hHeld => ?_)
    · exact ⟨belC BX2.out c0 hgl, belC BX2.out c1 hgl, BX2.out⟩
    clear hK K
    (try simp only [Act.put, List.setIfInBounds_toArray, List.set_cons_zero, List.set_cons_succ])
    refine wpAnyH_ready (rs := [7]) (by kernel_rfl) (by simp) ?_
    refine AllReadyH.cons (o := ⟨some 26, _, _, _, _, _⟩) rfl (fun K hK => ?_) AllReadyH.nil
    go_simp
    (refine (sLoansIn_any (.slice At ts.length ct) (.slice Ab l.length cb) ts l a v _ _ (HP1.out.ht.low BX2.out (Nat.le_refl _)) (HP1.out.hl.low BX2.out (Nat.le_refl _)) (BX2.out).size (by omega)).mono ?_)
    (rintro e wb ⟨vb2, rfl, hvb, hbb⟩)
    (have BX3 := Lib.hid (BX2.out.trans (hbb.mono BX2.out.size)))
    (have HVA2 := Lib.hid (HVA.out.bel hbb))
    (have HVB := Lib.hid hvb)
    clear hvb hbb
    go_simp
    refine hK.out _ _ ?_ (fun hHeld => ?_)
    · exact ⟨belC BX3.out c0 hgl, belC BX3.out c1 hgl, BX3.out⟩
    clear hK K
    (try simp only [Act.put, List.setIfInBounds_toArray, List.set_cons_zero, List.set_cons_succ])
    refine wpAnyH_ready (rs := [8]) (by kernel_rfl) (by simp) ?_
    refine AllReadyH.cons (o := ⟨some 27, _, _, _, _, _⟩) rfl (fun K hK => ?_) AllReadyH.nil
    go_simp
    (refine (bcInts_any _ _ _ _ _ _ HVA2.out HVB.out).mono ?_)
    (rintro e w2 ⟨rfl, n2, rfl⟩)
    (rw [show eqP (flRes ts l Gloan (Cloan ts) a v) (flRes ts l Gloan (Cloan ts) a v) = true by simp [eqP]])
    (have hb2 := below_of_drewN (w := wb) ⟨n2, rfl⟩ wb.heap.size)
    (generalize wb.drewN n2 = w2 at *)
    (have BX4 := Lib.hid (BX3.out.trans (hb2.mono BX3.out.size)))
    clear hb2
    go_simp
    refine hK.out _ _ ?_ (fun hHeld => ?_)
    · exact ⟨belC BX4.out c0 hgl, belC BX4.out c1 hgl, BX4.out⟩
    clear hK K
    (try simp only [Act.put, List.setIfInBounds_toArray, List.set_cons_zero, List.set_cons_succ])
    refine wpAnyH_take (i := 9) (oi := ⟨some 28, _, _, _, _, _⟩) (v := ?_) rfl (by kernel_rfl) (by kernel_rfl) (by kernel_rfl) (fun _ _ _ h => h) (Or.inl ⟨by rfl, fun w' hSw => ?_⟩) (by assumption) ?_
    rotate_left
    · (try dsimp only at hSw); go_simp; (try with_reducible rfl)
    (try simp only [Act.put, List.setIfInBounds_toArray, List.set_cons_zero, List.set_cons_succ])
    refine wpAnyH_done (by kernel_rfl) ?_ _
    have hb2 := BX4.out
    clear BEL
    have HP2 := Lib.hid (HP1.out.bels hb2)
    clear c0 c1
    have c0 := HP2.out.c0
    have c1 := HP2.out.c1
    clear hb2
    go_wp2_with (at_builtin; fail)
    refine (iLoansOf_any _ _ ts l _ _ HP2.out.ht HP2.out.hl (Nat.le_refl _) (by omega)).mono ?_
    rintro e w3 ⟨v3, rfl, hv3, hb3⟩
    have HL_3 := Lib.hid hv3
    obtain ⟨A3, k3, rfl, hk3⟩ := hv3.slice
    clear hv3
    have HP3 := Lib.hid (HP2.out.bels hb3)
    clear c0 c1
    have c0 := HP3.out.c0
    have c1 := HP3.out.c1
    clear hb3
    go_wp2_with (at_builtin; fail)
    refine (iPointsOf_any _ _ ts l _ _ HP3.out.ht HP3.out.hl (Nat.le_refl _) (by omega)).mono ?_
    rintro e w4 ⟨v4, rfl, hv4, hb4⟩
    have HPT_4 := Lib.hid hv4
    obtain ⟨Ap, cp, rfl, hcp, hpl⟩ := hv4.slice
    clear hv4
    have HL_4 := Lib.hid (HL_3.out.bel hb4)
    have HP4 := Lib.hid (HP3.out.bels hb4)
    clear c0 c1
    have c0 := HP4.out.c0
    have c1 := HP4.out.c1
    clear hb4
    have HLP := Lib.hid (fun j hj => loan_point (ts := ts) (l := l) (j := j) hj)
    have hln1 := lnL_len (pointsP ts l) (pointsP ts l).length
    go_wp2_with (at_builtin; fail)
    generalize hLL : lnL (pointsP ts l) (pointsP ts l).length = LL at *
    clear hLL
    go_loopw [8, 9] (fun i _ wr => ∃ j : Nat, j ≤ LL.length ∧ i = .int .i64 j ∧ Below w4.heap.size w4 wr) (fun i _ _ => LL.length - (intOf i).toNat)
    case atStart => exact ⟨0, Nat.zero_le _, rfl, Below.refl _ _⟩
    case round =>
      obtain ⟨j, hj, rfl, hbw⟩ := hrel
      have HBW := Lib.hid hbw
      have HPW := Lib.hid (HP4.out.bels hbw)
      have hlw := HL_4.out.bel hbw
      have hptw := HPT_4.out.bel hbw
      clear hbw c0 c1
      by_cases hjl : j < LL.length
      · obtain ⟨hval, k, hk, hkl, hop, -⟩ := HLP.out j hjl
        have hpe : pointsP ts l = ptsP l := by unfold pointsP; rw [hval]; rfl
        rw [hpe] at hptw hpl hcp hln1 ⊢
        have HLAW := Lib.hid (fun m hm => own_loan hval hkl hop (m := m) hm)
        have hn1 := ptsP_next1 l _ (List.getElem_mem hkl) (by intro h; rw [h] at hop; simp [loanB] at hop)
        obtain ⟨b3, o3, rfl, hb3, x0, -, -⟩ := hlw.get hjl
        rw [hk] at x0
        obtain ⟨bp, op, cp', nv, e, hbp, hcp', hlp, hnx, p0, p1, p2, p3, p4⟩ := hptw.get hkl
        injection e with e1 e9 e2
        subst e1 e2
        obtain ⟨An, cn, rfl, hcn, hln, hrn⟩ := hnx
        simp only [List.length_map] at hcn hln p4
        generalize ((ptsP l)[k]).next = nx at *
        generalize ((ptsP l)[k]).x = px at *
        clear e9 hptw hlw hk hop hpe p0 p2 p3
        obtain ⟨m, nr, rfl⟩ : ∃ m nr, nx = m :: nr := by cases nx with
          | nil => simp at hn1
          | cons m nr => exact ⟨m, nr, rfl⟩
        obtain ⟨bn, on, rfl, hbn, hcell⟩ := Rd.int_at (l := (m :: nr).map fun k => ((k : Nat) : Int)) (by simpa using hrn) (k := 0) (by simp)
        have hcm : wr.cell? ⟨bn, on, none⟩ = some (.int .i64 (m : Nat)) := by simpa using hcell 0 (by simp)
        have HAL := Lib.hid (HLAW.out m rfl)
        have hnn1 : 0 < (m :: nr).length := by simp
        generalize (m :: nr).length = nn at *
        have hgl := HPW.out.lt
        have c0 := HPW.out.c0
        have c1 := HPW.out.c1
        have BEL : Hid (∀ w', w'.cell? ⟨g, 0, none⟩ = some (.slice At ts.length ct) ∧ w'.cell? ⟨g, 1, none⟩ = some (.slice Ab l.length cb) ∧ w'.cell? ⟨bp, op + k * 5 + 1, none⟩ = some (.int .i64 px) ∧ w'.cell? ⟨bp, op + k * 5 + 4, none⟩ = some (.slice (some ⟨bn, on, none⟩) nn cn) ∧ w'.cell? ⟨bn, on, none⟩ = some (.int .i64 (m : Nat)) ∧ Below wr.heap.size wr w' → Below wr.heap.size wr w') := Lib.hid fun _ h => h.2.2.2.2.2
        clear hcell hrn HLAW hn1 HLP
        go_wp2_with (at_builtin; fail)
        refine wp_region_held_drew (S := (fun w' => w'.cell? ⟨g, 0, none⟩ = some (.slice At ts.length ct) ∧ w'.cell? ⟨g, 1, none⟩ = some (.slice Ab l.length cb) ∧ w'.cell? ⟨bp, op + k * 5 + 1, none⟩ = some (.int .i64 px) ∧ w'.cell? ⟨bp, op + k * 5 + 4, none⟩ = some (.slice (some ⟨bn, on, none⟩) nn cn) ∧ w'.cell? ⟨bn, on, none⟩ = some (.int .i64 (m : Nat)) ∧ Below wr.heap.size wr w')) (by kernel_rfl) ?_ (fun hHeld => ?_)
        · exact ⟨c0, c1, p1, p4, hcm, (Below.refl _ _).drew⟩
        refine wpAnyH_take (i := 0) (oi := ⟨some 44, _, _, _, _, _⟩) (v := ?_) rfl (by kernel_rfl) (by kernel_rfl) (by kernel_rfl) (fun _ _ _ h => h) (Or.inl ⟨by rfl, fun w' hSw => ?_⟩) (by assumption) ?_
        rotate_left
        · (try dsimp only at hSw); go_simp; (try with_reducible rfl)
        (try simp only [Act.put, List.setIfInBounds_toArray, List.set_cons_zero, List.set_cons_succ])
        refine wpAnyH_take (i := 1) (oi := ⟨some 45, _, _, _, _, _⟩) (v := ?_) rfl (by kernel_rfl) (by kernel_rfl) (by kernel_rfl) (fun _ _ _ h => h) (Or.inl ⟨by rfl, fun w' hSw => ?_⟩) (by assumption) ?_
        rotate_left
        · (try dsimp only at hSw); go_simp; (try with_reducible rfl)
        (try simp only [Act.put, List.setIfInBounds_toArray, List.set_cons_zero, List.set_cons_succ])
        refine wpAnyH_take (i := 2) (oi := ⟨some 46, _, _, _, _, _⟩) (v := ?_) rfl (by kernel_rfl) (by kernel_rfl) (by kernel_rfl) (fun _ _ _ h => h) (Or.inl ⟨by rfl, fun w' hSw => ?_⟩) (by assumption) ?_
        rotate_left
        · (try dsimp only at hSw); go_simp; (try with_reducible rfl)
        (try simp only [Act.put, List.setIfInBounds_toArray, List.set_cons_zero, List.set_cons_succ])
        refine wpAnyH_take (i := 3) (oi := ⟨some 47, _, _, _, _, _⟩) (v := ?_) rfl (by kernel_rfl) (by kernel_rfl) (by kernel_rfl) (fun _ _ _ h => h) (Or.inl ⟨by rfl, fun w' hSw => ?_⟩) (by assumption) ?_
        rotate_left
        · (try dsimp only at hSw); go_simp; (try with_reducible rfl)
        (try simp only [Act.put, List.setIfInBounds_toArray, List.set_cons_zero, List.set_cons_succ])
        refine wpAnyH_take (i := 4) (oi := ⟨some 48, _, _, _, _, _⟩) (v := ?_) rfl (by kernel_rfl) (by kernel_rfl) (by kernel_rfl) (fun _ _ _ h => h) (Or.inl ⟨by rfl, fun w' hSw => ?_⟩) (by assumption) ?_
        rotate_left
        · (try dsimp only at hSw); go_simp; (try with_reducible rfl)
        (try simp only [Act.put, List.setIfInBounds_toArray, List.set_cons_zero, List.set_cons_succ])
        refine wpAnyH_take (i := 5) (oi := ⟨some 49, _, _, _, _, _⟩) (v := ?_) rfl (by kernel_rfl) (by kernel_rfl) (by kernel_rfl) (fun _ _ _ h => h) (Or.inl ⟨by rfl, fun w' hSw => ?_⟩) (by assumption) ?_
        rotate_left
        · (try dsimp only at hSw); go_simp; (try with_reducible rfl)
        (try simp only [Act.put, List.setIfInBounds_toArray, List.set_cons_zero, List.set_cons_succ])
        refine wpAnyH_take (i := 6) (oi := ⟨some 50, _, _, _, _, _⟩) (v := ?_) rfl (by kernel_rfl) (by kernel_rfl) (by kernel_rfl) (fun _ _ _ h => h) (Or.inl ⟨by rfl, fun w' hSw => ?_⟩) (by assumption) ?_
        rotate_left
        · (try dsimp only at hSw); go_simp; (try with_reducible rfl)
        (try simp only [Act.put, List.setIfInBounds_toArray, List.set_cons_zero, List.set_cons_succ])
        refine wpAnyH_take (i := 7) (oi := ⟨some 51, _, _, _, _, _⟩) (v := ?_) rfl (by kernel_rfl) (by kernel_rfl) (by kernel_rfl) (fun _ _ _ h => h) (Or.inl ⟨by rfl, fun w' hSw => ?_⟩) (by assumption) ?_
        rotate_left
        · (try dsimp only at hSw); go_simp; (try with_reducible rfl)
        (try simp only [Act.put, List.setIfInBounds_toArray, List.set_cons_zero, List.set_cons_succ])
        refine wpAnyH_take (i := 8) (oi := ⟨some 52, _, _, _, _, _⟩) (v := ?_) rfl (by kernel_rfl) (by kernel_rfl) (by kernel_rfl) (fun _ _ _ h => h) (Or.inl ⟨by rfl, fun w' hSw => ?_⟩) (by assumption) ?_
        rotate_left
        · (try dsimp only at hSw); go_simp; (try with_reducible rfl)
        (try simp only [Act.put, List.setIfInBounds_toArray, List.set_cons_zero, List.set_cons_succ])
        refine wpAnyH_take (i := 9) (oi := ⟨some 53, _, _, _, _, _⟩) (v := ?_) rfl (by kernel_rfl) (by kernel_rfl) (by kernel_rfl) (fun _ _ _ h => h) (Or.inl ⟨by rfl, fun w' hSw => ?_⟩) (by assumption) ?_
        rotate_left
        · (try dsimp only at hSw); go_simp; (try with_reducible rfl)
        (try simp only [Act.put, List.setIfInBounds_toArray, List.set_cons_zero, List.set_cons_succ])
        refine wpAnyH_take (i := 10) (oi := ⟨some 54, _, _, _, _, _⟩) (v := ?_) rfl (by kernel_rfl) (by kernel_rfl) (by kernel_rfl) (fun _ _ _ h => h) (Or.inl ⟨by rfl, fun w' hSw => ?_⟩) (by assumption) ?_
        rotate_left
        · (try dsimp only at hSw); go_simp; (try with_reducible rfl)
        (try simp only [Act.put, List.setIfInBounds_toArray, List.set_cons_zero, List.set_cons_succ])
        refine wpAnyH_take (i := 11) (oi := ⟨some 55, _, _, _, _, _⟩) (v := ?_) rfl (by kernel_rfl) (by kernel_rfl) (by kernel_rfl) (fun _ _ _ h => h) (Or.inl ⟨by rfl, fun w' hSw => ?_⟩) (by assumption) ?_
        rotate_left
        · (try dsimp only at hSw); go_simp; (try with_reducible rfl)
        (try simp only [Act.put, List.setIfInBounds_toArray, List.set_cons_zero, List.set_cons_succ])
        refine wpAnyH_take (i := 12) (oi := ⟨some 56, _, _, _, _, _⟩) (v := ?_) rfl (by kernel_rfl) (by kernel_rfl) (by kernel_rfl) (fun _ _ _ h => h) (Or.inl ⟨by rfl, fun w' hSw => ?_⟩) (by assumption) ?_
        rotate_left
        · (try dsimp only at hSw); go_simp; (try with_reducible rfl)
        (try simp only [Act.put, List.setIfInBounds_toArray, List.set_cons_zero, List.set_cons_succ])
        refine wpAnyH_take (i := 14) (oi := ⟨some 58, _, _, _, _, _⟩) (v := ?_) rfl (by kernel_rfl) (by kernel_rfl) (by kernel_rfl) (fun _ _ _ h => h) (Or.inl ⟨by rfl, fun w' hSw => ?_⟩) (by assumption) ?_
        rotate_left
        · (try dsimp only at hSw); go_simp; (try with_reducible rfl)
        (try simp only [Act.put, List.setIfInBounds_toArray, List.set_cons_zero, List.set_cons_succ])
        refine wpAnyH_ready (rs := [13]) (by kernel_rfl) (by simp) ?_
        refine AllReadyH.cons (o := ⟨some 57, _, _, _, _, _⟩) rfl (fun K hK => ?_) AllReadyH.nil
        go_simp
        (refine (iLoansIn_any (.slice At ts.length ct) (.slice Ab l.length cb) ts l (m : Nat) px _ _ (HPW.out.ht.low (BEL.out _ (by assumption)) (Nat.le_refl _)) (HPW.out.hl.low (BEL.out _ (by assumption)) (Nat.le_refl _)) (BEL.out _ (by assumption)).size (by omega)).mono ?_)
        (rintro e w8 ⟨v8, rfl, hv8, hb8⟩)
        (have BX8 := Lib.hid ((BEL.out _ (by assumption)).trans (hb8.mono (BEL.out _ (by assumption)).size)))
        (have HV8 := Lib.hid hv8)
        clear hv8 hb8
        go_simp
        refine hK.out _ _ ?_ (fun hHeld => ?_)
        · exact ⟨belC BX8.out c0 hgl, belC BX8.out c1 hgl, belC BX8.out p1 hbp, belC BX8.out p4 hbp, belC BX8.out hcm hbn, BX8.out⟩
        clear hK K
        (try simp only [Act.put, List.setIfInBounds_toArray, List.set_cons_zero, List.set_cons_succ])
        refine wpAnyH_ready (rs := [15]) (by kernel_rfl) (by simp) ?_
        refine AllReadyH.cons (o := ⟨some 59, _, _, _, _, _⟩) rfl (fun K hK => ?_) AllReadyH.nil
        go_simp
        (refine (bcIn_any _ _ _ _ _ HV8.out).mono ?_)
        (rintro e w9 ⟨rfl, rfl⟩)
        (rw [HAL.out])
        go_simp
        refine hK.out _ _ ?_ (fun hHeld => ?_)
        · exact ⟨belC BX8.out c0 hgl, belC BX8.out c1 hgl, belC BX8.out p1 hbp, belC BX8.out p4 hbp, belC BX8.out hcm hbn, BX8.out⟩
        clear hK K
        (try simp only [Act.put, List.setIfInBounds_toArray, List.set_cons_zero, List.set_cons_succ])
        refine wpAnyH_take (i := 16) (oi := ⟨some 60, _, _, _, _, _⟩) (v := ?_) rfl (by kernel_rfl) (by kernel_rfl) (by kernel_rfl) (fun _ _ _ h => h) (Or.inl ⟨by rfl, fun w' hSw => ?_⟩) (by assumption) ?_
        rotate_left
        · (try dsimp only at hSw); go_simp; (try with_reducible rfl)
        (try simp only [Act.put, List.setIfInBounds_toArray, List.set_cons_zero, List.set_cons_succ])
        refine wpAnyH_done (by kernel_rfl) ?_ _
        go_wp2_with (at_builtin; fail)
        exact ⟨⟨j + 1, by omega, by go_num, HBW.out.trans (BX8.out.mono HBW.out.size)⟩, by simp [intOf] <;> omega⟩
      · clear hlw hptw
        go_wp2_with (at_builtin; fail)
        go_ret
        exact ⟨rfl, HPW.out.bel⟩
  · have hn1 : (1048576 : Int) < n := by omega
    unfold maxLen at hm
    go_enter Try.func9, Try.ntmps9
    go_wp2_with fail
    go_ret
    exact ⟨rfl, Below.refl _ _⟩

end Go.Proofs.Ytmaaaiccmllnlaa
