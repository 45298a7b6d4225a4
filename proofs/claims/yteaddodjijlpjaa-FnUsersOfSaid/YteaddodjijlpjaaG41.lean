import Derived.Test.YteaddodjijlpjaaG25
import Derived.Test.YteaddodjijlpjaaG29
import Derived.Test.YteaddodjijlpjaaG35
import Derived.Test.YteaddodjijlpjaaG09
import Derived.Test.YteaddodjijlpjaaG10
import Derived.Test.YteaddodjijlpjaaG38
import Derived.Test.YteaddodjijlpjaaG24
import Derived.Test.YteaddodjijlpjaaG34
set_option linter.unusedVariables false

/- FnUsersOf: the plain law, the walk. -/
namespace Go.Proofs.Yteaddodjijlpjaa
open Go.RowKit

theorem graphOk_at {ts : List Int} {l : List St} {i : Nat} (hv : validP ts l = true) (hk : i < (ptsP l).length) : graphOk ts l [((i : Nat) : Int)] = true := by
  simp only [graphOk, hv, Bool.true_and, List.all_cons, List.all_nil, Bool.and_true, withinP, Bool.and_eq_true, decide_eq_true_eq]; omega
theorem user_none {ts : List Int} {l : List St} {a : Int} (h : setRes ts l a < 0) : userRes ts l a = [] := by
  unfold userRes; rw [if_neg (fun h2 => by omega)]
theorem user_pts {ts : List Int} {l : List St} {a : Int} (h : 0 ≤ setRes ts l a) : validP ts l = true := by
  unfold setRes at h
  split at h
  · rename_i hok; exact (graphOk_one hok).1
  · omega
/-- a point uses the value if and only if it uses the variable and its setter reaches it -/
theorem user_at {ts : List Int} {l : List St} {a : Int} (h : 0 ≤ setRes ts l a) {i : Nat} (hi : i < (ptsP l).length) : hasP (userRes ts l a) (i : Nat) = (useRes ts l (i : Nat) (setRes ts l a) != 0 && hasP (flRes ts l Gset Cset (i : Nat) (setRes ts l a)) a) := by
  have hok : graphOk ts l [a] = true := by unfold setRes at h; split at h; assumption; omega
  obtain ⟨hv, k, rfl, hk⟩ := graphOk_one hok
  have G := Good.of_valid hv
  have hsr : setRes ts l (k : Nat) = setsP (ptsP l)[k].op (ptsP l)[k].x := by unfold setRes; rw [if_pos hok, ptAt_nat hk]
  have hlt := (G.ok _ (List.getElem_mem hk)).sets
  have hoki := graphOk_at (i := i) hv hi
  rw [← hsr] at hlt
  obtain ⟨x, hx⟩ : ∃ x : Nat, setRes ts l (k : Nat) = x := ⟨(setRes ts l (k : Nat)).toNat, by omega⟩
  rw [hx] at hlt
  have hw : withinP (x : Nat) 0 ((ts.length : Int) - 1) = true := by simp [withinP]; omega
  unfold userRes useRes flRes
  rw [hx, if_pos ⟨hok, by omega⟩, if_pos ⟨hoki, hw⟩, if_pos ⟨hoki, hw⟩, ptAt_nat hi, lst_has, decide_eq_true hi, Bool.true_and]
  unfold flS usesB
  rw [lst_has, decide_eq_true hk, Bool.true_and, List.getElem?_eq_getElem hi]
  simp
theorem user_len {ts : List Int} {l : List St} {a : Int} (h : 0 ≤ setRes ts l a) : hasP (liveRes ts l a) (setRes ts l a) = decide ((0 : Int) < (userRes ts l a).length) := by
  have hok : graphOk ts l [a] = true := by unfold setRes at h; split at h; assumption; omega
  obtain ⟨hv, k, rfl, hk⟩ := graphOk_one hok
  have G := Good.of_valid hv
  have hsr : setRes ts l (k : Nat) = setsP (ptsP l)[k].op (ptsP l)[k].x := by unfold setRes; rw [if_pos hok, ptAt_nat hk]
  have hlt := (G.ok _ (List.getElem_mem hk)).sets
  obtain ⟨x, hx⟩ : ∃ x : Nat, setsP (ptsP l)[k].op (ptsP l)[k].x = x := ⟨(setsP (ptsP l)[k].op (ptsP l)[k].x).toNat, by omega⟩
  have hxl : x < ts.length := by omega
  have hU : userRes ts l (k : Nat) = lst (ptsP l).length (fun i => usesB ts (ptsP l) x i && dec (Fl ts (ptsP l) Gset Cset i x k)) := by
    unfold userRes
    rw [hsr, hx, if_pos ⟨hok, by omega⟩]
    rfl
  have hL : hasP (liveRes ts l (k : Nat)) (x : Nat) = ((ptsP l)[k]).next.any fun j => dec (Nd ts (ptsP l) j x) := by
    unfold liveRes liveAt
    rw [if_pos hok, lst_has, decide_eq_true hxl, Bool.true_and, Int.toNat_natCast, List.getElem?_eq_getElem hk]
  rw [hsr, hx, hL, hU, Bool.eq_iff_iff, decide_eq_true_eq, List.any_eq_true]
  constructor
  · rintro ⟨j, hj, hn⟩
    have hgen : Fl ts (ptsP l) Gset Cset j x k := .gen (List.getElem?_eq_getElem hk) hj hxl hx (by simp [Gset])
    obtain ⟨i, p, hp, hu, hf⟩ := (dec_iff.1 hn).user hgen
    have hil : i < (ptsP l).length := (List.getElem?_eq_some_iff.1 hp).1
    have hmem : ((i : Nat) : Int) ∈ lst (ptsP l).length (fun i => usesB ts (ptsP l) x i && dec (Fl ts (ptsP l) Gset Cset i x k)) := lst_mem.2 ⟨i, hil, by rw [dec_true hf, Bool.and_true]; unfold usesB; rw [hp]; simpa using hu, rfl⟩
    have := List.length_pos_of_mem hmem
    omega
  · intro h
    obtain ⟨y, hm⟩ := List.exists_mem_of_length_pos (show 0 < (lst (ptsP l).length (fun i => usesB ts (ptsP l) x i && dec (Fl ts (ptsP l) Gset Cset i x k))).length by omega)
    obtain ⟨i, hi, hf, rfl⟩ := lst_mem.1 hm
    rw [Bool.and_eq_true] at hf
    have hu := hf.1
    unfold usesB at hu
    rw [List.getElem?_eq_getElem hi] at hu
    obtain ⟨p, hp, -, j, hj, hn⟩ := (dec_iff.1 hf.2).used (.use (List.getElem?_eq_getElem hi) hxl (by simpa using hu))
    rw [List.getElem?_eq_getElem hk] at hp
    injection hp with hp
    exact ⟨j, by rw [hp]; exact hj, dec_true hn⟩

set_option maxHeartbeats 8000000
set_option maxRecDepth 100000
theorem fnUsersOf_any (A : Option Addr) (n c : Nat) (w : World) (hb : Byt w w.heap.size A n) (hm : n ≤ maxLen) (hc : n ≤ c) :
    Calls Try.prog 9 #[.slice A n c] w (LawRet w) := by
  have HB := Lib.hid hb
  clear hb
  by_cases hn : n ≤ 1048576
  · go_enter Try.func9, Try.ntmps9
    go_wp2_with fail
    refine (drawUsersOf_any A n c _ HB.out hn hc).mono ?_
    rintro e w1 ⟨vt, vb, ts, l, a, rfl, hit, hst, hts, hsz, hb1⟩
    have HP1 := Lib.hid (PgB.new hit hst hb1)
    obtain ⟨At, ct, rfl, hct⟩ := hit.slice
    obtain ⟨Ab, cb, rfl, hcb⟩ := hst.slice
    clear hit hst hb1
    go_wp2_with fail
    generalize w1.alloc (.cells #[.slice At ts.length ct, .slice Ab l.length cb] 26) = W1 at *
    obtain ⟨g, hg⟩ : ∃ g, g = w1.heap.size := ⟨_, rfl⟩
    rw [← hg] at HP1 ⊢
    clear hg
    refine (iUsersOf_any _ _ ts l a _ _ HP1.out.ht HP1.out.hl (Nat.le_refl _) (by omega)).mono ?_
    rintro e w2 ⟨v2, rfl, hv2, hb2⟩
    have HV_2 := Lib.hid hv2
    clear hv2
    have HP2 := Lib.hid (HP1.out.bels hb2)
    have c0 := HP2.out.c0
    have c1 := HP2.out.c1
    clear hb2
    go_wp2_with (at_builtin; fail)
    refine (iSetBy_any _ _ ts l a _ _ HP2.out.ht HP2.out.hl (Nat.le_refl _) (by omega)).mono ?_
    rintro e w3 ⟨rfl, hb3⟩
    have HV_3 := Lib.hid (HV_2.out.bel hb3)
    have HP3 := Lib.hid (HP2.out.bels hb3)
    clear c0 c1
    have c0 := HP3.out.c0
    have c1 := HP3.out.c1
    clear hb3
    have HNO := Lib.hid (fun h => user_none (ts := ts) (l := l) (a := a) h)
    have HVA := Lib.hid (fun h => user_pts (ts := ts) (l := l) (a := a) h)
    have HAT := Lib.hid (fun h i hi => user_at (ts := ts) (l := l) (a := a) h (i := i) hi)
    have HLE := Lib.hid (fun h => user_len (ts := ts) (l := l) (a := a) h)
    generalize setRes ts l a = v at *
    go_wp2_with (at_builtin; fail)
    refine (sUsersOf_any _ _ ts l a _ _ HP3.out.ht HP3.out.hl (Nat.le_refl _) (by omega)).mono ?_
    rintro e w4 ⟨v4, rfl, hv4, hb4⟩
    have HS_4 := Lib.hid hv4
    clear hv4
    have HV_4 := Lib.hid (HV_3.out.bel hb4)
    have HP4 := Lib.hid (HP3.out.bels hb4)
    clear c0 c1
    have c0 := HP4.out.c0
    have c1 := HP4.out.c1
    clear hb4
    go_wp2_with (at_builtin; fail)
    refine (bcInts_any _ _ _ _ _ _ HV_4.out HS_4.out).mono ?_
    rintro e w5 ⟨rfl, n5, rfl⟩
    rw [show eqP (userRes ts l a) (userRes ts l a) = true by simp [eqP]]
    have hb5 := below_of_drewN (w := w4) ⟨n5, rfl⟩ w4.heap.size
    have HV_5 := Lib.hid (HV_4.out.bel hb5)
    have HS_5 := Lib.hid (HS_4.out.bel hb5)
    have HP5 := Lib.hid (HP4.out.bels hb5)
    clear c0 c1
    have c0 := HP5.out.c0
    have c1 := HP5.out.c1
    clear hb5
    generalize w4.drewN n5 = w5 at *
    by_cases hv0 : v < 0
    · have hv1 : decide (v < 0) = true := by simpa using hv0
      have hv2 : decide (v ≥ 0) = false := by simpa using hv0
      have HR0 := Lib.hid (HNO.out hv0)
      go_wp2_with (at_builtin; fail)
      refine (sUsersOf_any _ _ ts l a _ _ HP5.out.ht HP5.out.hl (Nat.le_refl _) (by omega)).mono ?_
      rintro e w6 ⟨v6, rfl, hv6, hb6⟩
      have HT_6 := Lib.hid hv6
      clear hv6
      have HV_6 := Lib.hid (HV_5.out.bel hb6)
      have HS_6 := Lib.hid (HS_5.out.bel hb6)
      have HP6 := Lib.hid (HP5.out.bels hb6)
      clear c0 c1
      have c0 := HP6.out.c0
      have c1 := HP6.out.c1
      clear hb6
      go_wp2_with fail
      refine (bcInts_any _ _ _ _ _ _ HV_6.out HT_6.out).mono ?_
      rintro e w7 ⟨rfl, n7, rfl⟩
      rw [show eqP (userRes ts l a) (userRes ts l a) = true by simp [eqP]]
      have hb7 := below_of_drewN (w := w6) ⟨n7, rfl⟩ w6.heap.size
      have HV_7 := Lib.hid (HV_6.out.bel hb7)
      have HS_7 := Lib.hid (HS_6.out.bel hb7)
      have HT_7 := Lib.hid (HT_6.out.bel hb7)
      have HP7 := Lib.hid (HP6.out.bels hb7)
      clear c0 c1
      have c0 := HP7.out.c0
      have c1 := HP7.out.c1
      clear hb7
      generalize w6.drewN n7 = w7 at *
      have hvn := HV_7.out
      rw [HR0.out] at hvn
      obtain ⟨A2, c2, rfl, -, -, -⟩ := hvn
      simp only [List.length_nil]
      go_wp2_with (at_builtin; fail)
      go_ret
      exact ⟨rfl, HP7.out.bel⟩
    · have hv1 : decide (v < 0) = false := by simpa using hv0
      have hvp : 0 ≤ v := by omega
      have HVAL := Lib.hid (HVA.out hvp)
      have HATT := Lib.hid (HAT.out hvp)
      have HLEN := Lib.hid (HLE.out hvp)
      go_wp2_with (at_builtin; fail)
      refine (iPointsOf_any _ _ ts l _ _ HP5.out.ht HP5.out.hl (Nat.le_refl _) (by omega)).mono ?_
      rintro e w6 ⟨v6, rfl, hv6, hb6⟩
      have HPT_6 := Lib.hid hv6
      obtain ⟨Ap, cp, rfl, hcp, hpl⟩ := hv6.slice
      clear hv6
      have HV_6 := Lib.hid (HV_5.out.bel hb6)
      have HS_6 := Lib.hid (HS_5.out.bel hb6)
      have HP6 := Lib.hid (HP5.out.bels hb6)
      clear c0 c1
      have c0 := HP6.out.c0
      have c1 := HP6.out.c1
      clear hb6
      have hpe : pointsP ts l = ptsP l := by unfold pointsP; rw [HVAL.out]; rfl
      rw [hpe] at hpl hcp ⊢
      clear hpe
      generalize userRes ts l a = r at *
      obtain ⟨A2, c2, rfl, hc2, hm2, -⟩ := HV_6.out
      go_wp2_with (at_builtin; fail)
      generalize hnp : (ptsP l).length = np at *
      go_loopw [8] (fun i wr => ∃ j : Nat, j ≤ np ∧ i = .int .i64 j ∧ Below w6.heap.size w6 wr) (fun i _ => np - (intOf i).toNat)
      case atStart => exact ⟨0, Nat.zero_le _, rfl, Below.refl _ _⟩
      case round =>
        obtain ⟨j, hj, rfl, hbw⟩ := hrel
        have HBW := Lib.hid hbw
        have HPW := Lib.hid (HP6.out.bels hbw)
        have HVW := Lib.hid (HV_6.out.bel hbw)
        clear hbw c0 c1
        have c0 := HPW.out.c0
        have c1 := HPW.out.c1
        have hgl := HPW.out.lt
        by_cases hjl : j < np
        · have HAJ := Lib.hid (HATT.out j hjl)
          have BEL : Hid (∀ w', w'.cell? ⟨g, 0, none⟩ = some (.slice At ts.length ct) ∧ w'.cell? ⟨g, 1, none⟩ = some (.slice Ab l.length cb) ∧ Below wr.heap.size wr w' → Below wr.heap.size wr w') := Lib.hid fun _ h => h.2.2
          have HUJ : Hid (∀ w', Below wr.heap.size wr w' → Calls Try.prog 34 #[.agg #[.slice At ts.length ct, .slice Ab l.length cb], .int .i64 (j : Nat), .int .i64 v] w' fun e w'' => e = .returned (.int .i64 (useRes ts l (j : Nat) v)) ∧ Below wr.heap.size wr w'') := Lib.hid fun w' h => (iUseOf_any _ _ ts l (j : Nat) v _ w' (HPW.out.ht.low h (Nat.le_refl _)) (HPW.out.hl.low h (Nat.le_refl _)) h.size (by omega)).mono fun e w'' ⟨he, hb⟩ => ⟨he, h.trans (hb.mono h.size)⟩
          obtain ⟨u, hu⟩ : ∃ u, u = useRes ts l (j : Nat) v := ⟨_, rfl⟩
          rw [← hu] at HAJ HUJ
          clear hu
          cases hu0 : (u != 0)
          · have HH : Hid (hasP r (j : Nat) = false) := Lib.hid (by rw [HAJ.out, hu0]; rfl)
            go_wp2_with (at_builtin; fail)
            refine wp_region_held_drew (S := (fun w' => w'.cell? ⟨g, 0, none⟩ = some (.slice At ts.length ct) ∧ w'.cell? ⟨g, 1, none⟩ = some (.slice Ab l.length cb) ∧ Below wr.heap.size wr w')) (by kernel_rfl) ?_ (fun hHeld => ?_)
            · exact ⟨c0, c1, (Below.refl _ _).drew⟩
            refine wpAnyH_take (i := 0) (oi := ⟨some 55, _, _, _, _, _⟩) (v := ?_) rfl (by kernel_rfl) (by kernel_rfl) (by kernel_rfl) (fun _ _ _ h => h) (Or.inl ⟨by rfl, fun w' hSw => ?_⟩) (by assumption) ?_
            rotate_left
            · (try dsimp only at hSw); go_simp; (try with_reducible rfl)
            (try simp only [Act.put, List.setIfInBounds_toArray, List.set_cons_zero, List.set_cons_succ])
            refine wpAnyH_take (i := 1) (oi := ⟨some 56, _, _, _, _, _⟩) (v := ?_) rfl (by kernel_rfl) (by kernel_rfl) (by kernel_rfl) (fun _ _ _ h => h) (Or.inl ⟨by rfl, fun w' hSw => ?_⟩) (by assumption) ?_
            rotate_left
            · (try dsimp only at hSw); go_simp; (try with_reducible rfl)
            (try simp only [Act.put, List.setIfInBounds_toArray, List.set_cons_zero, List.set_cons_succ])
            refine wpAnyH_take (i := 3) (oi := ⟨some 58, _, _, _, _, _⟩) (v := ?_) rfl (by kernel_rfl) (by kernel_rfl) (by kernel_rfl) (fun _ _ _ h => h) (Or.inl ⟨by rfl, fun w' hSw => ?_⟩) (by assumption) ?_
            rotate_left
            · (try dsimp only at hSw); go_simp; (try with_reducible rfl)
            (try simp only [Act.put, List.setIfInBounds_toArray, List.set_cons_zero, List.set_cons_succ])
            refine wpAnyH_take (i := 4) (oi := ⟨some 59, _, _, _, _, _⟩) (v := ?_) rfl (by kernel_rfl) (by kernel_rfl) (by kernel_rfl) (fun _ _ _ h => h) (Or.inl ⟨by rfl, fun w' hSw => ?_⟩) (by assumption) ?_
            rotate_left
            · (try dsimp only at hSw); go_simp; (try with_reducible rfl)
            (try simp only [Act.put, List.setIfInBounds_toArray, List.set_cons_zero, List.set_cons_succ])
            refine wpAnyH_take (i := 5) (oi := ⟨some 60, _, _, _, _, _⟩) (v := ?_) rfl (by kernel_rfl) (by kernel_rfl) (by kernel_rfl) (fun _ _ _ h => h) (Or.inl ⟨by rfl, fun w' hSw => ?_⟩) (by assumption) ?_
            rotate_left
            · (try dsimp only at hSw); go_simp; (try with_reducible rfl)
            (try simp only [Act.put, List.setIfInBounds_toArray, List.set_cons_zero, List.set_cons_succ])
            refine wpAnyH_ready (rs := [2]) (by kernel_rfl) (by simp) ?_
            refine AllReadyH.cons (o := ⟨some 57, _, _, _, _, _⟩) rfl (fun K hK => ?_) AllReadyH.nil
            go_simp
            (refine (bcIn_any _ r _ _ _ (HVW.out.bel (BEL.out _ (by assumption)))).mono ?_)
            (rintro e w7 ⟨rfl, rfl⟩)
            (rw [HH.out])
            (have BX7 := Lib.hid (BEL.out _ (by assumption)))
            go_simp
            refine hK.out _ _ ?_ (fun hHeld => ?_)
            · exact ⟨belC BX7.out c0 hgl, belC BX7.out c1 hgl, BX7.out⟩
            clear hK K
            (try simp only [Act.put, List.setIfInBounds_toArray, List.set_cons_zero, List.set_cons_succ])
            refine wpAnyH_ready (rs := [6]) (by kernel_rfl) (by simp) ?_
            refine AllReadyH.cons (o := ⟨some 61, _, _, _, _, _⟩) rfl (fun K hK => ?_) AllReadyH.nil
            go_simp
            (refine (HUJ.out _ BX7.out).mono ?_)
            (rintro e w8 ⟨rfl, hb8⟩)
            (have BX8 := Lib.hid hb8)
            clear hb8
            go_simp
            refine hK.out _ _ ?_ (fun hHeld => ?_)
            · exact ⟨belC BX8.out c0 hgl, belC BX8.out c1 hgl, BX8.out⟩
            clear hK K
            (try simp only [Act.put, List.setIfInBounds_toArray, List.set_cons_zero, List.set_cons_succ])
            refine wpAnyH_take (i := 7) (oi := ⟨some 62, _, _, _, _, _⟩) (v := ?_) rfl (by kernel_rfl) (by kernel_rfl) (by kernel_rfl) (fun _ _ _ h => h) (Or.inl ⟨by rfl, fun w' hSw => ?_⟩) (by assumption) ?_
            rotate_left
            · (try dsimp only at hSw); go_simp; (try with_reducible rfl)
            (try simp only [Act.put, List.setIfInBounds_toArray, List.set_cons_zero, List.set_cons_succ])
            refine wpAnyH_take (i := 8) (oi := ⟨some 63, _, _, _, _, _⟩) (v := ?_) rfl (by kernel_rfl) (by kernel_rfl) (by kernel_rfl) (fun _ _ _ h => h) (Or.inl ⟨by rfl, fun w' hSw => ?_⟩) (by assumption) ?_
            rotate_left
            · (try dsimp only at hSw); go_simp; (try with_reducible rfl)
            (try simp only [Act.put, List.setIfInBounds_toArray, List.set_cons_zero, List.set_cons_succ])
            refine wpAnyH_take (i := 9) (oi := ⟨some 64, _, _, _, _, _⟩) (v := undef) rfl (by kernel_rfl) (by kernel_rfl) (by kernel_rfl) (fun _ _ _ h => h) (Or.inr ⟨by rfl, rfl⟩) (by assumption) ?_
            (try simp only [Act.put, List.setIfInBounds_toArray, List.set_cons_zero, List.set_cons_succ])
            refine wpAnyH_take (i := 10) (oi := ⟨some 65, _, _, _, _, _⟩) (v := undef) rfl (by kernel_rfl) (by kernel_rfl) (by kernel_rfl) (fun _ _ _ h => h) (Or.inr ⟨by rfl, rfl⟩) (by assumption) ?_
            (try simp only [Act.put, List.setIfInBounds_toArray, List.set_cons_zero, List.set_cons_succ])
            refine wpAnyH_take (i := 11) (oi := ⟨some 66, _, _, _, _, _⟩) (v := undef) rfl (by kernel_rfl) (by kernel_rfl) (by kernel_rfl) (fun _ _ _ h => h) (Or.inr ⟨by rfl, rfl⟩) (by assumption) ?_
            (try simp only [Act.put, List.setIfInBounds_toArray, List.set_cons_zero, List.set_cons_succ])
            refine wpAnyH_take (i := 12) (oi := ⟨some 67, _, _, _, _, _⟩) (v := undef) rfl (by kernel_rfl) (by kernel_rfl) (by kernel_rfl) (fun _ _ _ h => h) (Or.inr ⟨by rfl, rfl⟩) (by assumption) ?_
            (try simp only [Act.put, List.setIfInBounds_toArray, List.set_cons_zero, List.set_cons_succ])
            refine wpAnyH_take (i := 13) (oi := ⟨some 68, _, _, _, _, _⟩) (v := undef) rfl (by kernel_rfl) (by kernel_rfl) (by kernel_rfl) (fun _ _ _ h => h) (Or.inr ⟨by rfl, rfl⟩) (by assumption) ?_
            (try simp only [Act.put, List.setIfInBounds_toArray, List.set_cons_zero, List.set_cons_succ])
            refine wpAnyH_take (i := 14) (oi := ⟨some 69, _, _, _, _, _⟩) (v := undef) rfl (by kernel_rfl) (by kernel_rfl) (by kernel_rfl) (fun _ _ _ h => h) (Or.inr ⟨by rfl, rfl⟩) (by assumption) ?_
            (try simp only [Act.put, List.setIfInBounds_toArray, List.set_cons_zero, List.set_cons_succ])
            refine wpAnyH_take (i := 15) (oi := ⟨some 70, _, _, _, _, _⟩) (v := ?_) rfl (by kernel_rfl) (by kernel_rfl) (by kernel_rfl) (fun _ _ _ h => h) (Or.inl ⟨by rfl, fun w' hSw => ?_⟩) (by assumption) ?_
            rotate_left
            · (try dsimp only at hSw); go_simp; (try with_reducible rfl)
            (try simp only [Act.put, List.setIfInBounds_toArray, List.set_cons_zero, List.set_cons_succ])
            refine wpAnyH_take (i := 16) (oi := ⟨some 71, _, _, _, _, _⟩) (v := ?_) rfl (by kernel_rfl) (by kernel_rfl) (by kernel_rfl) (fun _ _ _ h => h) (Or.inl ⟨by rfl, fun w' hSw => ?_⟩) (by assumption) ?_
            rotate_left
            · (try dsimp only at hSw); go_simp; (try with_reducible rfl)
            (try simp only [Act.put, List.setIfInBounds_toArray, List.set_cons_zero, List.set_cons_succ])
            refine wpAnyH_done (by kernel_rfl) ?_ _
            go_wp2_with fail
            exact ⟨⟨j + 1, by omega, by go_num, HBW.out.trans (BX8.out.mono HBW.out.size)⟩, by simp [intOf] <;> omega⟩
          · have HH : Hid (hasP (flRes ts l Gset Cset (j : Nat) v) a = hasP r (j : Nat)) := Lib.hid (by rw [HAJ.out, hu0]; rfl)
            obtain ⟨q, hq⟩ : ∃ q, q = hasP r (j : Nat) := ⟨_, rfl⟩
            have HQ := Lib.hid hq.symm
            have hqq : (q != q) = false := by cases q <;> rfl
            rw [HQ.out] at HH
            clear hq
            go_wp2_with (at_builtin; fail)
            refine wp_region_held_drew (S := (fun w' => w'.cell? ⟨g, 0, none⟩ = some (.slice At ts.length ct) ∧ w'.cell? ⟨g, 1, none⟩ = some (.slice Ab l.length cb) ∧ Below wr.heap.size wr w')) (by kernel_rfl) ?_ (fun hHeld => ?_)
            · exact ⟨c0, c1, (Below.refl _ _).drew⟩
            refine wpAnyH_take (i := 0) (oi := ⟨some 55, _, _, _, _, _⟩) (v := ?_) rfl (by kernel_rfl) (by kernel_rfl) (by kernel_rfl) (fun _ _ _ h => h) (Or.inl ⟨by rfl, fun w' hSw => ?_⟩) (by assumption) ?_
            rotate_left
            · (try dsimp only at hSw); go_simp; (try with_reducible rfl)
            (try simp only [Act.put, List.setIfInBounds_toArray, List.set_cons_zero, List.set_cons_succ])
            refine wpAnyH_take (i := 1) (oi := ⟨some 56, _, _, _, _, _⟩) (v := ?_) rfl (by kernel_rfl) (by kernel_rfl) (by kernel_rfl) (fun _ _ _ h => h) (Or.inl ⟨by rfl, fun w' hSw => ?_⟩) (by assumption) ?_
            rotate_left
            · (try dsimp only at hSw); go_simp; (try with_reducible rfl)
            (try simp only [Act.put, List.setIfInBounds_toArray, List.set_cons_zero, List.set_cons_succ])
            refine wpAnyH_take (i := 3) (oi := ⟨some 58, _, _, _, _, _⟩) (v := ?_) rfl (by kernel_rfl) (by kernel_rfl) (by kernel_rfl) (fun _ _ _ h => h) (Or.inl ⟨by rfl, fun w' hSw => ?_⟩) (by assumption) ?_
            rotate_left
            · (try dsimp only at hSw); go_simp; (try with_reducible rfl)
            (try simp only [Act.put, List.setIfInBounds_toArray, List.set_cons_zero, List.set_cons_succ])
            refine wpAnyH_take (i := 4) (oi := ⟨some 59, _, _, _, _, _⟩) (v := ?_) rfl (by kernel_rfl) (by kernel_rfl) (by kernel_rfl) (fun _ _ _ h => h) (Or.inl ⟨by rfl, fun w' hSw => ?_⟩) (by assumption) ?_
            rotate_left
            · (try dsimp only at hSw); go_simp; (try with_reducible rfl)
            (try simp only [Act.put, List.setIfInBounds_toArray, List.set_cons_zero, List.set_cons_succ])
            refine wpAnyH_take (i := 5) (oi := ⟨some 60, _, _, _, _, _⟩) (v := ?_) rfl (by kernel_rfl) (by kernel_rfl) (by kernel_rfl) (fun _ _ _ h => h) (Or.inl ⟨by rfl, fun w' hSw => ?_⟩) (by assumption) ?_
            rotate_left
            · (try dsimp only at hSw); go_simp; (try with_reducible rfl)
            (try simp only [Act.put, List.setIfInBounds_toArray, List.set_cons_zero, List.set_cons_succ])
            refine wpAnyH_ready (rs := [2]) (by kernel_rfl) (by simp) ?_
            refine AllReadyH.cons (o := ⟨some 57, _, _, _, _, _⟩) rfl (fun K hK => ?_) AllReadyH.nil
            go_simp
            (refine (bcIn_any _ r _ _ _ (HVW.out.bel (BEL.out _ (by assumption)))).mono ?_)
            (rintro e w7 ⟨rfl, rfl⟩)
            (rw [HQ.out])
            (have BX7 := Lib.hid (BEL.out _ (by assumption)))
            go_simp
            refine hK.out _ _ ?_ (fun hHeld => ?_)
            · exact ⟨belC BX7.out c0 hgl, belC BX7.out c1 hgl, BX7.out⟩
            clear hK K
            (try simp only [Act.put, List.setIfInBounds_toArray, List.set_cons_zero, List.set_cons_succ])
            refine wpAnyH_ready (rs := [6]) (by kernel_rfl) (by simp) ?_
            refine AllReadyH.cons (o := ⟨some 61, _, _, _, _, _⟩) rfl (fun K hK => ?_) AllReadyH.nil
            go_simp
            (refine (HUJ.out _ BX7.out).mono ?_)
            (rintro e w8 ⟨rfl, hb8⟩)
            (have BX8 := Lib.hid hb8)
            clear hb8
            go_simp
            refine hK.out _ _ ?_ (fun hHeld => ?_)
            · exact ⟨belC BX8.out c0 hgl, belC BX8.out c1 hgl, BX8.out⟩
            clear hK K
            (try simp only [Act.put, List.setIfInBounds_toArray, List.set_cons_zero, List.set_cons_succ])
            refine wpAnyH_take (i := 7) (oi := ⟨some 62, _, _, _, _, _⟩) (v := ?_) rfl (by kernel_rfl) (by kernel_rfl) (by kernel_rfl) (fun _ _ _ h => h) (Or.inl ⟨by rfl, fun w' hSw => ?_⟩) (by assumption) ?_
            rotate_left
            · (try dsimp only at hSw); go_simp; (try with_reducible rfl)
            (try simp only [Act.put, List.setIfInBounds_toArray, List.set_cons_zero, List.set_cons_succ])
            refine wpAnyH_take (i := 8) (oi := ⟨some 63, _, _, _, _, _⟩) (v := ?_) rfl (by kernel_rfl) (by kernel_rfl) (by kernel_rfl) (fun _ _ _ h => h) (Or.inl ⟨by rfl, fun w' hSw => ?_⟩) (by assumption) ?_
            rotate_left
            · (try dsimp only at hSw); go_simp; (try with_reducible rfl)
            (try simp only [Act.put, List.setIfInBounds_toArray, List.set_cons_zero, List.set_cons_succ])
            refine wpAnyH_take (i := 9) (oi := ⟨some 64, _, _, _, _, _⟩) (v := ?_) rfl (by kernel_rfl) (by kernel_rfl) (by kernel_rfl) (fun _ _ _ h => h) (Or.inl ⟨by rfl, fun w' hSw => ?_⟩) (by assumption) ?_
            rotate_left
            · (try dsimp only at hSw); go_simp; (try with_reducible rfl)
            (try simp only [Act.put, List.setIfInBounds_toArray, List.set_cons_zero, List.set_cons_succ])
            refine wpAnyH_take (i := 10) (oi := ⟨some 65, _, _, _, _, _⟩) (v := ?_) rfl (by kernel_rfl) (by kernel_rfl) (by kernel_rfl) (fun _ _ _ h => h) (Or.inl ⟨by rfl, fun w' hSw => ?_⟩) (by assumption) ?_
            rotate_left
            · (try dsimp only at hSw); go_simp; (try with_reducible rfl)
            (try simp only [Act.put, List.setIfInBounds_toArray, List.set_cons_zero, List.set_cons_succ])
            refine wpAnyH_take (i := 11) (oi := ⟨some 66, _, _, _, _, _⟩) (v := ?_) rfl (by kernel_rfl) (by kernel_rfl) (by kernel_rfl) (fun _ _ _ h => h) (Or.inl ⟨by rfl, fun w' hSw => ?_⟩) (by assumption) ?_
            rotate_left
            · (try dsimp only at hSw); go_simp; (try with_reducible rfl)
            (try simp only [Act.put, List.setIfInBounds_toArray, List.set_cons_zero, List.set_cons_succ])
            refine wpAnyH_take (i := 13) (oi := ⟨some 68, _, _, _, _, _⟩) (v := ?_) rfl (by kernel_rfl) (by kernel_rfl) (by kernel_rfl) (fun _ _ _ h => h) (Or.inl ⟨by rfl, fun w' hSw => ?_⟩) (by assumption) ?_
            rotate_left
            · (try dsimp only at hSw); go_simp; (try with_reducible rfl)
            (try simp only [Act.put, List.setIfInBounds_toArray, List.set_cons_zero, List.set_cons_succ])
            refine wpAnyH_ready (rs := [12]) (by kernel_rfl) (by simp) ?_
            refine AllReadyH.cons (o := ⟨some 67, _, _, _, _, _⟩) rfl (fun K hK => ?_) AllReadyH.nil
            go_simp
            (refine (iSettersOf_any (.slice At ts.length ct) (.slice Ab l.length cb) ts l (j : Nat) v _ _ (HPW.out.ht.low BX8.out (Nat.le_refl _)) (HPW.out.hl.low BX8.out (Nat.le_refl _)) BX8.out.size (by omega)).mono ?_)
            (rintro e w9 ⟨v9, rfl, hv9, hb9⟩)
            (have BX9 := Lib.hid (BX8.out.trans (hb9.mono BX8.out.size)))
            (have HV9 := Lib.hid hv9)
            clear hv9 hb9 BX8
            (have BX8 := Lib.hid BX9.out)
            go_simp
            refine hK.out _ _ ?_ (fun hHeld => ?_)
            · exact ⟨belC BX8.out c0 hgl, belC BX8.out c1 hgl, BX8.out⟩
            clear hK K
            (try simp only [Act.put, List.setIfInBounds_toArray, List.set_cons_zero, List.set_cons_succ])
            refine wpAnyH_ready (rs := [14]) (by kernel_rfl) (by simp) ?_
            refine AllReadyH.cons (o := ⟨some 69, _, _, _, _, _⟩) rfl (fun K hK => ?_) AllReadyH.nil
            go_simp
            (refine (bcIn_any _ _ _ _ _ HV9.out).mono ?_)
            (rintro e w10 ⟨rfl, rfl⟩)
            (rw [HH.out])
            go_simp
            refine hK.out _ _ ?_ (fun hHeld => ?_)
            · exact ⟨belC BX8.out c0 hgl, belC BX8.out c1 hgl, BX8.out⟩
            clear hK K
            (try simp only [Act.put, List.setIfInBounds_toArray, List.set_cons_zero, List.set_cons_succ])
            refine wpAnyH_take (i := 15) (oi := ⟨some 70, _, _, _, _, _⟩) (v := ?_) rfl (by kernel_rfl) (by kernel_rfl) (by kernel_rfl) (fun _ _ _ h => h) (Or.inl ⟨by rfl, fun w' hSw => ?_⟩) (by assumption) ?_
            rotate_left
            · (try dsimp only at hSw); go_simp; (try with_reducible rfl)
            (try simp only [Act.put, List.setIfInBounds_toArray, List.set_cons_zero, List.set_cons_succ])
            refine wpAnyH_take (i := 16) (oi := ⟨some 71, _, _, _, _, _⟩) (v := ?_) rfl (by kernel_rfl) (by kernel_rfl) (by kernel_rfl) (fun _ _ _ h => h) (Or.inl ⟨by rfl, fun w' hSw => ?_⟩) (by assumption) ?_
            rotate_left
            · (try dsimp only at hSw); go_simp; (try with_reducible rfl)
            (try simp only [Act.put, List.setIfInBounds_toArray, List.set_cons_zero, List.set_cons_succ])
            refine wpAnyH_done (by kernel_rfl) ?_ _
            go_wp2_with fail
            exact ⟨⟨j + 1, by omega, by go_num, HBW.out.trans (BX8.out.mono HBW.out.size)⟩, by simp [intOf] <;> omega⟩
        · go_wp2_with (at_builtin; fail)
          refine (iLiveAfter_any _ _ ts l a _ _ HPW.out.ht HPW.out.hl (Nat.le_refl _) (by omega)).mono ?_
          rintro e w8 ⟨v8, rfl, hv8, hb8⟩
          have HV8 := Lib.hid hv8
          have HP8 := Lib.hid (HPW.out.bels hb8)
          clear hv8 hb8 c0 c1
          go_wp2_with (at_builtin; fail)
          refine (bcIn_any _ _ _ _ _ HV8.out).mono ?_
          rintro e w9 ⟨rfl, rfl⟩
          rw [HLEN.out]
          by_cases hd : 0 < r.length
          · have hd1 : (decide ((0 : Int) < (r.length : Nat))) = true := by simpa using hd
            rw [hd1]
            go_wp2_with (at_builtin; fail)
            go_ret
            exact ⟨rfl, HP8.out.bel⟩
          · have hd1 : (decide ((0 : Int) < (r.length : Nat))) = false := by simpa using hd
            rw [hd1]
            go_wp2_with (at_builtin; fail)
            go_ret
            exact ⟨rfl, HP8.out.bel⟩
  · have hn1 : (1048576 : Int) < n := by omega
    unfold maxLen at hm
    go_enter Try.func9, Try.ntmps9
    go_wp2_with fail
    go_ret
    exact ⟨rfl, Below.refl _ _⟩

end Go.Proofs.Yteaddodjijlpjaa
