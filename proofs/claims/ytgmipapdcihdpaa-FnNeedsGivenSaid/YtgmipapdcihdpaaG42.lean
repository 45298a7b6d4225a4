import Derived.Test.YtgmipapdcihdpaaG41
set_option linter.unusedVariables false

/- FnNeedsGiven: the plain law, the walk. -/
namespace Go.Proofs.Ytgmipapdcihdpaa
open Go.RowKit

def allL (n : Nat) : List Int := lst n fun _ => true
theorem allL_succ (n : Nat) : allL (n + 1) = allL n ++ [((n : Nat) : Int)] := lst_succ_true rfl
theorem allL_ok {ts : List Int} : givOk ts (allL ts.length) = true := by
  unfold givOk
  rw [List.all_eq_true]
  intro x hx
  obtain ⟨k, hk, _, rfl⟩ := lst_mem.1 hx
  unfold withinP; simp; omega
theorem lst_true_len (n : Nat) : (lst n fun _ => true).length = n := by
  induction n with
  | zero => rfl
  | succ n ih => rw [lst_succ_true rfl, List.length_append, ih]; rfl
theorem no_ac {ts : List Int} {l : List St} (hv : validP ts l = true) (h : takeRes ts l = []) {i v : Nat} (ha : Ac true ts (ptsP l) (givM ts (allL ts.length)) i v) : False := by
  induction ha with
  | @init v hv h1 =>
    have : (givM ts (allL ts.length)).testBit v = true := by
      rw [givM, bm_bit, decide_eq_true hv, Bool.true_and]
      unfold allL
      rw [lst_has]; simp [hv]
    simp [accB, this] at h1
  | @gen i k v p hp hk hv' h1 =>
    have hu : useP ts p.op p.x p.y (v : Nat) = 2 := by
      unfold trB at h1
      have : (takenP ts p.op p.x p.y).testBit v = (useP ts p.op p.x p.y (v : Nat) == 2) := by unfold takenP; rw [bm_bit, decide_eq_true hv', Bool.true_and]
      rw [this] at h1
      cases hq : (useP ts p.op p.x p.y (v : Nat) == 2)
      · rw [hq] at h1; simp at h1
      · simpa using hq
    have hm : ((v : Nat) : Int) ∈ takeRes ts l := by
      unfold takeRes
      rw [if_pos hv]
      exact lst_mem.2 ⟨v, hv', List.any_eq_true.2 ⟨p, List.mem_of_getElem? hp, by simp [hu]⟩, rfl⟩
    rw [h] at hm; cases hm
  | keep _ _ _ _ ih => exact ih
theorem given_open (ts : List Int) (l : List St) (h : takeRes ts l = []) : openRes ts l (allL ts.length) = [] := by
  unfold openRes
  split
  · rename_i hv
    unfold opnL
    rw [← lst_more (n := 0) (Nat.zero_le _) fun i _ _ => dec_false (by
      rintro ⟨p, hp, v, hvl, hu, ha⟩
      exact no_ac hv.1 h ha)]
    rfl
  · rfl
theorem given_gives (ts : List Int) (l : List St) (hv : validP ts l = true) (h : takeRes ts l = []) : (givesRes ts l (allL ts.length)).length = ts.length := by
  unfold givesRes
  rw [if_pos ⟨hv, allL_ok⟩]
  unfold alwaysAt
  rw [lst_congr (g := fun _ => true) fun i hi => by rw [dec_false fun ha => no_ac hv h ha]; rfl]
  exact lst_true_len _

set_option maxHeartbeats 8000000
set_option maxRecDepth 100000
theorem fnNeedsGiven_any (A : Option Addr) (n c : Nat) (w : World) (hb : Byt w w.heap.size A n) (hm : n ≤ maxLen) (hc : n ≤ c) :
    Calls Try.prog 14 #[.slice A n c] w (LawRet w) := by
  have HB := Lib.hid hb
  clear hb
  by_cases hn : n ≤ 1048576
  · go_enter Try.func14, Try.ntmps14
    go_wp2_with fail
    refine (drawOpenIssues_any A n c _ HB.out hn hc).mono ?_
    rintro e w1 ⟨vt, vb, va, ts, l, gv, rfl, hit, hst, hts, hsz, hgi, hgl, hb1⟩
    have hA1 := bel_a w1 (.cells #[vt, vb] 26)
    have HP := Lib.hid (PgB.new hit hst hb1)
    have HA := Lib.hid (hgi.toS.bel hA1)
    obtain ⟨At, ct, rfl, hct⟩ := hit.slice
    obtain ⟨Ab, cb, rfl, hcb⟩ := hst.slice
    obtain ⟨Aa, ca, rfl, hca⟩ := hgi.slice
    clear hit hst hb1 hgi hA1
    go_wp2_with fail
    generalize w1.alloc (.cells #[.slice At ts.length ct, .slice Ab l.length cb] 26) = W1 at *
    obtain ⟨g, hg⟩ : ∃ g, g = w1.heap.size := ⟨_, rfl⟩
    rw [← hg] at HP ⊢
    clear hg
    refine (iOpenIssues_any _ _ _ ts gv l _ _ HP.out.ht HP.out.hl HA.out (Nat.le_refl _) (by omega)).mono ?_
    rintro e w2 ⟨v2, rfl, hv2, hb2⟩
    have HP2 := Lib.hid (HP.out.bels hb2)
    have HA2 := Lib.hid (HA.out.bel hb2)
    have HV2 := Lib.hid hv2
    have c0 := HP2.out.c0
    have c1 := HP2.out.c1
    clear hv2 hb2
    go_wp2_with fail
    refine (sOpenIssues_any _ _ _ ts gv l _ _ HP2.out.ht HP2.out.hl HA2.out (Nat.le_refl _) (by omega)).mono ?_
    rintro e w3 ⟨v3, rfl, hv3, hb3⟩
    have HP3 := Lib.hid (HP2.out.bels hb3)
    have HA3 := Lib.hid (HA2.out.bel hb3)
    have HV23 := Lib.hid (HV2.out.bel hb3)
    have HV3 := Lib.hid hv3
    clear hv3 hb3 c0 c1
    go_wp2_with fail
    refine (bcInts_any _ _ _ _ _ _ HV23.out HV3.out).mono ?_
    rintro e w4 ⟨rfl, n4, rfl⟩
    rw [show eqP (openRes ts l gv) (openRes ts l gv) = true by simp [eqP]]
    have HP4 := Lib.hid (HP3.out.bels (below_of_drewN ⟨n4, rfl⟩ _))
    have HA4 := Lib.hid (HA3.out.bel (below_of_drewN ⟨n4, rfl⟩ _))
    have HV4 := Lib.hid (HV23.out.bel (below_of_drewN ⟨n4, rfl⟩ _))
    generalize w3.drewN n4 = w4 at *
    have c0 := HP4.out.c0
    have c1 := HP4.out.c1
    go_wp2_with fail
    refine (iTakesOf_any _ _ ts l _ _ HP4.out.ht HP4.out.hl (Nat.le_refl _) (by omega)).mono ?_
    rintro e w5 ⟨v5, rfl, hv5, hb5⟩
    have HP5 := Lib.hid (HP4.out.bels hb5)
    have HA5 := Lib.hid (HA4.out.bel hb5)
    have HV5 := Lib.hid (HV4.out.bel hb5)
    obtain ⟨A5, c5, rfl, -, -, -⟩ := hv5
    clear hb5 c0 c1
    have c0 := HP5.out.c0
    have c1 := HP5.out.c1
    by_cases ht0 : takeRes ts l = []
    · have HT0 := Lib.hid ht0
      rw [ht0]
      have hl0 : (([] : List Int).length : Int) = 0 := rfl
      have hl1 : ([] : List Int).length = 0 := rfl
      rw [hl1]
      clear ht0 hl0 hl1
      go_wp2_with (at_builtin; fail)
      have HOS := Lib.hid (OInts.empty w5 w5.heap.size (Nat.le_refl _))
      have HPS := Lib.hid (HP5.out.bels (bel_a w5 (.cells #[] 3)))
      go_loopw [6, 7] (fun v i wr => ∃ (k : Nat), k ≤ ts.length ∧ i = .int .i64 k ∧ OInts wr w5.heap.size v (allL k) ∧ Below w5.heap.size w5 wr) (fun _ i _ => ts.length - (intOf i).toNat)
      case atStart => exact ⟨0, by omega, rfl, HOS.out, bel_a _ _⟩
      case round =>
        obtain ⟨k, hk, rfl, hO, hbw⟩ := hrel
        have HO := Lib.hid hO
        have HPR := Lib.hid (HP5.out.bels hbw)
        have hal : (allL k).length = k := lst_true_len k
        have HAL := Lib.hid hal
        have hal1 : (allL k).length ≤ 700 := by omega
        have hsr := hbw.size
        obtain ⟨A6, c6, rfl, hc6⟩ := hO.slice
        have c0 := HPR.out.c0
        have c1 := HPR.out.c1
        have HBW := Lib.hid hbw
        clear hO hal hbw
        by_cases hlt : k < ts.length
        · go_wp2_with (at_builtin; go_must (refine wpList_push_int rfl (.tmp 44) (.tmp 46) rfl HO.out (by omega) (by omega) _ rfl rfl ?_); intro v' w' hP' hE')
          exact ⟨⟨k + 1, by omega, by go_num, by rw [allL_succ]; exact hP', HBW.out.trans (((Evo.alloc w5.heap.size 3 _ _).trans hE').below (by omega))⟩, by simp [intOf] <;> omega⟩
        · have hke : k = ts.length := by omega
          have HOG := Lib.hid (given_open ts l HT0.out)
          have HGV := Lib.hid (fun hv => given_gives ts l hv HT0.out)
          have HOA := Lib.hid (HO.out.toS (by omega))
          have HKE := Lib.hid hke
          rw [← hke] at HOG HGV
          clear hke
          go_wp2_with (at_builtin; fail)
          have H2 : Hid (∀ w', Below wr.heap.size wr w' → Calls Try.prog 33 #[.agg #[.slice At ts.length ct, .slice Ab l.length cb], .slice A6 (allL k).length c6] w' fun e w'' => ∃ v, e = .returned v ∧ (∃ A c, v = .slice A 0 c) ∧ Below wr.heap.size wr w'') :=
            Lib.hid fun w' h => (iOpenIssues_any _ _ _ ts (allL k) l _ _ (HPR.out.bels h).ht (HPR.out.bels h).hl (HOA.out.bel h) (Nat.le_refl _) (by omega)).mono fun e w'' hh => by
              obtain ⟨v, rfl, hv, hb⟩ := hh
              rw [HOG.out] at hv
              obtain ⟨A, c, rfl, -, -, -⟩ := hv
              exact ⟨_, rfl, ⟨A, c, rfl⟩, h.trans (hb.mono h.size)⟩
          have H7 : Hid (∀ w', Below wr.heap.size wr w' → Calls Try.prog 44 #[.agg #[.slice At ts.length ct, .slice Ab l.length cb]] w' fun e w'' => ∃ v, e = .returned v ∧ (v = .bool (validP ts l)) ∧ Below wr.heap.size wr w'') :=
            Lib.hid fun w' h => (iProgramValid_any _ _ ts l _ _ (HPR.out.bels h).ht (HPR.out.bels h).hl (Nat.le_refl _) (by omega)).mono fun e w'' hh => ⟨_, hh.1, rfl, h.trans (hh.2.mono h.size)⟩
          have H12 : Hid (validP ts l = true → ∀ w', Below wr.heap.size wr w' → Calls Try.prog 42 #[.agg #[.slice At ts.length ct, .slice Ab l.length cb], .slice A6 (allL k).length c6] w' fun e w'' => ∃ v, e = .returned v ∧ (∃ A c, v = .slice A ts.length c) ∧ Below wr.heap.size wr w'') :=
            Lib.hid fun hval w' h => (iGivesOf_any _ _ _ ts (allL k) l _ _ (HPR.out.bels h).ht (HPR.out.bels h).hl (HOA.out.bel h) (Nat.le_refl _) (by omega)).mono fun e w'' hh => by
              obtain ⟨v, rfl, hv, hb⟩ := hh
              obtain ⟨A, c, rfl, -, -, -⟩ := hv
              have e := HGV.out hval
              rw [e]
              exact ⟨_, rfl, ⟨A, c, by rw [← HKE.out]⟩, h.trans (hb.mono h.size)⟩
          have hp9 := HPR.out.lt
          clear hal1
          cases hval : validP ts l
          · have HVA := Lib.hid hval
            rw [hval] at H7
            clear H12 hval
            refine wp_region_seqV (Below wr.heap.size wr) (fun i => if i = 2 then some (fun v => ∃ A c, v = Value.slice A 0 c) else if i = 7 then some (fun v => v = Value.bool false) else none) (by kernel_rfl) (by kernel_rfl) (Below.refl _ _).drew ?_
            repeat (first
              | (refine SeqV.skip (by rfl) ?_; (try simp only [Act.put, List.setIfInBounds_toArray, List.set_cons_zero, List.set_cons_succ]))
              | (refine SeqV.pure (v := ?_) (by rfl) (by rfl) (fun w' hSw => ?_) ?_; rotate_left; (obtain ⟨hc9, hf9⟩ := bcell hSw; go_simp; with_reducible rfl); (try simp only [Act.put, List.setIfInBounds_toArray, List.set_cons_zero, List.set_cons_succ]))
              | fail)
            refine SeqV.call (f := ?_) (args := ?_) _ (by rfl) (by rfl) (fun w' => ?_) (fun w' hSw => ?_) (fun v hv => ?_)
            rotate_left 2
            · go_simp; constructor; (with_reducible rfl); (with_reducible rfl)
            · exact H2.out _ hSw
            obtain ⟨A8, c8, rfl⟩ := hv
            (try simp only [Act.put, List.setIfInBounds_toArray, List.set_cons_zero, List.set_cons_succ])
            repeat (first
              | (refine SeqV.skip (by rfl) ?_; (try simp only [Act.put, List.setIfInBounds_toArray, List.set_cons_zero, List.set_cons_succ]))
              | (refine SeqV.pure (v := ?_) (by rfl) (by rfl) (fun w' hSw => ?_) ?_; rotate_left; (obtain ⟨hc9, hf9⟩ := bcell hSw; go_simp; with_reducible rfl); (try simp only [Act.put, List.setIfInBounds_toArray, List.set_cons_zero, List.set_cons_succ]))
              | fail)
            refine SeqV.call (f := ?_) (args := ?_) _ (by rfl) (by rfl) (fun w' => ?_) (fun w' hSw => ?_) (fun v hv => ?_)
            rotate_left 2
            · go_simp; constructor; (with_reducible rfl); (with_reducible rfl)
            · exact H7.out _ hSw
            obtain rfl := hv
            (try simp only [Act.put, List.setIfInBounds_toArray, List.set_cons_zero, List.set_cons_succ])
            repeat (first
              | (refine SeqV.skip (by rfl) ?_; (try simp only [Act.put, List.setIfInBounds_toArray, List.set_cons_zero, List.set_cons_succ]))
              | (refine SeqV.pure (v := ?_) (by rfl) (by rfl) (fun w' hSw => ?_) ?_; rotate_left; (obtain ⟨hc9, hf9⟩ := bcell hSw; go_simp; with_reducible rfl); (try simp only [Act.put, List.setIfInBounds_toArray, List.set_cons_zero, List.set_cons_succ]))
              | fail)
            intro w2 hb2
            go_wp2_with (at_builtin; fail)
            go_ret
            exact ⟨rfl, HPR.out.bel.trans (hb2.mono HPR.out.bel.size)⟩
          · have H12' := Lib.hid (H12.out hval)
            rw [hval] at H7
            clear H12 hval
            refine wp_region_seqV (Below wr.heap.size wr) (fun i => if i = 2 then some (fun v => ∃ A c, v = Value.slice A 0 c) else if i = 7 then some (fun v => v = Value.bool true) else if i = 12 then some (fun v => ∃ A c, v = Value.slice A ts.length c) else none) (by kernel_rfl) (by kernel_rfl) (Below.refl _ _).drew ?_
            repeat (first
              | (refine SeqV.skip (by rfl) ?_; (try simp only [Act.put, List.setIfInBounds_toArray, List.set_cons_zero, List.set_cons_succ]))
              | (refine SeqV.pure (v := ?_) (by rfl) (by rfl) (fun w' hSw => ?_) ?_; rotate_left; (obtain ⟨hc9, hf9⟩ := bcell hSw; go_simp; with_reducible rfl); (try simp only [Act.put, List.setIfInBounds_toArray, List.set_cons_zero, List.set_cons_succ]))
              | fail)
            refine SeqV.call (f := ?_) (args := ?_) _ (by rfl) (by rfl) (fun w' => ?_) (fun w' hSw => ?_) (fun v hv => ?_)
            rotate_left 2
            · go_simp; constructor; (with_reducible rfl); (with_reducible rfl)
            · exact H2.out _ hSw
            obtain ⟨A8, c8, rfl⟩ := hv
            (try simp only [Act.put, List.setIfInBounds_toArray, List.set_cons_zero, List.set_cons_succ])
            repeat (first
              | (refine SeqV.skip (by rfl) ?_; (try simp only [Act.put, List.setIfInBounds_toArray, List.set_cons_zero, List.set_cons_succ]))
              | (refine SeqV.pure (v := ?_) (by rfl) (by rfl) (fun w' hSw => ?_) ?_; rotate_left; (obtain ⟨hc9, hf9⟩ := bcell hSw; go_simp; with_reducible rfl); (try simp only [Act.put, List.setIfInBounds_toArray, List.set_cons_zero, List.set_cons_succ]))
              | fail)
            refine SeqV.call (f := ?_) (args := ?_) _ (by rfl) (by rfl) (fun w' => ?_) (fun w' hSw => ?_) (fun v hv => ?_)
            rotate_left 2
            · go_simp; constructor; (with_reducible rfl); (with_reducible rfl)
            · exact H7.out _ hSw
            obtain rfl := hv
            (try simp only [Act.put, List.setIfInBounds_toArray, List.set_cons_zero, List.set_cons_succ])
            repeat (first
              | (refine SeqV.skip (by rfl) ?_; (try simp only [Act.put, List.setIfInBounds_toArray, List.set_cons_zero, List.set_cons_succ]))
              | (refine SeqV.pure (v := ?_) (by rfl) (by rfl) (fun w' hSw => ?_) ?_; rotate_left; (obtain ⟨hc9, hf9⟩ := bcell hSw; go_simp; with_reducible rfl); (try simp only [Act.put, List.setIfInBounds_toArray, List.set_cons_zero, List.set_cons_succ]))
              | fail)
            refine SeqV.call (f := ?_) (args := ?_) _ (by rfl) (by rfl) (fun w' => ?_) (fun w' hSw => ?_) (fun v hv => ?_)
            rotate_left 2
            · go_simp; constructor; (with_reducible rfl); (with_reducible rfl)
            · exact H12'.out _ hSw
            obtain ⟨A9, c9, rfl⟩ := hv
            (try simp only [Act.put, List.setIfInBounds_toArray, List.set_cons_zero, List.set_cons_succ])
            repeat (first
              | (refine SeqV.skip (by rfl) ?_; (try simp only [Act.put, List.setIfInBounds_toArray, List.set_cons_zero, List.set_cons_succ]))
              | (refine SeqV.pure (v := ?_) (by rfl) (by rfl) (fun w' hSw => ?_) ?_; rotate_left; (obtain ⟨hc9, hf9⟩ := bcell hSw; go_simp; with_reducible rfl); (try simp only [Act.put, List.setIfInBounds_toArray, List.set_cons_zero, List.set_cons_succ]))
              | fail)
            intro w2 hb2
            go_wp2_with (at_builtin; fail)
            go_ret
            exact ⟨rfl, HPR.out.bel.trans (hb2.mono HPR.out.bel.size)⟩
    · have hl1 : (0 : Int) < ((takeRes ts l).length : Int) := by
        have := List.length_pos_iff.2 ht0
        omega
      have hl2 : 0 < (takeRes ts l).length := by omega
      clear ht0
      go_wp2_with (at_builtin; fail)
      refine (sOpenIssues_any _ _ _ ts gv l _ _ HP5.out.ht HP5.out.hl HA5.out (Nat.le_refl _) (by omega)).mono ?_
      rintro e w6 ⟨v6, rfl, hv6, hb6⟩
      have HV6 := Lib.hid (HV5.out.bel hb6)
      have HW6 := Lib.hid hv6
      have HB6 := Lib.hid (HP5.out.bel.trans (hb6.mono HP5.out.bel.size))
      clear hb6 hv6
      go_wp2_with (at_builtin; fail)
      refine (bcInts_any _ _ _ _ _ _ HV6.out HW6.out).mono ?_
      rintro e w7 ⟨rfl, n7, rfl⟩
      rw [show eqP (openRes ts l gv) (openRes ts l gv) = true by simp [eqP]]
      go_wp2_with (at_builtin; fail)
      go_ret
      exact ⟨rfl, Below.drN HB6.out _⟩
  · have hn1 : (1048576 : Int) < n := by omega
    unfold maxLen at hm
    go_enter Try.func14, Try.ntmps14
    go_wp2_with fail
    go_ret
    exact ⟨rfl, Below.refl _ _⟩

end Go.Proofs.Ytgmipapdcihdpaa
