import Derived.Test.YtgmipapdcihdpaaG41
import Derived.Test.YtgmipapdcihdpaaG14
import Derived.IntWalk
import Derived.Test.YtgmipapdcihdpaaG40
set_option linter.unusedVariables false

/- FnNeedsGiven: the plain law, the walk. -/
namespace Go.Proofs.Ytgmipapdcihdpaa
open Go.RowKit

def allL (n : Nat) : List Int := lst n fun _ => true
theorem allL_succ (n : Nat) : allL (n + 1) = allL n ++ [((n : Nat) : Int)] := lst_succ_true rfl
theorem allL_ok {ts : List Int} : givOk ts (allL ts.length) = true := by
  unfold givOk
  rw [List.all_eq_true]
  intro x hx
  obtain ⟨k, hk, _, rfl⟩ := lst_mem.1 hx
  unfold withinP; simp; omega
theorem lst_true_len (n : Nat) : (lst n fun _ => true).length = n := by
  induction n with
  | zero => rfl
  | succ n ih => rw [lst_succ_true rfl, List.length_append, ih]; rfl
theorem no_ac {ts : List Int} {l : List St} (hv : validP ts l = true) (h : takeRes ts l = []) {i v : Nat} (ha : Ac true ts (ptsP l) (givM ts (allL ts.length)) i v) : False := by
  induction ha with
  | @init v hv h1 =>
    have : (givM ts (allL ts.length)).testBit v = true := by
      rw [givM, bm_bit, decide_eq_true hv, Bool.true_and]
      unfold allL
      rw [lst_has]; simp [hv]
    simp [accB, this] at h1
  | @gen i k v p hp hk hv' h1 =>
    have hu : useP ts p.op p.x p.y (v : Nat) = 2 := by
      unfold trB at h1
      have : (takenP ts p.op p.x p.y).testBit v = (useP ts p.op p.x p.y (v : Nat) == 2) := by unfold takenP; rw [bm_bit, decide_eq_true hv', Bool.true_and]
      rw [this] at h1
      cases hq : (useP ts p.op p.x p.y (v : Nat) == 2)
      · rw [hq] at h1; simp at h1
      · simpa using hq
    have hm : ((v : Nat) : Int) ∈ takeRes ts l := by
      unfold takeRes
      rw [if_pos hv]
      exact lst_mem.2 ⟨v, hv', List.any_eq_true.2 ⟨p, List.mem_of_getElem? hp, by simp [hu]⟩, rfl⟩
    rw [h] at hm; cases hm
  | keep _ _ _ _ ih => exact ih
theorem given_open (ts : List Int) (l : List St) (h : takeRes ts l = []) : openRes ts l (allL ts.length) = [] := by
  unfold openRes
  split
  · rename_i hv
    unfold opnL
    rw [← lst_more (n := 0) (Nat.zero_le _) fun i _ _ => dec_false (by
      rintro ⟨p, hp, v, hvl, hu, ha⟩
      exact no_ac hv.1 h ha)]
    rfl
  · rfl
theorem given_gives (ts : List Int) (l : List St) (hv : validP ts l = true) (h : takeRes ts l = []) : (givesRes ts l (allL ts.length)).length = ts.length := by
  unfold givesRes
  rw [if_pos ⟨hv, allL_ok⟩]
  unfold alwaysAt
  rw [lst_congr (g := fun _ => true) fun i hi => by rw [dec_false fun ha => no_ac hv h ha]; rfl]
  exact lst_true_len _

set_option maxHeartbeats 8000000
set_option maxRecDepth 100000
theorem fnNeedsGiven_any (A : Option Addr) (n c : Nat) (w : World) (hb : Byt w w.heap.size A n) (hm : n ≤ maxLen) (hc : n ≤ c) :
    Calls Try.prog 14 #[.slice A n c] w (LawRet w) := by
  have HB := Lib.hid hb
  clear hb
  by_cases hn : n ≤ 1048576
  · go_enter Try.func14, Try.ntmps14
    go_wp2_with fail
    refine (drawOpenIssues_any A n c _ HB.out hn hc).mono ?_
    rintro e w1 ⟨vt, vb, va, ts, l, gv, rfl, hit, hst, hts, hsz, hgi, hgl, hb1⟩
    have hA1 := bel_a w1 (.cells #[vt, vb] 26)
    have HP := Lib.hid (PgB.new hit hst hb1)
    have HA := Lib.hid (hgi.toS.bel hA1)
    obtain ⟨At, ct, rfl, hct⟩ := hit.slice
    obtain ⟨Ab, cb, rfl, hcb⟩ := hst.slice
    obtain ⟨Aa, ca, rfl, hca⟩ := hgi.slice
    clear hit hst hb1 hgi hA1
    go_wp2_with fail
    generalize w1.alloc (.cells #[.slice At ts.length ct, .slice Ab l.length cb] 26) = W1 at *
    obtain ⟨g, hg⟩ : ∃ g, g = w1.heap.size := ⟨_, rfl⟩
    rw [← hg] at HP ⊢
    clear hg
    refine (iOpenIssues_any _ _ _ ts gv l _ _ HP.out.ht HP.out.hl HA.out (Nat.le_refl _) (by omega)).mono ?_
    rintro e w2 ⟨v2, rfl, hv2, hb2⟩
    have HP2 := Lib.hid (HP.out.bels hb2)
    have HA2 := Lib.hid (HA.out.bel hb2)
    have HV2 := Lib.hid hv2
    have c0 := HP2.out.c0
    have c1 := HP2.out.c1
    clear hv2 hb2
    go_wp2_with fail
    refine (sOpenIssues_any _ _ _ ts gv l _ _ HP2.out.ht HP2.out.hl HA2.out (Nat.le_refl _) (by omega)).mono ?_
    rintro e w3 ⟨v3, rfl, hv3, hb3⟩
    have HP3 := Lib.hid (HP2.out.bels hb3)
    have HA3 := Lib.hid (HA2.out.bel hb3)
    have HV23 := Lib.hid (HV2.out.bel hb3)
    have HV3 := Lib.hid hv3
    clear hv3 hb3 c0 c1
    go_wp2_with fail
    refine (bcInts_any _ _ _ _ _ _ HV23.out HV3.out).mono ?_
    rintro e w4 ⟨rfl, n4, rfl⟩
    rw [show eqP (openRes ts l gv) (openRes ts l gv) = true by simp [eqP]]
    have HP4 := Lib.hid (HP3.out.bels (below_of_drewN ⟨n4, rfl⟩ _))
    have HA4 := Lib.hid (HA3.out.bel (below_of_drewN ⟨n4, rfl⟩ _))
    have HV4 := Lib.hid (HV23.out.bel (below_of_drewN ⟨n4, rfl⟩ _))
    generalize w3.drewN n4 = w4 at *
    have c0 := HP4.out.c0
    have c1 := HP4.out.c1
    go_wp2_with fail
    refine (iTakesOf_any _ _ ts l _ _ HP4.out.ht HP4.out.hl (Nat.le_refl _) (by omega)).mono ?_
    rintro e w5 ⟨v5, rfl, hv5, hb5⟩
    have HP5 := Lib.hid (HP4.out.bels hb5)
    have HA5 := Lib.hid (HA4.out.bel hb5)
    have HV5 := Lib.hid (HV4.out.bel hb5)
    obtain ⟨A5, c5, rfl, -, -, -⟩ := hv5
    clear hb5 c0 c1
    have c0 := HP5.out.c0
    have c1 := HP5.out.c1
    by_cases ht0 : takeRes ts l = []
    · have HT0 := Lib.hid ht0
      rw [ht0]
      have hl0 : (([] : List Int).length : Int) = 0 := rfl
      have hl1 : ([] : List Int).length = 0 := rfl
      rw [hl1]
      clear ht0 hl0 hl1
      go_wp2_with (at_builtin; fail)
      have HOS := Lib.hid (OInts.empty w5 w5.heap.size (Nat.le_refl _))
      have HPS := Lib.hid (HP5.out.bels (bel_a w5 (.cells #[] 3)))
      go_loopw [6, 7] (fun v i wr => ∃ (k : Nat), k ≤ ts.length ∧ i = .int .i64 k ∧ OInts wr w5.heap.size v (allL k) ∧ Below w5.heap.size w5 wr) (fun _ i _ => ts.length - (intOf i).toNat)
      case atStart => exact ⟨0, by omega, rfl, HOS.out, bel_a _ _⟩
      case round =>
        obtain ⟨k, hk, rfl, hO, hbw⟩ := hrel
        have HO := Lib.hid hO
        have HPR := Lib.hid (HP5.out.bels hbw)
        have hal : (allL k).length = k := lst_true_len k
        have HAL := Lib.hid hal
        have hal1 : (allL k).length ≤ 700 := by omega
        have hsr := hbw.size
        obtain ⟨A6, c6, rfl, hc6⟩ := hO.slice
        have c0 := HPR.out.c0
        have c1 := HPR.out.c1
        have HBW := Lib.hid hbw
        clear hO hal hbw
        by_cases hlt : k < ts.length
        · go_wp2_with (at_builtin; go_must (refine wpList_push_int rfl (.tmp 44) (.tmp 46) rfl HO.out (by omega) (by omega) _ rfl rfl ?_); intro v' w' hP' hE')
          exact ⟨⟨k + 1, by omega, by go_num, by rw [allL_succ]; exact hP', HBW.out.trans (((Evo.alloc w5.heap.size 3 _ _).trans hE').below (by omega))⟩, by simp [intOf] <;> omega⟩
        · have hke : k = ts.length := by omega
          have HOG := Lib.hid (given_open ts l HT0.out)
          have HGV := Lib.hid (fun hv => given_gives ts l hv HT0.out)
          have HOA := Lib.hid (HO.out.toS (by omega))
          have HKE := Lib.hid hke
          rw [← hke] at HOG HGV
          clear hke
          go_wp2_with (at_builtin; fail)
          have H2 : Hid (∀ w', Below wr.heap.size wr w' → Calls Try.prog 33 #[.agg #[.slice At ts.length ct, .slice Ab l.length cb], .slice A6 (allL k).length c6] w' fun e w'' => ∃ v, e = .returned v ∧ (∃ A c, v = .slice A 0 c) ∧ Below wr.heap.size wr w'') :=
            Lib.hid fun w' h => (iOpenIssues_any _ _ _ ts (allL k) l _ _ (HPR.out.bels h).ht (HPR.out.bels h).hl (HOA.out.bel h) (Nat.le_refl _) (by omega)).mono fun e w'' hh => by
              obtain ⟨v, rfl, hv, hb⟩ := hh
              rw [HOG.out] at hv
              obtain ⟨A, c, rfl, -, -, -⟩ := hv
              exact ⟨_, rfl, ⟨A, c, rfl⟩, h.trans (hb.mono h.size)⟩
          have H7 : Hid (∀ w', Below wr.heap.size wr w' → Calls Try.prog 44 #[.agg #[.slice At ts.length ct, .slice Ab l.length cb]] w' fun e w'' => ∃ v, e = .returned v ∧ (v = .bool (validP ts l)) ∧ Below wr.heap.size wr w'') :=
            Lib.hid fun w' h => (iProgramValid_any _ _ ts l _ _ (HPR.out.bels h).ht (HPR.out.bels h).hl (Nat.le_refl _) (by omega)).mono fun e w'' hh => ⟨_, hh.1, rfl, h.trans (hh.2.mono h.size)⟩
          have H12 : Hid (validP ts l = true → ∀ w', Below wr.heap.size wr w' → Calls Try.prog 42 #[.agg #[.slice At ts.length ct, .slice Ab l.length cb], .slice A6 (allL k).length c6] w' fun e w'' => ∃ v, e = .returned v ∧ (∃ A c, v = .slice A ts.length c) ∧ Below wr.heap.size wr w'') :=
            Lib.hid fun hval w' h => (iGivesOf_any _ _ _ ts (allL k) l _ _ (HPR.out.bels h).ht (HPR.out.bels h).hl (HOA.out.bel h) (Nat.le_refl _) (by omega)).mono fun e w'' hh => by
              obtain ⟨v, rfl, hv, hb⟩ := hh
              obtain ⟨A, c, rfl, -, -, -⟩ := hv
              have e := HGV.out hval
              rw [e]
              exact ⟨_, rfl, ⟨A, c, by rw [← HKE.out]⟩, h.trans (hb.mono h.size)⟩
          have hp9 := HPR.out.lt
          clear hal1
          cases hval : validP ts l
          · have HVA := Lib.hid hval
            rw [hval] at H7
            clear H12 hval
            refine wp_region_seqV (Below wr.heap.size wr) (fun i => if i = 2 then some (fun v => ∃ A c, v = Value.slice A 0 c) else if i = 7 then some (fun v => v = Value.bool false) else none) (by kernel_rfl) (by kernel_rfl) (Below.refl _ _).drew ?_
            repeat (first
              | (refine SeqV.skip (by rfl) ?_; (try simp only [Act.put, List.setIfInBounds_toArray, List.set_cons_zero, List.set_cons_succ]))
              | (refine SeqV.pure (v := ?_) (by rfl) (by rfl) (fun w' hSw => ?_) ?_; rotate_left; (obtain ⟨hc9, hf9⟩ := bcell hSw; go_simp; with_reducible rfl); (try simp only [Act.put, List.setIfInBounds_toArray, List.set_cons_zero, List.set_cons_succ]))
              | fail)
            refine SeqV.call (f := ?_) (args := ?_) _ (by rfl) (by rfl) (fun w' => ?_) (fun w' hSw => ?_) (fun v hv => ?_)
            rotate_left 2
            · go_simp; constructor; (with_reducible rfl); (with_reducible rfl)
            · exact H2.out _ hSw
            obtain ⟨A8, c8, rfl⟩ := hv
            (try simp only [Act.put, List.setIfInBounds_toArray, List.set_cons_zero, List.set_cons_succ])
            repeat (first
              | (refine SeqV.skip (by rfl) ?_; (try simp only [Act.put, List.setIfInBounds_toArray, List.set_cons_zero, List.set_cons_succ]))
              | (refine SeqV.pure (v := ?_) (by rfl) (by rfl) (fun w' hSw => ?_) ?_; rotate_left; (obtain ⟨hc9, hf9⟩ := bcell hSw; go_simp; with_reducible rfl); (try simp only [Act.put, List.setIfInBounds_toArray, List.set_cons_zero, List.set_cons_succ]))
              | fail)
            refine SeqV.call (f := ?_) (args := ?_) _ (by rfl) (by rfl) (fun w' => ?_) (fun w' hSw => ?_) (fun v hv => ?_)
            rotate_left 2
            · go_simp; constructor; (with_reducible rfl); (with_reducible rfl)
            · exact H7.out _ hSw
            obtain rfl := hv
            (try simp only [Act.put, List.setIfInBounds_toArray, List.set_cons_zero, List.set_cons_succ])
            repeat (first
              | (refine SeqV.skip (by rfl) ?_; (try simp only [Act.put, List.setIfInBounds_toArray, List.set_cons_zero, List.set_cons_succ]))
              | (refine SeqV.pure (v := ?_) (by rfl) (by rfl) (fun w' hSw => ?_) ?_; rotate_left; (obtain ⟨hc9, hf9⟩ := bcell hSw; go_simp; with_reducible rfl); (try simp only [Act.put, List.setIfInBounds_toArray, List.set_cons_zero, List.set_cons_succ]))
              | fail)
            intro w2 hb2
            go_wp2_with (at_builtin; fail)
            go_ret
            exact ⟨rfl, HPR.out.bel.trans (hb2.mono HPR.out.bel.size)⟩
          · have H12' := Lib.hid (H12.out hval)
            rw [hval] at H7
            clear H12 hval
            refine wp_region_seqV (Below wr.heap.size wr) (fun i => if i = 2 then some (fun v => ∃ A c, v = Value.slice A 0 c) else if i = 7 then some (fun v => v = Value.bool true) else if i = 12 then some (fun v => ∃ A c, v = Value.slice A ts.length c) else none) (by kernel_rfl) (by kernel_rfl) (Below.refl _ _).drew ?_
            repeat (first
              | (refine SeqV.skip (by rfl) ?_; (try simp only [Act.put, List.setIfInBounds_toArray, List.set_cons_zero, List.set_cons_succ]))
              | (refine SeqV.pure (v := ?_) (by rfl) (by rfl) (fun w' hSw => ?_) ?_; rotate_left; (obtain ⟨hc9, hf9⟩ := bcell hSw; go_simp; with_reducible rfl); (try simp only [Act.put, List.setIfInBounds_toArray, List.set_cons_zero, List.set_cons_succ]))
              | fail)
            refine SeqV.call (f := ?_) (args := ?_) _ (by rfl) (by rfl) (fun w' => ?_) (fun w' hSw => ?_) (fun v hv => ?_)
            rotate_left 2
            · go_simp; constructor; (with_reducible rfl); (with_reducible rfl)
            · exact H2.out _ hSw
            obtain ⟨A8, c8, rfl⟩ := hv
            (try simp only [Act.put, List.setIfInBounds_toArray, List.set_cons_zero, List.set_cons_succ])
            repeat (first
              | (refine SeqV.skip (by rfl) ?_; (try simp only [Act.put, List.setIfInBounds_toArray, List.set_cons_zero, List.set_cons_succ]))
              | (refine SeqV.pure (v := ?_) (by rfl) (by rfl) (fun w' hSw => ?_) ?_; rotate_left; (obtain ⟨hc9, hf9⟩ := bcell hSw; go_simp; with_reducible rfl); (try simp only [Act.put, List.setIfInBounds_toArray, List.set_cons_zero, List.set_cons_succ]))
              | fail)
            refine SeqV.call (f := ?_) (args := ?_) _ (by rfl) (by rfl) (fun w' => ?_) (fun w' hSw => ?_) (fun v hv => ?_)
            rotate_left 2
            · go_simp; constructor; (with_reducible rfl); (with_reducible rfl)
            · exact H7.out _ hSw
            obtain rfl := hv
            (try simp only [Act.put, List.setIfInBounds_toArray, List.set_cons_zero, List.set_cons_succ])
            repeat (first
              | (refine SeqV.skip (by rfl) ?_; (try simp only [Act.put, List.setIfInBounds_toArray, List.set_cons_zero, List.set_cons_succ]))
              | (refine SeqV.pure (v := ?_) (by rfl) (by rfl) (fun w' hSw => ?_) ?_; rotate_left; (obtain ⟨hc9, hf9⟩ := bcell hSw; go_simp; with_reducible rfl); (try simp only [Act.put, List.setIfInBounds_toArray, List.set_cons_zero, List.set_cons_succ]))
              | fail)
            refine SeqV.call (f := ?_) (args := ?_) _ (by rfl) (by rfl) (fun w' => ?_) (fun w' hSw => ?_) (fun v hv => ?_)
            rotate_left 2
            · go_simp; constructor; (with_reducible rfl); (with_reducible rfl)
            · exact H12'.out _ hSw
            obtain ⟨A9, c9, rfl⟩ := hv
            (try simp only [Act.put, List.setIfInBounds_toArray, List.set_cons_zero, List.set_cons_succ])
            repeat (first
              | (refine SeqV.skip (by rfl) ?_; (try simp only [Act.put, List.setIfInBounds_toArray, List.set_cons_zero, List.set_cons_succ]))
              | (refine SeqV.pure (v := ?_) (by rfl) (by rfl) (fun w' hSw => ?_) ?_; rotate_left; (obtain ⟨hc9, hf9⟩ := bcell hSw; go_simp; with_reducible rfl); (try simp only [Act.put, List.setIfInBounds_toArray, List.set_cons_zero, List.set_cons_succ]))
              | fail)
            intro w2 hb2
            go_wp2_with (at_builtin; fail)
            go_ret
            exact ⟨rfl, HPR.out.bel.trans (hb2.mono HPR.out.bel.size)⟩
    · have hl1 : (0 : Int) < ((takeRes ts l).length : Int) := by
        have := List.length_pos_iff.2 ht0
        omega
      have hl2 : 0 < (takeRes ts l).length := by omega
      clear ht0
      go_wp2_with (at_builtin; fail)
      refine (sOpenIssues_any _ _ _ ts gv l _ _ HP5.out.ht HP5.out.hl HA5.out (Nat.le_refl _) (by omega)).mono ?_
      rintro e w6 ⟨v6, rfl, hv6, hb6⟩
      have HV6 := Lib.hid (HV5.out.bel hb6)
      have HW6 := Lib.hid hv6
      have HB6 := Lib.hid (HP5.out.bel.trans (hb6.mono HP5.out.bel.size))
      clear hb6 hv6
      go_wp2_with (at_builtin; fail)
      refine (bcInts_any _ _ _ _ _ _ HV6.out HW6.out).mono ?_
      rintro e w7 ⟨rfl, n7, rfl⟩
      rw [show eqP (openRes ts l gv) (openRes ts l gv) = true by simp [eqP]]
      go_wp2_with (at_builtin; fail)
      go_ret
      exact ⟨rfl, Below.drN HB6.out _⟩
  · have hn1 : (1048576 : Int) < n := by omega
    unfold maxLen at hm
    go_enter Try.func14, Try.ntmps14
    go_wp2_with fail
    go_ret
    exact ⟨rfl, Below.refl _ _⟩

end Go.Proofs.Ytgmipapdcihdpaa

/- Plain: every point is reached from point 0. No program in sight. -/
namespace Go.Proofs.Ytgmipapdcihdpaa

/-- point k is reached from point 0 -/
inductive Rch (pts : List Pt) : Nat → Prop
  | start : Rch pts 0
  | step {i k : Nat} {p : Pt} (h : Rch pts i) (hp : pts[i]? = some p) (hk : k ∈ p.next) : Rch pts k
def Emb (pts : List Pt) (at_ : Nat) (L : List Pt) : Prop := ∀ j p, L[j]? = some p → pts[at_ + j]? = some p
theorem Emb.head {pts : List Pt} {at_ : Nat} {p : Pt} {L : List Pt} (h : Emb pts at_ (p :: L)) : pts[at_]? = some p := h 0 p rfl
theorem Emb.tail {pts : List Pt} {at_ : Nat} {p : Pt} {L : List Pt} (h : Emb pts at_ (p :: L)) : Emb pts (at_ + 1) L := fun j q hj => by
  have := h (j + 1) q (by simpa using hj)
  rwa [show at_ + 1 + j = at_ + (j + 1) by omega]
theorem Emb.left {pts : List Pt} {at_ : Nat} {A B : List Pt} (h : Emb pts at_ (A ++ B)) : Emb pts at_ A := fun j q hj => h j q (by
  have hlt : j < A.length := (List.getElem?_eq_some_iff.1 hj).1
  rw [List.getElem?_append_left hlt]; exact hj)
theorem Emb.right {pts : List Pt} {at_ : Nat} {A B : List Pt} (h : Emb pts at_ (A ++ B)) : Emb pts (at_ + A.length) B := fun j q hj => by
  have := h (A.length + j) q (by rw [List.getElem?_append_right (by omega)]; simpa using hj)
  rwa [show at_ + A.length + j = at_ + (A.length + j) by omega]
mutual
theorem ptsSt_rch (pts : List Pt) (at_ : Nat) : ∀ s : St, Emb pts at_ (ptsSt at_ s) → Rch pts at_ → (∀ j, j < (ptsSt at_ s).length → Rch pts (at_ + j)) ∧ Rch pts (at_ + (ptsSt at_ s).length)
  | .mk op x y n th el => by
    have h1 := ptsL_rch pts (at_ + 1) th
    have h2 := ptsL_rch pts (at_ + 1 + (ptsL (at_ + 1) th).length + 1) el
    simp only [ptsSt]
    split
    · intro hE hR
      have hT := hE.tail
      obtain ⟨a1, a2⟩ := h1 hT.left (.step hR hE.head (by simp))
      have hJ := hT.right
      obtain ⟨b1, b2⟩ := h2 hJ.tail (.step hR hE.head (by simp))
      have hlen : ((⟨9, 0, 0, 0, [at_ + 1, at_ + 1 + (ptsL (at_ + 1) th).length + 1]⟩ : Pt) :: (ptsL (at_ + 1) th ++ ⟨10, 0, 0, 1, [at_ + 1 + (ptsL (at_ + 1) th).length + 1 + (ptsL (at_ + 1 + (ptsL (at_ + 1) th).length + 1) el).length]⟩ :: ptsL (at_ + 1 + (ptsL (at_ + 1) th).length + 1) el)).length = 1 + (ptsL (at_ + 1) th).length + 1 + (ptsL (at_ + 1 + (ptsL (at_ + 1) th).length + 1) el).length := by simp; omega
      rw [hlen]
      refine ⟨fun j hj => ?_, by rw [show at_ + (1 + (ptsL (at_ + 1) th).length + 1 + (ptsL (at_ + 1 + (ptsL (at_ + 1) th).length + 1) el).length) = at_ + 1 + (ptsL (at_ + 1) th).length + 1 + (ptsL (at_ + 1 + (ptsL (at_ + 1) th).length + 1) el).length by omega]; exact b2⟩
      rcases Nat.lt_or_ge j 1 with h | h
      · have : j = 0 := by omega
        subst this; exact hR
      · rcases Nat.lt_or_ge (j - 1) (ptsL (at_ + 1) th).length with h' | h'
        · have := a1 (j - 1) h'
          rwa [show at_ + 1 + (j - 1) = at_ + j by omega] at this
        · rcases Nat.lt_or_ge (j - 1) ((ptsL (at_ + 1) th).length + 1) with h'' | h''
          · rw [show at_ + j = at_ + 1 + (ptsL (at_ + 1) th).length by omega]; exact a2
          · have := b1 (j - 2 - (ptsL (at_ + 1) th).length) (by omega)
            rwa [show at_ + 1 + (ptsL (at_ + 1) th).length + 1 + (j - 2 - (ptsL (at_ + 1) th).length) = at_ + j by omega] at this
    · split
      · intro hE hR
        have hT := hE.tail
        obtain ⟨a1, a2⟩ := h1 hT.left (.step hR hE.head (by simp))
        have hlen : ((⟨10, 0, 0, 0, [at_ + 1, at_ + 1 + (ptsL (at_ + 1) th).length + 1]⟩ : Pt) :: (ptsL (at_ + 1) th ++ [⟨10, 0, 0, 1, [at_]⟩])).length = 1 + (ptsL (at_ + 1) th).length + 1 := by simp; omega
        rw [hlen]
        refine ⟨fun j hj => ?_, by rw [show at_ + (1 + (ptsL (at_ + 1) th).length + 1) = at_ + 1 + (ptsL (at_ + 1) th).length + 1 by omega]; exact .step hR hE.head (by simp)⟩
        rcases Nat.lt_or_ge j 1 with h | h
        · have : j = 0 := by omega
          subst this; exact hR
        · rcases Nat.lt_or_ge (j - 1) (ptsL (at_ + 1) th).length with h' | h'
          · have := a1 (j - 1) h'
            rwa [show at_ + 1 + (j - 1) = at_ + j by omega] at this
          · rw [show at_ + j = at_ + 1 + (ptsL (at_ + 1) th).length by omega]; exact a2
      · intro hE hR
        refine ⟨fun j hj => ?_, .step hR hE.head (by simp)⟩
        have : j = 0 := by simpa using hj
        subst this; exact hR
theorem ptsL_rch (pts : List Pt) (at_ : Nat) : ∀ l : List St, Emb pts at_ (ptsL at_ l) → Rch pts at_ → (∀ j, j < (ptsL at_ l).length → Rch pts (at_ + j)) ∧ Rch pts (at_ + (ptsL at_ l).length)
  | [] => by
    intro _ hR
    exact ⟨fun j hj => by simp [ptsL] at hj, by simpa [ptsL] using hR⟩
  | s :: r => by
    have h1 := ptsSt_rch pts at_ s
    have h2 := ptsL_rch pts (at_ + (ptsSt at_ s).length) r
    simp only [ptsL]
    intro hE hR
    obtain ⟨a1, a2⟩ := h1 hE.left hR
    obtain ⟨b1, b2⟩ := h2 hE.right a2
    rw [List.length_append]
    refine ⟨fun j hj => ?_, by rw [← Nat.add_assoc]; exact b2⟩
    rcases Nat.lt_or_ge j (ptsSt at_ s).length with h | h
    · exact a1 j h
    · have := b1 (j - (ptsSt at_ s).length) (by omega)
      rwa [show at_ + (ptsSt at_ s).length + (j - (ptsSt at_ s).length) = at_ + j by omega] at this
end
theorem ptsP_rch (l : List St) {k : Nat} (hk : k < (ptsP l).length) : Rch (ptsP l) k := by
  have hE : Emb (ptsP l) 0 (ptsL 0 l) := fun j p hj => by
    have hlt : j < (ptsL 0 l).length := (List.getElem?_eq_some_iff.1 hj).1
    unfold ptsP
    rw [Nat.zero_add, List.getElem?_append_left hlt]; exact hj
  obtain ⟨a1, a2⟩ := ptsL_rch (ptsP l) 0 l hE .start
  rw [ptsP_len] at hk
  rcases Nat.lt_or_ge k (ptsL 0 l).length with h | h
  · have := a1 k h; rwa [Nat.zero_add] at this
  · have : k = (ptsL 0 l).length := by omega
    rw [this]; rwa [Nat.zero_add] at a2
/-- on some way a variable has a value, or on some way it has none -/
theorem some_way {ts : List Int} {pts : List Pt} {gv i v : Nat} (hr : Rch pts i) (hv : v < ts.length) (hg : gv.testBit v = false) : Ac true ts pts gv i v ∨ Ac false ts pts 0 i v := by
  induction hr with
  | start => exact .inl (.init hv (by simp [accB, hg]))
  | @step i k p h hp hk ih =>
    rcases ih with ih | ih
    · cases hs : trB true ts p true v
      · refine .inr (.gen hp hk hv ?_)
        unfold trB at hs ⊢
        revert hs
        generalize (setBitP p.op p.x).testBit v = sb
        generalize (takenP ts p.op p.x p.y).testBit v = tk
        cases sb <;> cases tk <;> decide
      · exact .inl (.keep hp hk ih hs)
    · cases hs : trB false ts p true v
      · refine .inl (.gen hp hk hv ?_)
        unfold trB at hs ⊢
        revert hs
        generalize (setBitP p.op p.x).testBit v = sb
        generalize (takenP ts p.op p.x p.y).testBit v = tk
        cases sb <;> cases tk <;> decide
      · exact .inr (.keep hp hk ih hs)

end Go.Proofs.Ytgmipapdcihdpaa

/- FnGivesOf: the plain law, the walk. -/
namespace Go.Proofs.Ytgmipapdcihdpaa
open Go.RowKit

def lastA (ts : List Int) (l : List St) : Int := ((pointsP ts l).length : Int) - 1
theorem last_ok {ts : List Int} {l : List St} (hv : validP ts l = true) : graphOk ts l [lastA ts l] = true ∧ (lastA ts l).toNat = (ptsP l).length - 1 := by
  have hp := ptsP_pos l
  unfold lastA pointsP
  rw [if_pos hv]
  refine ⟨?_, by omega⟩
  simp only [graphOk, hv, Bool.true_and, List.all_cons, List.all_nil, Bool.and_true, withinP, Bool.and_eq_true, decide_eq_true_eq]; omega
theorem gives_law (ts : List Int) (l : List St) (gv : List Int) (hok : givOk ts gv = true) {v : Nat} (hv : v < ts.length) :
    ((hasP (alwaysRes ts l (lastA ts l)) v && !hasP (givesRes ts l gv) v) || (hasP (givesRes ts l gv) v && !hasP (maybeRes ts l (lastA ts l)) v && !hasP gv v)) = false := by
  cases hval : validP ts l
  · have h1 : alwaysRes ts l (lastA ts l) = [] := by
      unfold alwaysRes; rw [if_neg]; intro h; have := (graphOk_one h).1; rw [hval] at this; cases this
    have h2 : givesRes ts l gv = [] := by unfold givesRes; rw [if_neg (by rw [hval]; simp)]
    rw [h1, h2]; simp [hasP]
  · obtain ⟨hg, ht⟩ := last_ok hval
    have hp := ptsP_pos l
    have h1 : alwaysRes ts l (lastA ts l) = alwaysAt ts (ptsP l) 0 ((ptsP l).length - 1) := by unfold alwaysRes; rw [if_pos hg, ht]
    have h2 : maybeRes ts l (lastA ts l) = maybeAt ts (ptsP l) ((ptsP l).length - 1) := by unfold maybeRes; rw [if_pos hg, ht]
    have h3 : givesRes ts l gv = alwaysAt ts (ptsP l) (givM ts gv) ((ptsP l).length - 1) := by unfold givesRes; rw [if_pos ⟨hval, hok⟩]
    rw [h1, h2, h3]
    unfold alwaysAt maybeAt
    rw [lst_has, lst_has, lst_has, decide_eq_true hv]
    simp only [Bool.true_and]
    rw [Bool.or_eq_false_iff]
    constructor
    · cases ha : dec (Ac true ts (ptsP l) (givM ts gv) ((ptsP l).length - 1) v)
      · simp
      · rw [dec_true (ac_mono (dec_iff.1 ha))]; simp
    · cases hh : hasP gv (v : Nat)
      · have hgb : (givM ts gv).testBit v = false := by rw [givM, bm_bit, hh]; simp
        rcases some_way (ptsP_rch l (k := (ptsP l).length - 1) (by omega)) hv hgb with h | h
        · rw [dec_true h]; simp
        · rw [dec_true h]; simp
      · simp

set_option maxHeartbeats 8000000
set_option maxRecDepth 100000
theorem fnGivesOf_any (A : Option Addr) (n c : Nat) (w : World) (hb : Byt w w.heap.size A n) (hm : n ≤ maxLen) (hc : n ≤ c) :
    Calls Try.prog 13 #[.slice A n c] w (LawRet w) := by
  have HB := Lib.hid hb
  clear hb
  by_cases hn : n ≤ 1048576
  · go_enter Try.func13, Try.ntmps13
    go_wp2_with fail
    refine (drawGivesOf_any A n c _ HB.out hn hc).mono ?_
    rintro e w1 ⟨vt, vb, va, ts, l, gv, rfl, hit, hst, hts, hsz, hgi, hgl, hb1⟩
    have hA1 := bel_a w1 (.cells #[vt, vb] 26)
    have HP := Lib.hid (PgB.new hit hst hb1)
    have HA := Lib.hid (hgi.toS.bel hA1)
    obtain ⟨At, ct, rfl, hct⟩ := hit.slice
    obtain ⟨Ab, cb, rfl, hcb⟩ := hst.slice
    obtain ⟨Aa, ca, rfl, hca⟩ := hgi.slice
    clear hit hst hb1 hgi hA1
    go_wp2_with fail
    generalize w1.alloc (.cells #[.slice At ts.length ct, .slice Ab l.length cb] 26) = W1 at *
    obtain ⟨g, hg⟩ : ∃ g, g = w1.heap.size := ⟨_, rfl⟩
    rw [← hg] at HP ⊢
    clear hg
    refine (iGivesOf_any _ _ _ ts gv l _ _ HP.out.ht HP.out.hl HA.out (Nat.le_refl _) (by omega)).mono ?_
    rintro e w2 ⟨v2, rfl, hv2, hb2⟩
    have HP2 := Lib.hid (HP.out.bels hb2)
    have HA2 := Lib.hid (HA.out.bel hb2)
    have HV2 := Lib.hid hv2
    have c0 := HP2.out.c0
    have c1 := HP2.out.c1
    clear hv2 hb2
    go_wp2_with fail
    refine (sGivesOf_any _ _ _ ts gv l _ _ HP2.out.ht HP2.out.hl HA2.out (Nat.le_refl _) (by omega)).mono ?_
    rintro e w3 ⟨v3, rfl, hv3, hb3⟩
    have HP3 := Lib.hid (HP2.out.bels hb3)
    have HA3 := Lib.hid (HA2.out.bel hb3)
    have HV23 := Lib.hid (HV2.out.bel hb3)
    have HV3 := Lib.hid hv3
    clear hv3 hb3 c0 c1
    go_wp2_with fail
    refine (bcInts_any _ _ _ _ _ _ HV23.out HV3.out).mono ?_
    rintro e w4 ⟨rfl, n4, rfl⟩
    rw [show eqP (givesRes ts l gv) (givesRes ts l gv) = true by simp [eqP]]
    have HP4 := Lib.hid (HP3.out.bels (below_of_drewN ⟨n4, rfl⟩ _))
    have HA4 := Lib.hid (HA3.out.bel (below_of_drewN ⟨n4, rfl⟩ _))
    have HV4 := Lib.hid (HV23.out.bel (below_of_drewN ⟨n4, rfl⟩ _))
    generalize w3.drewN n4 = w4 at *
    have c0 := HP4.out.c0
    have c1 := HP4.out.c1
    go_wp2_with fail
    refine (iPointsOf_any _ _ ts l _ _ HP4.out.ht HP4.out.hl (Nat.le_refl _) (by omega)).mono ?_
    rintro e w5 ⟨v5, rfl, hps, hb5⟩
    have HP5 := Lib.hid (HP4.out.bels hb5)
    have HA5 := Lib.hid (HA4.out.bel hb5)
    have HV5 := Lib.hid (HV4.out.bel hb5)
    obtain ⟨Ap, cp, rfl, hcp, hpl⟩ := hps.slice
    have HLA : Hid (lastA ts l = ((pointsP ts l).length : Int) - 1) := Lib.hid rfl
    obtain ⟨np, hnp⟩ : ∃ np, np = (pointsP ts l).length := ⟨_, rfl⟩
    rw [← hnp] at hcp hpl HLA ⊢
    obtain ⟨la, hla⟩ : ∃ la, la = lastA ts l := ⟨_, rfl⟩
    have hw9 : IntKind.i64.wrap ((np : Int) - 1) = la := by rw [IntWalk.i64_in _ (by omega), hla, HLA.out]
    have hw8 : ((np : Int) - 1) = la := by rw [hla, HLA.out]
    have HLQ := Lib.hid hla
    have HW8 := Lib.hid hw8
    clear hb5 hps c0 c1 hnp hla hw8
    have c0 := HP5.out.c0
    have c1 := HP5.out.c1
    go_wp2_with fail
    refine (iAlwaysSet_any _ _ ts l la _ _ HP5.out.ht HP5.out.hl (Nat.le_refl _) (by omega)).mono ?_
    rintro e w6 ⟨v6, rfl, hv6, hb6⟩
    have HP6 := Lib.hid (HP5.out.bels hb6)
    have HA6 := Lib.hid (HA5.out.bel hb6)
    have HV6 := Lib.hid (HV5.out.bel hb6)
    have HW6 := Lib.hid hv6
    clear hb6 hv6 c0 c1
    have c0 := HP6.out.c0
    have c1 := HP6.out.c1
    go_wp2_with fail
    refine (iMaybeSet_any _ _ ts l la _ _ HP6.out.ht HP6.out.hl (Nat.le_refl _) (by omega)).mono ?_
    rintro e w7 ⟨v7, rfl, hv7, hb7⟩
    have HP7 := Lib.hid (HP6.out.bels hb7)
    have HA7 := Lib.hid (HA6.out.bel hb7)
    have HV7 := Lib.hid (HV6.out.bel hb7)
    have HW7 := Lib.hid (HW6.out.bel hb7)
    have HM7 := Lib.hid hv7
    clear hb7 hv7 c0 c1
    have c0 := HP7.out.c0
    have hgl2 : gv.length ≤ 1000 := hgl
    go_wp2_with fail
    go_loopw [9, 10] (fun f i wr => ∃ (k : Nat), k ≤ gv.length ∧ i = .int .i64 k ∧ f = .bool (givOk ts (gv.take k)) ∧ ∃ nq, wr = w7.drewN nq) (fun _ i _ => gv.length - (intOf i).toNat)
    case atStart => exact ⟨0, by omega, rfl, by simp [givOk], 0, rfl⟩
    case round =>
      obtain ⟨k, hk, rfl, rfl, nq0, hwr⟩ := hrel
      have HBN := Lib.hid (below_of_drewN ⟨nq0, hwr⟩ w7.heap.size)
      have d0 := (HBN.out.cell (p := ⟨g, 0, none⟩) HP7.out.lt).trans c0
      have HWR := Lib.hid hwr
      clear hwr
      by_cases hlt : k < gv.length
      · obtain ⟨A, c, e, _, _, hrd⟩ := HA7.out.low HBN.out (Nat.le_refl _)
        injection e with e1 e9 e2
        subst e1 e2
        clear e9
        obtain ⟨b, off, rfl, hbl, hcell⟩ := hrd.int_at hlt
        have hck := hcell k hlt
        rw [getD_lt hlt] at hck
        have HGT := Lib.hid (givOk_take (ts := ts) hlt)
        clear hcell hrd
        generalize gv[k] = x at *
        have HEND : ∀ (W : World) (f : Bool), (∃ m, W = wr.drewN m) → f = givOk ts (gv.take (k + 1)) → (∃ k_1, k_1 ≤ gv.length ∧ Value.int IntKind.i64 ((k : Int) + 1) = .int .i64 (k_1 : Nat) ∧ Value.bool f = .bool (givOk ts (gv.take k_1)) ∧ ∃ nq, W = w7.drewN nq) := by
          intro W f hW hf
          refine ⟨k + 1, by omega, by go_num, by rw [hf], ?_⟩
          obtain ⟨m, rfl⟩ := hW
          rw [HWR.out]
          exact drewN_two _ _ _
        have HE := Lib.hid HEND
        clear HEND
        cases hfi : givOk ts (gv.take k)
        · have HF := Lib.hid hfi
          clear hfi
          go_wp2_with fail
          go_quiet (fail)
          go_wp2_with fail
          exact ⟨HE.out _ _ ⟨_, rfl⟩ (by rw [HGT.out, HF.out]; rfl), by simp [intOf] <;> omega⟩
        · have HF := Lib.hid hfi
          clear hfi
          by_cases hx0 : 0 ≤ x
          · by_cases hx1 : x < (ts.length : Int)
            · have HX : Hid (withinP x 0 ((ts.length : Int) - 1) = true) := Lib.hid (by unfold withinP; simp; omega)
              obtain ⟨j, rfl⟩ := Int.eq_ofNat_of_zero_le hx0
              have hx3 : decide (j < ts.length) = true := by simp; omega
              have hx4 : decide ((j : Int) < (ts.length : Int)) = true := by simp; omega
              have hx5 : decide ((0 : Int) ≤ (j : Int)) = true := by simp
              go_wp2_with fail
              go_quiet (fail)
              go_wp2_with fail
              exact ⟨HE.out _ _ ⟨_, rfl⟩ (by rw [HGT.out, HF.out, HX.out]; rfl), by simp [intOf] <;> omega⟩
            · have HX : Hid (withinP x 0 ((ts.length : Int) - 1) = false) := Lib.hid (by unfold withinP; rw [decide_eq_false (p := x ≤ _) (by omega)]; simp)
              have hx4 : decide (x < (ts.length : Int)) = false := by simpa using hx1
              have hx5 : decide ((0 : Int) ≤ x) = true := by simpa using hx0
              go_wp2_with fail
              go_quiet (fail)
              go_wp2_with fail
              exact ⟨HE.out _ _ ⟨_, rfl⟩ (by rw [HGT.out, HF.out, HX.out]; rfl), by simp [intOf] <;> omega⟩
          · have HX : Hid (withinP x 0 ((ts.length : Int) - 1) = false) := Lib.hid (by unfold withinP; rw [decide_eq_false (p := (0 : Int) ≤ x) (by omega)]; simp)
            have hx5 : decide ((0 : Int) ≤ x) = false := by simpa using hx0
            go_wp2_with fail
            go_quiet (fail)
            go_wp2_with fail
            exact ⟨HE.out _ _ ⟨_, rfl⟩ (by rw [HGT.out, HF.out, HX.out]; rfl), by simp [intOf] <;> omega⟩
      · have hke : gv.take k = gv := List.take_of_length_le (by omega)
        rw [hke]
        have HPR := Lib.hid (HP7.out.bels HBN.out)
        have HAR := Lib.hid (HA7.out.bel HBN.out)
        have HVR := Lib.hid (HV7.out.bel HBN.out)
        have HWR7 := Lib.hid (HW7.out.bel HBN.out)
        have HMR := Lib.hid (HM7.out.bel HBN.out)
        have HLAW := Lib.hid (fun (h : givOk ts gv = true) v (hv : v < ts.length) => gives_law ts l gv h hv)
        clear hke
        generalize givOk ts gv = gok at *
        obtain ⟨wo, rfl⟩ : ∃ wo : World, wo = wr := ⟨_, rfl⟩
        have d9 := HPR.out.c0
        clear d0
        cases gok
        · go_wp2_with fail
          go_loop [11] (fun i => i = .int .i64 (0 : Nat)) (fun _ => 0)
          case atStart => rfl
          case round =>
            subst hrel
            by_cases hz : 0 < ts.length
            · have hz1 : (0 : Int) < (ts.length : Int) := by omega
              go_wp2_with fail
              go_ret
              exact ⟨rfl, HPR.out.bel⟩
            · have hz1 : ¬ (0 : Int) < (ts.length : Int) := by omega
              go_wp2_with fail
              go_ret
              exact ⟨rfl, HPR.out.bel⟩
        · go_wp2_with fail
          go_loop [11] (fun i => ∃ k : Nat, k ≤ ts.length ∧ i = .int .i64 k) (fun i => ts.length - (intOf i).toNat)
          case atStart => exact ⟨0, by omega, rfl⟩
          case round =>
            obtain ⟨k, hk, rfl⟩ := hrel
            by_cases hlt : k < ts.length
            · have hl := HLAW.out (by first | rfl | trivial) k hlt
              obtain ⟨a, ha⟩ : ∃ a, a = hasP (alwaysRes ts l la) k := ⟨_, rfl⟩
              obtain ⟨b, hb'⟩ : ∃ b, b = hasP (givesRes ts l gv) k := ⟨_, rfl⟩
              obtain ⟨m, hm'⟩ : ∃ m, m = hasP (maybeRes ts l la) k := ⟨_, rfl⟩
              obtain ⟨q, hq⟩ : ∃ q, q = hasP gv k := ⟨_, rfl⟩
              rw [← HLQ.out, ← ha, ← hb', ← hm', ← hq] at hl
              have H1 := Lib.hid ha
              have H2 := Lib.hid hb'
              have H3 := Lib.hid hm'
              have H4 := Lib.hid hq
              clear ha hb' hm' hq
              cases a
              · cases b
                · clear hl
                  go_wp2_with fail
                  refine (bcIn_any _ _ _ _ _ HWR7.out).mono ?_
                  rintro e w8 ⟨rfl, rfl⟩
                  rw [← H1.out]
                  go_wp2_with fail
                  refine (bcIn_any _ _ _ _ _ HVR.out).mono ?_
                  rintro e w8 ⟨rfl, rfl⟩
                  rw [← H2.out]
                  go_wp2_with fail
                  exact ⟨⟨k + 1, by omega, by go_num⟩, by simp [intOf] <;> omega⟩
                · cases m
                  · cases q
                    · revert hl; simp
                    · clear hl
                      go_wp2_with fail
                      refine (bcIn_any _ _ _ _ _ HWR7.out).mono ?_
                      rintro e w8 ⟨rfl, rfl⟩
                      rw [← H1.out]
                      go_wp2_with fail
                      refine (bcIn_any _ _ _ _ _ HVR.out).mono ?_
                      rintro e w8 ⟨rfl, rfl⟩
                      rw [← H2.out]
                      go_wp2_with fail
                      refine (bcIn_any _ _ _ _ _ HMR.out).mono ?_
                      rintro e w8 ⟨rfl, rfl⟩
                      rw [← H3.out]
                      go_wp2_with fail
                      refine (bcIn_any _ _ _ _ _ HAR.out).mono ?_
                      rintro e w8 ⟨rfl, rfl⟩
                      rw [← H4.out]
                      go_wp2_with fail
                      exact ⟨⟨k + 1, by omega, by go_num⟩, by simp [intOf] <;> omega⟩
                  · clear hl
                    go_wp2_with fail
                    refine (bcIn_any _ _ _ _ _ HWR7.out).mono ?_
                    rintro e w8 ⟨rfl, rfl⟩
                    rw [← H1.out]
                    go_wp2_with fail
                    refine (bcIn_any _ _ _ _ _ HVR.out).mono ?_
                    rintro e w8 ⟨rfl, rfl⟩
                    rw [← H2.out]
                    go_wp2_with fail
                    refine (bcIn_any _ _ _ _ _ HMR.out).mono ?_
                    rintro e w8 ⟨rfl, rfl⟩
                    rw [← H3.out]
                    go_wp2_with fail
                    exact ⟨⟨k + 1, by omega, by go_num⟩, by simp [intOf] <;> omega⟩
              · cases b
                · revert hl; cases m <;> cases q <;> simp
                · cases m
                  · cases q
                    · revert hl; simp
                    · clear hl
                      go_wp2_with fail
                      refine (bcIn_any _ _ _ _ _ HWR7.out).mono ?_
                      rintro e w8 ⟨rfl, rfl⟩
                      rw [← H1.out]
                      go_wp2_with fail
                      refine (bcIn_any _ _ _ _ _ HVR.out).mono ?_
                      rintro e w8 ⟨rfl, rfl⟩
                      rw [← H2.out]
                      go_wp2_with fail
                      refine (bcIn_any _ _ _ _ _ HVR.out).mono ?_
                      rintro e w8 ⟨rfl, rfl⟩
                      rw [← H2.out]
                      go_wp2_with fail
                      refine (bcIn_any _ _ _ _ _ HMR.out).mono ?_
                      rintro e w8 ⟨rfl, rfl⟩
                      rw [← H3.out]
                      go_wp2_with fail
                      refine (bcIn_any _ _ _ _ _ HAR.out).mono ?_
                      rintro e w8 ⟨rfl, rfl⟩
                      rw [← H4.out]
                      go_wp2_with fail
                      exact ⟨⟨k + 1, by omega, by go_num⟩, by simp [intOf] <;> omega⟩
                  · clear hl
                    go_wp2_with fail
                    refine (bcIn_any _ _ _ _ _ HWR7.out).mono ?_
                    rintro e w8 ⟨rfl, rfl⟩
                    rw [← H1.out]
                    go_wp2_with fail
                    refine (bcIn_any _ _ _ _ _ HVR.out).mono ?_
                    rintro e w8 ⟨rfl, rfl⟩
                    rw [← H2.out]
                    go_wp2_with fail
                    refine (bcIn_any _ _ _ _ _ HVR.out).mono ?_
                    rintro e w8 ⟨rfl, rfl⟩
                    rw [← H2.out]
                    go_wp2_with fail
                    refine (bcIn_any _ _ _ _ _ HMR.out).mono ?_
                    rintro e w8 ⟨rfl, rfl⟩
                    rw [← H3.out]
                    go_wp2_with fail
                    exact ⟨⟨k + 1, by omega, by go_num⟩, by simp [intOf] <;> omega⟩
            · go_wp2_with fail
              go_ret
              exact ⟨rfl, HPR.out.bel⟩
  · have hn1 : (1048576 : Int) < n := by omega
    unfold maxLen at hm
    go_enter Try.func13, Try.ntmps13
    go_wp2_with fail
    go_ret
    exact ⟨rfl, Below.refl _ _⟩

end Go.Proofs.Ytgmipapdcihdpaa

/- spec.l3Join, spec.l3Equal. -/
namespace Go.Proofs.Ytgmipapdcihdpaa
open Go.RowKit

def jnB (al o a : Bool) : Bool := if al then o && a else o || a
def joinP (al : Bool) (old aft : List Bool) : List Bool := (List.range aft.length).map fun v => if v < old.length then jnB al (old.getD v false) (aft.getD v false) else aft.getD v false
theorem join_len (al : Bool) (old aft : List Bool) : (joinP al old aft).length = aft.length := by simp [joinP]
theorem join_get (al : Bool) (old aft : List Bool) {v : Nat} (hv : v < aft.length) : (joinP al old aft).getD v false = if v < old.length then jnB al (old.getD v false) (aft.getD v false) else aft.getD v false := by
  rw [getD_lt (by rw [join_len]; exact hv)]; simp [joinP]
def JnRet (w : World) (al : Bool) (old aft : List Bool) (e : Ending) (w' : World) : Prop :=
  ∃ v, e = .returned v ∧ OBools w' w.heap.size v (joinP al old aft) ∧ Below w.heap.size w w'
theorem jn_same {al : Bool} {old aft r : List Bool} (hl : r.length = aft.length) (h : ∀ u, u < aft.length → r.getD u false = if u < old.length then jnB al (old.getD u false) (aft.getD u false) else aft.getD u false) : r = joinP al old aft := by
  refine List.ext_getElem (by rw [join_len, hl]) fun i h1 h2 => ?_
  have e1 := h i (by omega)
  rw [← join_get al old aft (by omega), getD_lt h1, getD_lt h2] at e1
  exact e1

set_option maxHeartbeats 4000000
set_option maxRecDepth 100000
theorem l3Join_any (vo va : Value) (al : Bool) (old aft : List Bool) (B : Nat) (w : World) (ho : BoolS w B vo old) (ha : BoolS w B va aft) (hB : B ≤ w.heap.size) (hlen : old.length ≤ aft.length) (h6 : aft.length ≤ 1000) :
    Calls Try.prog 96 #[vo, va, .bool al] w (JnRet w al old aft) := by
  have HO := Lib.hid ho
  have HF := Lib.hid ha
  obtain ⟨Ao, co, rfl, hco, -, -⟩ := ho
  obtain ⟨Af, cf, rfl, hcf, -, -⟩ := ha
  have HE := Lib.hid (OBools.empty w w.heap.size (Nat.le_refl _))
  have HB := Lib.hid (bel_a w (.cells #[] 4))
  go_enter Try.func96, Try.ntmps96
  go_wp2_with (at_builtin; go_must (refine wpList_app_bools rfl (.tmp 9) (.tmp 10) rfl w.heap.size _ [] rfl HE.out B _ aft rfl (HF.out.low HB.out hB) (by simp <;> omega) (by simp <;> omega) ?_); intro v' w1 hP' hG' hO')
  have HBW := Lib.hid (grown_new HB.out (g := w.heap.size) (by omega) hG')
  have HP := Lib.hid hP'
  obtain ⟨A', c', rfl, hc'⟩ := hP'.slice
  simp only [List.nil_append] at hc' HP ⊢
  clear hG' hO' hP'
  go_loopw [8] (fun i wr => ∃ (k : Nat) (r : List Bool), k ≤ old.length ∧ i = .int .i64 k ∧ OBools wr w.heap.size (.slice A' aft.length c') r ∧ r.length = aft.length ∧ (∀ u, u < aft.length → r.getD u false = if u < k then jnB al (old.getD u false) (aft.getD u false) else aft.getD u false) ∧ Below w.heap.size w wr) (fun i _ => old.length - (intOf i).toNat)
  case atStart => exact ⟨0, aft, by omega, rfl, HP.out, rfl, fun u _ => by simp, HBW.out⟩
  case round =>
    obtain ⟨k, r, hk, rfl, hO, hrl, hr, hbw⟩ := hrel
    have HOR := Lib.hid hO
    have HRL := Lib.hid hrl
    have HRR := Lib.hid hr
    have HBR := Lib.hid hbw
    clear hO hrl hr hbw
    by_cases hlt : k < old.length
    · have hlt2 : k < aft.length := by omega
      obtain ⟨A1, c1, e, -, -, hr1⟩ := HO.out.low HBR.out hB
      injection e with e1 e9 e2
      subst e1 e2
      clear e9
      obtain ⟨b1, off1, rfl, hbB1, hcell1⟩ := hr1.bool_at hlt
      have hck1 := hcell1 k hlt
      obtain ⟨A2, c2, e, -, -, hr2⟩ := HF.out.low HBR.out hB
      injection e with e1 e9 e2
      subst e1 e2
      clear e9
      obtain ⟨b2, off2, rfl, hbB2, hcell2⟩ := hr2.bool_at hlt2
      have hck2 := hcell2 k hlt2
      clear hcell1 hcell2 hr1 hr2
      obtain ⟨g, rfl, hbg, hgl, -, hcg, hfg⟩ := HOR.out.at_ (k := k) (by rw [HRL.out]; omega)
      have HEND : ∀ x, x = jnB al (old.getD k false) (aft.getD k false) → ∀ W, W = wr.setCell ⟨g, k, none⟩ (.bool x) → (∃ (k_1 : Nat) (r : List Bool), k_1 ≤ old.length ∧ Value.int IntKind.i64 ((k : Int) + 1) = .int .i64 k_1 ∧ OBools W w.heap.size (.slice (some ⟨g, 0, none⟩) aft.length c') r ∧ r.length = aft.length ∧ (∀ u, u < aft.length → r.getD u false = if u < k_1 then jnB al (old.getD u false) (aft.getD u false) else aft.getD u false) ∧ Below w.heap.size w W) := by
        intro x hx W hW
        subst hW
        refine ⟨k + 1, r.set k x, by omega, by go_num, HOR.out.set k x, by rw [List.length_set]; exact HRL.out, fun u hu => ?_, HBR.out.setCell (p := ⟨g, k, none⟩) (by show w.heap.size ≤ g; omega) _⟩
        rw [getD_setB (by rw [HRL.out]; omega)]
        by_cases huk : u = k
        · rw [huk, if_pos rfl, if_pos (by omega), hx]
        · rw [if_neg huk, HRR.out u hu]
          by_cases h1 : u < k
          · rw [if_pos h1, if_pos (by omega)]
          · rw [if_neg h1, if_neg (by omega)]
      have HN := Lib.hid HEND
      clear HEND
      generalize old.getD k false = x at *
      generalize aft.getD k false = y at *
      cases al <;> cases x
      · go_wp2_with (at_builtin; fail)
        exact ⟨HN.out _ (by simp [jnB]) _ rfl, by simp [intOf] <;> omega⟩
      · go_wp2_with (at_builtin; fail)
        exact ⟨HN.out _ (by simp [jnB]) _ rfl, by simp [intOf] <;> omega⟩
      · go_wp2_with (at_builtin; fail)
        exact ⟨HN.out _ (by simp [jnB]) _ rfl, by simp [intOf] <;> omega⟩
      · go_wp2_with (at_builtin; fail)
        exact ⟨HN.out _ (by simp [jnB]) _ rfl, by simp [intOf] <;> omega⟩
    · have hke : k = old.length := by omega
      have HKE := Lib.hid hke
      clear hke
      go_wp2_with (at_builtin; fail)
      go_ret
      refine ⟨_, rfl, ?_, HBR.out⟩
      rw [← jn_same HRL.out fun u hu => by rw [HRR.out u hu, HKE.out]]
      rw [OBools, HRL.out]
      have := HOR.out
      rw [OBools, HRL.out] at this
      exact this

theorem l3Equal_any (va vb : Value) (la lb : List Bool) (B : Nat) (w : World) (ha : BoolS w B va la) (hb : BoolS w B vb lb) (hl : la.length = lb.length) :
    Calls Try.prog 97 #[va, vb] w fun e w' => e = .returned (.bool (decide (la = lb))) ∧ ∃ n, w' = w.drewN n := by
  obtain ⟨A, c, rfl, hc, hm, hr⟩ := ha
  obtain ⟨A', c', rfl, hc', hm', hr'⟩ := hb
  have HL := Lib.hid hl
  have HR := Lib.hid hr
  have HR' := Lib.hid hr'
  have hl2 : la.length ≤ lb.length := by omega
  have hl3 : ((la.length : Int) == (lb.length : Int)) = true := by simp [hl]
  clear hl hr hr'
  go_enter Try.func97, Try.ntmps97
  go_wp2_with fail
  go_loopw [5] (fun i wr => ∃ k : Nat, k ≤ la.length ∧ i = .int .i64 k ∧ la.take k = lb.take k ∧ ∃ n, wr = w.drewN n) (fun i _ => la.length - (intOf i).toNat)
  case atStart => exact ⟨0, Nat.zero_le _, rfl, by simp, 0, rfl⟩
  case round =>
    obtain ⟨k, hk, rfl, hn, n0, rfl⟩ := hrel
    have H := Lib.hid hn
    clear hn
    by_cases hlt : k < la.length
    · have hlt2 : k < lb.length := by omega
      obtain ⟨b, off, rfl, hb, hcell⟩ := HR.out.bool_at hlt
      have hck := hcell k hlt
      obtain ⟨b', off', rfl, hb', hcell'⟩ := HR'.out.bool_at hlt2
      have hck' := hcell' k hlt2
      have HG := Lib.hid (getD_lt (d := false) hlt)
      have HG' := Lib.hid (getD_lt (d := false) hlt2)
      clear hcell hcell'
      generalize la.getD k false = x at *
      generalize lb.getD k false = y at *
      cases x
      · cases y
        · go_wp2_with fail
          go_quiet (fail)
          go_wp2_with fail
          refine ⟨⟨k + 1, by omega, by go_num, ?_, _, rfl⟩, by simp [intOf] <;> omega⟩
          rw [take_succ_get la k hlt, take_succ_get lb k hlt2, H.out, ← HG.out, ← HG'.out]
        · go_wp2_with fail
          go_quiet (fail)
          go_wp2_with fail
          go_ret
          refine ⟨ret_bool ?_, drewN_two _ _ _⟩
          rw [eq_comm, decide_eq_false_iff_not]
          rintro rfl
          have := HG.out.trans HG'.out.symm
          cases this
      · cases y
        · go_wp2_with fail
          go_quiet (fail)
          go_wp2_with fail
          go_ret
          refine ⟨ret_bool ?_, drewN_two _ _ _⟩
          rw [eq_comm, decide_eq_false_iff_not]
          rintro rfl
          have := HG.out.trans HG'.out.symm
          cases this
        · go_wp2_with fail
          go_quiet (fail)
          go_wp2_with fail
          refine ⟨⟨k + 1, by omega, by go_num, ?_, _, rfl⟩, by simp [intOf] <;> omega⟩
          rw [take_succ_get la k hlt, take_succ_get lb k hlt2, H.out, ← HG.out, ← HG'.out]
    · obtain rfl : k = la.length := by omega
      go_wp2_with fail
      go_ret
      refine ⟨ret_bool ?_, _, rfl⟩
      have h := H.out
      rw [List.take_length, HL.out, List.take_length] at h
      simp [h]

end Go.Proofs.Ytgmipapdcihdpaa
