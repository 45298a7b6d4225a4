import Derived.Test.YtmaaaiccmllnlaaG25
import Derived.Test.YtmaaaiccmllnlaaG44
import Derived.Test.YtmaaaiccmllnlaaG41
import Derived.Test.YtmaaaiccmllnlaaG09
import Derived.Test.YtmaaaiccmllnlaaG10
import Derived.Test.YtmaaaiccmllnlaaG32
import Derived.Test.YtmaaaiccmllnlaaG24
import Derived.Test.YtmaaaiccmllnlaaG38
set_option linter.unusedVariables false

/- FnLoansIn: the plain law, the walk. -/
namespace Go.Proofs.Ytmaaaiccmllnlaa
open Go.RowKit

def fnd (LL : List Ln) (y : Int) (q : Nat) : Bool := (LL.take q).any fun x => ((x.pt : Nat) : Int) == y
theorem fnd_succ {LL : List Ln} {y : Int} {q : Nat} (h : q < LL.length) : fnd LL y (q + 1) = (fnd LL y q || ((LL[q].pt : Nat) : Int) == y) := by
  unfold fnd
  rw [List.take_add_one, List.getElem?_eq_getElem h, List.any_append]
  simp
theorem loans_in {ts : List Int} {l : List St} {a v : Int} {j : Nat} (hj : j < (flRes ts l Gloan (Cloan ts) a v).length) :
    fnd (lnL (pointsP ts l) (pointsP ts l).length) ((flRes ts l Gloan (Cloan ts) a v).getD j 0) (lnL (pointsP ts l) (pointsP ts l).length).length = true ∧ hasP (toRes l ts a) ((flRes ts l Gloan (Cloan ts) a v).getD j 0) = true ∧ ∃ x : Nat, v = x ∧ x < ts.length ∧ isRefP (ts.getD x 0) = true := by
  have hm : (flRes ts l Gloan (Cloan ts) a v).getD j 0 ∈ flRes ts l Gloan (Cloan ts) a v := by rw [getD_lt hj]; exact List.getElem_mem hj
  generalize (flRes ts l Gloan (Cloan ts) a v).getD j 0 = y at *
  unfold flRes at hm
  split at hm
  · rename_i hok
    have hv : 0 ≤ v ∧ v < ts.length := by have := hok.2; simp [withinP] at this; omega
    obtain ⟨hval, k0, hk0, hk0l⟩ := graphOk_one hok.1
    have G := Good.of_valid hval
    unfold flS at hm
    obtain ⟨k, hk, hf, rfl⟩ := lst_mem.1 hm
    obtain ⟨⟨p, hp, ho⟩, hl, hr⟩ := (dec_iff.1 hf).loanOf G
    refine ⟨?_, ?_, v.toNat, by omega, by omega, ?_⟩
    · have e : pointsP ts l = ptsP l := by unfold pointsP; rw [if_pos hval]
      rw [e]
      unfold fnd
      rw [List.take_length, List.any_eq_true]
      have hpk : ptD (ptsP l) k = p := by
        rw [ptD_get hk]
        rw [List.getElem?_eq_getElem hk] at hp
        injection hp
      refine ⟨⟨k, (ptD (ptsP l) k).op == 5, (ptD (ptsP l) k).y⟩, ?_, by simp⟩
      simp only [lnL, List.mem_map, List.mem_filter, List.mem_range]
      exact ⟨k, ⟨hk, by rw [hpk]; unfold loanB; rcases ho with h | h <;> simp [h]⟩, rfl⟩
    · unfold toRes
      rw [if_pos hok.1, lst_has, decide_eq_true hk, Bool.true_and]
      exact dec_true hl
    · unfold typeOfP at hr
      rw [if_pos (by omega), Int.toNat_natCast] at hr
      exact hr
  · simp at hm

set_option maxHeartbeats 8000000
set_option maxRecDepth 100000
theorem fnLoansIn_any (A : Option Addr) (n c : Nat) (w : World) (hb : Byt w w.heap.size A n) (hm : n ≤ maxLen) (hc : n ≤ c) :
    Calls Try.prog 10 #[.slice A n c] w (LawRet w) := by
  have HB := Lib.hid hb
  clear hb
  by_cases hn : n ≤ 1048576
  · go_enter Try.func10, Try.ntmps10
    go_wp2_with fail
    refine (drawLoansIn_any A n c _ HB.out hn hc).mono ?_
    rintro e w1 ⟨vt, vb, ts, l, a, v, rfl, hit, hst, hts, hsz, hb1⟩
    have HP1 := Lib.hid (PgB.new hit hst hb1)
    obtain ⟨At, ct, rfl, hct⟩ := hit.slice
    obtain ⟨Ab, cb, rfl, hcb⟩ := hst.slice
    clear hit hst hb1
    go_wp2_with fail
    generalize w1.alloc (.cells #[.slice At ts.length ct, .slice Ab l.length cb] 26) = W1 at *
    obtain ⟨g, hg⟩ : ∃ g, g = w1.heap.size := ⟨_, rfl⟩
    rw [← hg] at HP1 ⊢
    clear hg
    refine (iLoansIn_any _ _ ts l a v _ _ HP1.out.ht HP1.out.hl (Nat.le_refl _) (by omega)).mono ?_
    rintro e w2 ⟨v2, rfl, hv2, hb2⟩
    have HV_2 := Lib.hid hv2
    clear hv2
    have HP2 := Lib.hid (HP1.out.bels hb2)
    have c0 := HP2.out.c0
    have c1 := HP2.out.c1
    clear hb2
    go_wp2_with (at_builtin; fail)
    refine (sLoansIn_any _ _ ts l a v _ _ HP2.out.ht HP2.out.hl (Nat.le_refl _) (by omega)).mono ?_
    rintro e w3 ⟨v3, rfl, hv3, hb3⟩
    have HS_3 := Lib.hid hv3
    clear hv3
    have HV_3 := Lib.hid (HV_2.out.bel hb3)
    have HP3 := Lib.hid (HP2.out.bels hb3)
    clear c0 c1
    have c0 := HP3.out.c0
    have c1 := HP3.out.c1
    clear hb3
    go_wp2_with fail
    refine (bcInts_any _ _ _ _ _ _ HV_3.out HS_3.out).mono ?_
    rintro e w4 ⟨rfl, n4, rfl⟩
    rw [show eqP (flRes ts l Gloan (Cloan ts) a v) (flRes ts l Gloan (Cloan ts) a v) = true by simp [eqP]]
    have hb4 := below_of_drewN (w := w3) ⟨n4, rfl⟩ w3.heap.size
    have HV_4 := Lib.hid (HV_3.out.bel hb4)
    have HS_4 := Lib.hid (HS_3.out.bel hb4)
    have HP4 := Lib.hid (HP3.out.bels hb4)
    clear c0 c1
    have c0 := HP4.out.c0
    have c1 := HP4.out.c1
    clear hb4
    generalize w3.drewN n4 = w4 at *
    go_wp2_with (at_builtin; fail)
    refine (iPathsTo_any _ _ ts l a _ _ HP4.out.ht HP4.out.hl (Nat.le_refl _) (by omega)).mono ?_
    rintro e w5 ⟨v5, rfl, hv5, hb5⟩
    have HT_5 := Lib.hid hv5
    clear hv5
    have HV_5 := Lib.hid (HV_4.out.bel hb5)
    have HP5 := Lib.hid (HP4.out.bels hb5)
    clear c0 c1
    have c0 := HP5.out.c0
    have c1 := HP5.out.c1
    clear hb5
    go_wp2_with (at_builtin; fail)
    refine (iLoansOf_any _ _ ts l _ _ HP5.out.ht HP5.out.hl (Nat.le_refl _) (by omega)).mono ?_
    rintro e w6 ⟨v6, rfl, hv6, hb6⟩
    have HL_6 := Lib.hid hv6
    obtain ⟨A3, k3, rfl, hk3⟩ := hv6.slice
    clear hv6
    have HV_6 := Lib.hid (HV_5.out.bel hb6)
    have HT_6 := Lib.hid (HT_5.out.bel hb6)
    have HP6 := Lib.hid (HP5.out.bels hb6)
    clear c0 c1
    have c0 := HP6.out.c0
    have c1 := HP6.out.c1
    clear hb6
    have HMK := Lib.hid (fun j hj => loans_in (ts := ts) (l := l) (a := a) (v := v) (j := j) hj)
    have hln1 := lnL_len (pointsP ts l) (pointsP ts l).length
    have hnp61 : (pointsP ts l).length ≤ 61 := by
      unfold pointsP
      split
      · rename_i hv; exact ptsP_le hv
      · simp
    generalize hLL : lnL (pointsP ts l) (pointsP ts l).length = LL at *
    clear hLL
    generalize flRes ts l Gloan (Cloan ts) a v = r at *
    obtain ⟨A2, c2, rfl, hc2, hm2, -⟩ := HV_6.out
    go_wp2_with (at_builtin; fail)
    go_loopw [9, 10, 11] (fun i _ _ wr => ∃ j : Nat, j ≤ r.length ∧ i = .int .i64 j ∧ Below w6.heap.size w6 wr) (fun i _ _ _ => r.length - (intOf i).toNat)
    case atStart => exact ⟨0, Nat.zero_le _, rfl, Below.refl _ _⟩
    case round =>
      obtain ⟨j, hj, rfl, hbw⟩ := hrel
      have HBW := Lib.hid hbw
      have HPW := Lib.hid (HP6.out.bels hbw)
      have HVR := Lib.hid (HV_6.out.bel hbw)
      have HLR := Lib.hid (HL_6.out.bel hbw)
      have HTR := Lib.hid (HT_6.out.bel hbw)
      clear hbw c0 c1
      by_cases hjl : j < r.length
      · obtain ⟨hs1, hs2, x, rfl, hx, hs3⟩ := HMK.out j hjl
        obtain ⟨A5, c5, e5, -, -, hr5⟩ := HVR.out
        injection e5 with e5 e9 e8
        subst e5 e8
        obtain ⟨b2, o2, rfl, hb2, hcell2⟩ := hr5.int_at hjl
        have d2 := hcell2 j hjl
        generalize r.getD j 0 = y at *
        have HS1 := Lib.hid hs1
        have HS2 := Lib.hid hs2
        have HS3 := Lib.hid hs3
        clear e9 hs1 hs2 hs3 hr5 hcell2
        go_wp2_with (at_builtin; fail)
        go_loopw [10, 11] (fun f q wq => ∃ q' : Nat, f = .bool (fnd LL y q') ∧ q = .int .i64 q' ∧ q' ≤ LL.length ∧ Below wr.heap.size wr wq) (fun _ q _ => LL.length - (intOf q).toNat)
        case atStart => exact ⟨0, by simp [fnd], rfl, Nat.zero_le _, Below.refl _ _⟩
        case round =>
          obtain ⟨q, rfl, rfl, hq, hbq⟩ := hrel
          have HBQ := Lib.hid hbq
          have hlq := HLR.out.bel hbq
          have d2q := belC hbq d2 hb2
          have hb2q : b2 < wr.heap.size := by have := hbq.size; omega
          clear hbq
          by_cases hql : q < LL.length
          · obtain ⟨b3, o3, rfl, hb3, x0, -, -⟩ := hlq.get hql
            have HSU := Lib.hid (fnd_succ (y := y) hql)
            generalize ((LL[q].pt : Nat) : Int) = z at *
            clear hlq
            cases hfb : fnd LL y q
            · have HFB := Lib.hid hfb
              rw [hfb] at HSU
              clear hfb
              go_wp2_with (at_builtin; fail)
              refine wp_region_held_drew (S := (fun w' => w'.cell? ⟨b3, o3 + q * 3, none⟩ = some (.int .i64 z) ∧ w'.cell? ⟨b2, o2 + j, none⟩ = some (.int .i64 y))) (by kernel_rfl) ?_ (fun hHeld => ?_)
              · exact ⟨x0, d2q⟩
              refine wpAnyH_take (i := 0) (oi := ⟨some 49, _, _, _, _, _⟩) (v := ?_) rfl (by kernel_rfl) (by kernel_rfl) (by kernel_rfl) (fun _ _ _ h => h) (Or.inl ⟨by rfl, fun w' hSw => ?_⟩) (by assumption) ?_
              rotate_left
              · (try dsimp only at hSw); go_simp; (try with_reducible rfl)
              (try simp only [Act.put, List.setIfInBounds_toArray, List.set_cons_zero, List.set_cons_succ])
              refine wpAnyH_take (i := 1) (oi := ⟨some 50, _, _, _, _, _⟩) (v := ?_) rfl (by kernel_rfl) (by kernel_rfl) (by kernel_rfl) (fun _ _ _ h => h) (Or.inl ⟨by rfl, fun w' hSw => ?_⟩) (by assumption) ?_
              rotate_left
              · (try dsimp only at hSw); go_simp; (try with_reducible rfl)
              (try simp only [Act.put, List.setIfInBounds_toArray, List.set_cons_zero, List.set_cons_succ])
              refine wpAnyH_take (i := 2) (oi := ⟨some 51, _, _, _, _, _⟩) (v := ?_) rfl (by kernel_rfl) (by kernel_rfl) (by kernel_rfl) (fun _ _ _ h => h) (Or.inl ⟨by rfl, fun w' hSw => ?_⟩) (by assumption) ?_
              rotate_left
              · (try dsimp only at hSw); go_simp; (try with_reducible rfl)
              (try simp only [Act.put, List.setIfInBounds_toArray, List.set_cons_zero, List.set_cons_succ])
              refine wpAnyH_take (i := 3) (oi := ⟨some 52, _, _, _, _, _⟩) (v := ?_) rfl (by kernel_rfl) (by kernel_rfl) (by kernel_rfl) (fun _ _ _ h => h) (Or.inl ⟨by rfl, fun w' hSw => ?_⟩) (by assumption) ?_
              rotate_left
              · (try dsimp only at hSw); go_simp; (try with_reducible rfl)
              (try simp only [Act.put, List.setIfInBounds_toArray, List.set_cons_zero, List.set_cons_succ])
              refine wpAnyH_take (i := 4) (oi := ⟨some 53, _, _, _, _, _⟩) (v := ?_) rfl (by kernel_rfl) (by kernel_rfl) (by kernel_rfl) (fun _ _ _ h => h) (Or.inl ⟨by rfl, fun w' hSw => ?_⟩) (by assumption) ?_
              rotate_left
              · (try dsimp only at hSw); go_simp; (try with_reducible rfl)
              (try simp only [Act.put, List.setIfInBounds_toArray, List.set_cons_zero, List.set_cons_succ])
              refine wpAnyH_take (i := 5) (oi := ⟨some 54, _, _, _, _, _⟩) (v := ?_) rfl (by kernel_rfl) (by kernel_rfl) (by kernel_rfl) (fun _ _ _ h => h) (Or.inl ⟨by rfl, fun w' hSw => ?_⟩) (by assumption) ?_
              rotate_left
              · (try dsimp only at hSw); go_simp; (try with_reducible rfl)
              (try simp only [Act.put, List.setIfInBounds_toArray, List.set_cons_zero, List.set_cons_succ])
              refine wpAnyH_take (i := 6) (oi := ⟨some 55, _, _, _, _, _⟩) (v := ?_) rfl (by kernel_rfl) (by kernel_rfl) (by kernel_rfl) (fun _ _ _ h => h) (Or.inl ⟨by rfl, fun w' hSw => ?_⟩) (by assumption) ?_
              rotate_left
              · (try dsimp only at hSw); go_simp; (try with_reducible rfl)
              (try simp only [Act.put, List.setIfInBounds_toArray, List.set_cons_zero, List.set_cons_succ])
              refine wpAnyH_take (i := 7) (oi := ⟨some 56, _, _, _, _, _⟩) (v := ?_) rfl (by kernel_rfl) (by kernel_rfl) (by kernel_rfl) (fun _ _ _ h => h) (Or.inl ⟨by rfl, fun w' hSw => ?_⟩) (by assumption) ?_
              rotate_left
              · (try dsimp only at hSw); go_simp; (try with_reducible rfl)
              (try simp only [Act.put, List.setIfInBounds_toArray, List.set_cons_zero, List.set_cons_succ])
              refine wpAnyH_take (i := 8) (oi := ⟨some 57, _, _, _, _, _⟩) (v := ?_) rfl (by kernel_rfl) (by kernel_rfl) (by kernel_rfl) (fun _ _ _ h => h) (Or.inl ⟨by rfl, fun w' hSw => ?_⟩) (by assumption) ?_
              rotate_left
              · (try dsimp only at hSw); go_simp; (try with_reducible rfl)
              (try simp only [Act.put, List.setIfInBounds_toArray, List.set_cons_zero, List.set_cons_succ])
              refine wpAnyH_take (i := 9) (oi := ⟨some 58, _, _, _, _, _⟩) (v := ?_) rfl (by kernel_rfl) (by kernel_rfl) (by kernel_rfl) (fun _ _ _ h => h) (Or.inl ⟨by rfl, fun w' hSw => ?_⟩) (by assumption) ?_
              rotate_left
              · (try dsimp only at hSw); go_simp; (try with_reducible rfl)
              (try simp only [Act.put, List.setIfInBounds_toArray, List.set_cons_zero, List.set_cons_succ])
              refine wpAnyH_take (i := 10) (oi := ⟨some 59, _, _, _, _, _⟩) (v := ?_) rfl (by kernel_rfl) (by kernel_rfl) (by kernel_rfl) (fun _ _ _ h => h) (Or.inl ⟨by rfl, fun w' hSw => ?_⟩) (by assumption) ?_
              rotate_left
              · (try dsimp only at hSw); go_simp; (try with_reducible rfl)
              (try simp only [Act.put, List.setIfInBounds_toArray, List.set_cons_zero, List.set_cons_succ])
              refine wpAnyH_take (i := 11) (oi := ⟨some 60, _, _, _, _, _⟩) (v := ?_) rfl (by kernel_rfl) (by kernel_rfl) (by kernel_rfl) (fun _ _ _ h => h) (Or.inl ⟨by rfl, fun w' hSw => ?_⟩) (by assumption) ?_
              rotate_left
              · (try dsimp only at hSw); go_simp; (try with_reducible rfl)
              (try simp only [Act.put, List.setIfInBounds_toArray, List.set_cons_zero, List.set_cons_succ])
              refine wpAnyH_take (i := 12) (oi := ⟨some 61, _, _, _, _, _⟩) (v := ?_) rfl (by kernel_rfl) (by kernel_rfl) (by kernel_rfl) (fun _ _ _ h => h) (Or.inl ⟨by rfl, fun w' hSw => ?_⟩) (by assumption) ?_
              rotate_left
              · (try dsimp only at hSw); go_simp; (try with_reducible rfl)
              (try simp only [Act.put, List.setIfInBounds_toArray, List.set_cons_zero, List.set_cons_succ])
              refine wpAnyH_take (i := 13) (oi := ⟨some 10, _, _, _, _, _⟩) (v := ?_) rfl (by kernel_rfl) (by kernel_rfl) (by kernel_rfl) (fun _ _ _ h => h) (Or.inl ⟨by rfl, fun w' hSw => ?_⟩) (by assumption) ?_
              rotate_left
              · (try dsimp only at hSw); go_simp; (try with_reducible rfl)
              (try simp only [Act.put, List.setIfInBounds_toArray, List.set_cons_zero, List.set_cons_succ])
              refine wpAnyH_done (by kernel_rfl) ?_ _
              have hb9 := HBQ.out.drew
              go_wp2_with (at_builtin; fail)
              exact ⟨⟨q + 1, by rw [HSU.out]; rfl, by go_num, by omega, hb9⟩, by simp [intOf] <;> omega⟩
            · have HFB := Lib.hid hfb
              rw [hfb] at HSU
              clear hfb
              go_wp2_with (at_builtin; fail)
              refine wp_region_held_drew (S := (fun w' => w'.cell? ⟨b3, o3 + q * 3, none⟩ = some (.int .i64 z) ∧ w'.cell? ⟨b2, o2 + j, none⟩ = some (.int .i64 y))) (by kernel_rfl) ?_ (fun hHeld => ?_)
              · exact ⟨x0, d2q⟩
              refine wpAnyH_take (i := 0) (oi := ⟨some 49, _, _, _, _, _⟩) (v := ?_) rfl (by kernel_rfl) (by kernel_rfl) (by kernel_rfl) (fun _ _ _ h => h) (Or.inl ⟨by rfl, fun w' hSw => ?_⟩) (by assumption) ?_
              rotate_left
              · (try dsimp only at hSw); go_simp; (try with_reducible rfl)
              (try simp only [Act.put, List.setIfInBounds_toArray, List.set_cons_zero, List.set_cons_succ])
              refine wpAnyH_take (i := 1) (oi := ⟨some 50, _, _, _, _, _⟩) (v := ?_) rfl (by kernel_rfl) (by kernel_rfl) (by kernel_rfl) (fun _ _ _ h => h) (Or.inl ⟨by rfl, fun w' hSw => ?_⟩) (by assumption) ?_
              rotate_left
              · (try dsimp only at hSw); go_simp; (try with_reducible rfl)
              (try simp only [Act.put, List.setIfInBounds_toArray, List.set_cons_zero, List.set_cons_succ])
              refine wpAnyH_take (i := 2) (oi := ⟨some 51, _, _, _, _, _⟩) (v := undef) rfl (by kernel_rfl) (by kernel_rfl) (by kernel_rfl) (fun _ _ _ h => h) (Or.inr ⟨by rfl, rfl⟩) (by assumption) ?_
              (try simp only [Act.put, List.setIfInBounds_toArray, List.set_cons_zero, List.set_cons_succ])
              refine wpAnyH_take (i := 3) (oi := ⟨some 52, _, _, _, _, _⟩) (v := undef) rfl (by kernel_rfl) (by kernel_rfl) (by kernel_rfl) (fun _ _ _ h => h) (Or.inr ⟨by rfl, rfl⟩) (by assumption) ?_
              (try simp only [Act.put, List.setIfInBounds_toArray, List.set_cons_zero, List.set_cons_succ])
              refine wpAnyH_take (i := 4) (oi := ⟨some 53, _, _, _, _, _⟩) (v := undef) rfl (by kernel_rfl) (by kernel_rfl) (by kernel_rfl) (fun _ _ _ h => h) (Or.inr ⟨by rfl, rfl⟩) (by assumption) ?_
              (try simp only [Act.put, List.setIfInBounds_toArray, List.set_cons_zero, List.set_cons_succ])
              refine wpAnyH_take (i := 5) (oi := ⟨some 54, _, _, _, _, _⟩) (v := undef) rfl (by kernel_rfl) (by kernel_rfl) (by kernel_rfl) (fun _ _ _ h => h) (Or.inr ⟨by rfl, rfl⟩) (by assumption) ?_
              (try simp only [Act.put, List.setIfInBounds_toArray, List.set_cons_zero, List.set_cons_succ])
              refine wpAnyH_take (i := 6) (oi := ⟨some 55, _, _, _, _, _⟩) (v := undef) rfl (by kernel_rfl) (by kernel_rfl) (by kernel_rfl) (fun _ _ _ h => h) (Or.inr ⟨by rfl, rfl⟩) (by assumption) ?_
              (try simp only [Act.put, List.setIfInBounds_toArray, List.set_cons_zero, List.set_cons_succ])
              refine wpAnyH_take (i := 7) (oi := ⟨some 56, _, _, _, _, _⟩) (v := undef) rfl (by kernel_rfl) (by kernel_rfl) (by kernel_rfl) (fun _ _ _ h => h) (Or.inr ⟨by rfl, rfl⟩) (by assumption) ?_
              (try simp only [Act.put, List.setIfInBounds_toArray, List.set_cons_zero, List.set_cons_succ])
              refine wpAnyH_take (i := 8) (oi := ⟨some 57, _, _, _, _, _⟩) (v := undef) rfl (by kernel_rfl) (by kernel_rfl) (by kernel_rfl) (fun _ _ _ h => h) (Or.inr ⟨by rfl, rfl⟩) (by assumption) ?_
              (try simp only [Act.put, List.setIfInBounds_toArray, List.set_cons_zero, List.set_cons_succ])
              refine wpAnyH_take (i := 9) (oi := ⟨some 58, _, _, _, _, _⟩) (v := undef) rfl (by kernel_rfl) (by kernel_rfl) (by kernel_rfl) (fun _ _ _ h => h) (Or.inr ⟨by rfl, rfl⟩) (by assumption) ?_
              (try simp only [Act.put, List.setIfInBounds_toArray, List.set_cons_zero, List.set_cons_succ])
              refine wpAnyH_take (i := 10) (oi := ⟨some 59, _, _, _, _, _⟩) (v := undef) rfl (by kernel_rfl) (by kernel_rfl) (by kernel_rfl) (fun _ _ _ h => h) (Or.inr ⟨by rfl, rfl⟩) (by assumption) ?_
              (try simp only [Act.put, List.setIfInBounds_toArray, List.set_cons_zero, List.set_cons_succ])
              refine wpAnyH_take (i := 11) (oi := ⟨some 60, _, _, _, _, _⟩) (v := undef) rfl (by kernel_rfl) (by kernel_rfl) (by kernel_rfl) (fun _ _ _ h => h) (Or.inr ⟨by rfl, rfl⟩) (by assumption) ?_
              (try simp only [Act.put, List.setIfInBounds_toArray, List.set_cons_zero, List.set_cons_succ])
              refine wpAnyH_take (i := 12) (oi := ⟨some 61, _, _, _, _, _⟩) (v := ?_) rfl (by kernel_rfl) (by kernel_rfl) (by kernel_rfl) (fun _ _ _ h => h) (Or.inl ⟨by rfl, fun w' hSw => ?_⟩) (by assumption) ?_
              rotate_left
              · (try dsimp only at hSw); go_simp; (try with_reducible rfl)
              (try simp only [Act.put, List.setIfInBounds_toArray, List.set_cons_zero, List.set_cons_succ])
              refine wpAnyH_take (i := 13) (oi := ⟨some 10, _, _, _, _, _⟩) (v := ?_) rfl (by kernel_rfl) (by kernel_rfl) (by kernel_rfl) (fun _ _ _ h => h) (Or.inl ⟨by rfl, fun w' hSw => ?_⟩) (by assumption) ?_
              rotate_left
              · (try dsimp only at hSw); go_simp; (try with_reducible rfl)
              (try simp only [Act.put, List.setIfInBounds_toArray, List.set_cons_zero, List.set_cons_succ])
              refine wpAnyH_done (by kernel_rfl) ?_ _
              have hb9 := HBQ.out.drew
              go_wp2_with (at_builtin; fail)
              exact ⟨⟨q + 1, by rw [HSU.out]; rfl, by go_num, by omega, hb9⟩, by simp [intOf] <;> omega⟩
          · obtain rfl : q = LL.length := by omega
            rw [HS1.out]
            have HPQ := Lib.hid (HPW.out.bels HBQ.out)
            have HTQ := Lib.hid (HTR.out.bel HBQ.out)
            have c0 := HPQ.out.c0
            have c1 := HPQ.out.c1
            obtain ⟨A6, c6, e6, -, -, hr6⟩ := HPQ.out.ht
            injection e6 with e6 e9 e8
            subst e6 e8
            obtain ⟨b4, o4, rfl, hb4, hcell4⟩ := hr6.int_at hx
            have d4 := hcell4 x hx
            generalize ts.getD x 0 = tx at *
            clear hlq hr6 hcell4 e9
            go_wp2_with (at_builtin; fail)
            refine (isRef_any _ _).mono ?_
            rintro e w8 ⟨rfl, rfl⟩
            rw [HS3.out]
            go_wp2_with (at_builtin; fail)
            refine (bcIn_any _ _ _ _ _ HTQ.out).mono ?_
            rintro e w9 ⟨rfl, rfl⟩
            rw [HS2.out]
            go_wp2_with (at_builtin; fail)
            exact ⟨⟨j + 1, by omega, by go_num, HBW.out.trans (HBQ.out.mono HBW.out.size)⟩, by simp [intOf] <;> omega⟩
      · go_wp2_with (at_builtin; fail)
        go_ret
        exact ⟨rfl, HPW.out.bel⟩
  · have hn1 : (1048576 : Int) < n := by omega
    unfold maxLen at hm
    go_enter Try.func10, Try.ntmps10
    go_wp2_with fail
    go_ret
    exact ⟨rfl, Below.refl _ _⟩

end Go.Proofs.Ytmaaaiccmllnlaa
