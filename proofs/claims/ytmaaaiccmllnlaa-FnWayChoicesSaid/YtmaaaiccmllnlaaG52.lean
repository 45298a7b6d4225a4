import Derived.Test.YtmaaaiccmllnlaaG50
import Derived.Test.YtmaaaiccmllnlaaG51
import Derived.Test.YtmaaaiccmllnlaaG45
import Derived.Test.YtmaaaiccmllnlaaG10
import Derived.Test.YtmaaaiccmllnlaaG12
import Derived.Test.YtmaaaiccmllnlaaG28
import Derived.Test.YtmaaaiccmllnlaaG38
import Derived.Test.YtmaaaiccmllnlaaG20
set_option linter.unusedVariables false

/- FnWayChoices: the plain law, the walk. -/
namespace Go.Proofs.Ytmaaaiccmllnlaa
open Go.RowKit

mutual
theorem ptsSt_n11 (ts : List Int) (at_ d : Nat) : ∀ s : St, stOk ts d s = true → ∀ p ∈ ptsSt at_ s, p.op ≠ 11
  | .mk op x y n th el => by
    have h1 := fun a d => ptsL_n11 ts a d th
    have h2 := fun a d => ptsL_n11 ts a d el
    intro hs p hp
    simp only [stOk] at hs
    simp only [ptsSt] at hp
    split at hp
    · rename_i ho
      rw [if_pos (by simp [isBranchP, ho])] at hs
      simp only [Bool.and_eq_true] at hs
      simp only [List.mem_cons, List.mem_append] at hp
      rcases hp with rfl | hp | rfl | hp
      · simp
      · exact h1 _ _ hs.1.2 p hp
      · simp
      · exact h2 _ _ hs.2 p hp
    · split at hp
      · rename_i ho2
        rw [if_pos (by simp [isBranchP, ho2])] at hs
        simp only [Bool.and_eq_true] at hs
        simp only [List.mem_cons, List.mem_append, List.not_mem_nil, or_false] at hp
        rcases hp with rfl | hp | rfl
        · simp
        · exact h1 _ _ hs.1.2 p hp
        · simp
      · rename_i ho1 ho2
        rw [if_neg (by simp [isBranchP, ho1, ho2])] at hs
        simp only [Bool.and_eq_true] at hs
        simp only [List.mem_singleton] at hp
        subst hp
        intro h11
        have h11' : op = 11 := h11
        subst h11'
        have := hs.2
        simp [simpleP] at this
theorem ptsL_n11 (ts : List Int) (at_ d : Nat) : ∀ l : List St, slOk ts d l = true → ∀ p ∈ ptsL at_ l, p.op ≠ 11
  | [] => by simp [ptsL]
  | s :: r => by
    have h1 := ptsSt_n11 ts at_ d s
    have h2 := ptsL_n11 ts (at_ + (ptsSt at_ s).length) d r
    intro hs p hp
    simp only [slOk, Bool.and_eq_true] at hs
    simp only [ptsL, List.mem_append] at hp
    rcases hp with hp | hp
    · exact h1 hs.1 p hp
    · exact h2 hs.2 p hp
end
theorem ptsP_exit {ts : List Int} {l : List St} (h : validP ts l = true) : ∀ p ∈ ptsP l, p.op = 11 → p.next = [] := by
  intro p hp ho
  simp only [ptsP, List.mem_append, List.mem_singleton] at hp
  rcases hp with hp | rfl
  · exact absurd ho (ptsL_n11 ts 0 4 l (valid_parts h).2.1 p hp)
  · rfl
theorem wc_law {ts : List Int} {l : List St} {rs c : List Int} (h : wcO ts l rs = some c) (hl : rs.length ≤ 100) : ∃ t, msk (runRes ts l c (rs.length : Nat)).1 = rs ++ t := by
  unfold wcO at h
  split at h
  · rename_i hv
    have GD := Good.of_valid hv
    unfold wcP at h
    split at h
    · rename_i h0
      cases rs with
      | nil => simp at h0
      | cons a r =>
        simp only [List.headD_cons] at h0
        subst h0
        rw [List.drop_one, List.tail_cons] at h
        obtain ⟨t, ht⟩ := runF_way (pts := ptsP l) (a := 0) (m := (0 :: r : List Int).length) GD.next2 (ptsP_exit hv) h (by simp)
        refine ⟨t, ?_⟩
        unfold runRes
        rw [if_pos ⟨hv, by simp only [withinP, Bool.and_eq_true, decide_eq_true_eq]; omega⟩, Int.toNat_natCast]
        simpa using ht
    · cases h
  · cases h

set_option maxHeartbeats 8000000
set_option maxRecDepth 100000
theorem fnWayChoices_any (A : Option Addr) (n c : Nat) (w : World) (hb : Byt w w.heap.size A n) (hm : n ≤ maxLen) (hc : n ≤ c) :
    Calls Try.prog 8 #[.slice A n c] w (LawRet w) := by
  have HB := Lib.hid hb
  clear hb
  by_cases hn : n ≤ 1048576
  · go_enter Try.func8, Try.ntmps8
    go_wp2_with fail
    refine (drawWayChoices_any A n c _ HB.out hn hc).mono ?_
    rintro e w1 ⟨vt, vb, vr, ts, l, rs, rfl, hit, hst, hrs, hts, hsz, hrl, hb1⟩
    have HP1 := Lib.hid (PgB.new hit hst hb1)
    have HR_1 := Lib.hid ((hrs.toS).bel (bel_a w1 (.cells #[vt, vb] 26)))
    obtain ⟨At, ct, rfl, hct⟩ := hit.slice
    obtain ⟨Ar, cr, rfl, hcr⟩ := hrs.slice
    obtain ⟨Ab, cb, rfl, hcb⟩ := hst.slice
    clear hit hst hrs hb1
    go_wp2_with fail
    generalize w1.alloc (.cells #[.slice At ts.length ct, .slice Ab l.length cb] 26) = W1 at *
    obtain ⟨g, hg⟩ : ∃ g, g = w1.heap.size := ⟨_, rfl⟩
    rw [← hg] at HP1 ⊢
    clear hg
    refine (iWayChoices_any _ _ _ ts rs l _ _ HP1.out.ht HP1.out.hl HR_1.out (Nat.le_refl _) (by omega) (by omega)).mono ?_
    rintro e w2 ⟨v2, rfl, hv2, hb2⟩
    have HV_2 := Lib.hid hv2
    clear hv2
    have HR_2 := Lib.hid (HR_1.out.bel hb2)
    have HP2 := Lib.hid (HP1.out.bels hb2)
    have c0 := HP2.out.c0
    have c1 := HP2.out.c1
    clear hb2
    go_wp2_with (at_builtin; fail)
    refine (sWayChoices_any _ _ _ ts rs l _ _ HP2.out.ht HP2.out.hl HR_2.out (Nat.le_refl _) (by omega) (by omega)).mono ?_
    rintro e w3 ⟨v3, rfl, hv3, hb3⟩
    have HS_3 := Lib.hid hv3
    clear hv3
    have HR_3 := Lib.hid (HR_2.out.bel hb3)
    have HV_3 := Lib.hid (HV_2.out.bel hb3)
    have HP3 := Lib.hid (HP2.out.bels hb3)
    clear c0 c1
    have c0 := HP3.out.c0
    have c1 := HP3.out.c1
    clear hb3
    go_wp2_with (at_builtin; fail)
    have HL := Lib.hid (fun c h => wc_law (ts := ts) (l := l) (rs := rs) (c := c) h (by omega))
    obtain ⟨R, hR⟩ : ∃ R, R = wcO ts l rs := ⟨_, rfl⟩
    rw [← hR] at HL HV_3 HS_3 ⊢
    clear hR
    have HQS : Hid (R.isSome = true → R = some (R.getD [])) := Lib.hid fun h => by cases R with
      | none => cases h
      | some c => rfl
    obtain ⟨q, hq⟩ : ∃ q, q = R.isSome := ⟨_, rfl⟩
    rw [← hq] at HQS ⊢
    obtain ⟨cc, hcc⟩ : ∃ cc, cc = R.getD [] := ⟨_, rfl⟩
    rw [← hcc] at HV_3 HS_3 HQS
    clear hq hcc
    have hqq : (q != q) = false := by cases q <;> rfl
    have hqe : (q == q) = true := by cases q <;> rfl
    go_wp2_with (at_builtin; fail)
    refine (bcInts_any _ _ _ _ _ _ HV_3.out HS_3.out).mono ?_
    rintro e w4 ⟨rfl, n4, rfl⟩
    rw [show eqP (cc) (cc) = true by simp [eqP]]
    have hb4 := below_of_drewN (w := w3) ⟨n4, rfl⟩ w3.heap.size
    have HR_4 := Lib.hid (HR_3.out.bel hb4)
    have HV_4 := Lib.hid (HV_3.out.bel hb4)
    have HS_4 := Lib.hid (HS_3.out.bel hb4)
    have HP4 := Lib.hid (HP3.out.bels hb4)
    clear c0 c1
    have c0 := HP4.out.c0
    have c1 := HP4.out.c1
    clear hb4
    generalize w3.drewN n4 = w4 at *
    cases q
    · go_wp2_with (at_builtin; fail)
      refine (bcInts_any _ _ _ _ _ _ HV_4.out HS_4.out).mono ?_
      rintro e w5 ⟨rfl, n5, rfl⟩
      rw [show eqP (cc) (cc) = true by simp [eqP]]
      have hb5 := below_of_drewN (w := w4) ⟨n5, rfl⟩ w4.heap.size
      have HR_5 := Lib.hid (HR_4.out.bel hb5)
      have HV_5 := Lib.hid (HV_4.out.bel hb5)
      have HS_5 := Lib.hid (HS_4.out.bel hb5)
      have HP5 := Lib.hid (HP4.out.bels hb5)
      clear c0 c1
      have c0 := HP5.out.c0
      have c1 := HP5.out.c1
      clear hb5
      generalize w4.drewN n5 = w5 at *
      go_wp2_with (at_builtin; fail)
      go_ret
      exact ⟨rfl, HP5.out.bel⟩
    · obtain ⟨t, ht⟩ := HL.out cc (HQS.out (by first | trivial | rfl))
      have HT := Lib.hid ht
      clear ht
      go_wp2_with (at_builtin; fail)
      refine (iRunPath_any _ _ _ ts l cc _ _ _ HP4.out.ht HP4.out.hl HV_4.out (Nat.le_refl _) (by omega)).mono ?_
      rintro e w5 ⟨v5, rfl, hv5, hb5⟩
      rw [HT.out] at hv5
      have HX_5 := Lib.hid hv5
      obtain ⟨Ax, cx, rfl, hcx, -, -⟩ := hv5
      have HR_5 := Lib.hid (HR_4.out.bel hb5)
      have HV_5 := Lib.hid (HV_4.out.bel hb5)
      have HS_5 := Lib.hid (HS_4.out.bel hb5)
      have HP5 := Lib.hid (HP4.out.bels hb5)
      clear c0 c1
      have c0 := HP5.out.c0
      have c1 := HP5.out.c1
      clear hb5
      rw [List.length_append] at HX_5 hcx ⊢
      obtain ⟨nt, hnt⟩ : ∃ nt, nt = t.length := ⟨_, rfl⟩
      rw [← hnt] at HX_5 hcx ⊢
      clear hnt
      have HY_5 := Lib.hid (IntS.take (m := rs.length) HX_5.out (by simp))
      rw [List.take_left' rfl] at HY_5
      generalize (runRes ts l cc (rs.length : Nat)).2 = rb at *
      have hge : decide (((rs.length + nt : Nat) : Int) ≥ (rs.length : Int)) = true := decide_eq_true (by omega)
      have hle : rs.length ≤ cx := by omega
      go_wp2_with (at_builtin; fail)
      refine (bcInts_any _ _ _ _ _ _ HY_5.out HR_5.out).mono ?_
      rintro e w6 ⟨rfl, n6, rfl⟩
      rw [show eqP (rs) (rs) = true by simp [eqP]]
      have hb6 := below_of_drewN (w := w5) ⟨n6, rfl⟩ w5.heap.size
      have HY_6 := Lib.hid (HY_5.out.bel hb6)
      have HR_6 := Lib.hid (HR_5.out.bel hb6)
      have HP6 := Lib.hid (HP5.out.bels hb6)
      clear c0 c1
      have c0 := HP6.out.c0
      have c1 := HP6.out.c1
      clear hb6
      generalize w5.drewN n6 = w6 at *
      go_wp2_with (at_builtin; fail)
      go_ret
      exact ⟨rfl, HP6.out.bel⟩
  · have hn1 : (1048576 : Int) < n := by omega
    unfold maxLen at hm
    go_enter Try.func8, Try.ntmps8
    go_wp2_with fail
    go_ret
    exact ⟨rfl, Below.refl _ _⟩

end Go.Proofs.Ytmaaaiccmllnlaa
