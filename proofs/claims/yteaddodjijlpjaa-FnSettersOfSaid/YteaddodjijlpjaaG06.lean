import Derived.Test.YteaddodjijlpjaaG01
import Derived.Test.YteaddodjijlpjaaG05
set_option linter.unusedVariables false

namespace Go.Proofs.Yteaddodjijlpjaa
open Go.RowKit

/-- what spec.l1Stmt answers, for statements of at most m statements -/
def L1Stmt (m : Nat) : Prop := ∀ (vt : Value) (ts : List Int) (B : Nat) (s : St) (d : Nat) (tv ev : Value) (w : World), s.sz ≤ m → d ≤ 4 → IntS w B vt ts → B ≤ w.heap.size → tsOkP ts = true → StS w B tv s.th → StS w B ev s.el →
    Calls Try.prog 129 #[vt, .agg #[.int .i64 s.op, .int .i64 s.x, .int .i64 s.y, .int .i64 s.n, tv, ev], .int .i64 d] w fun e w' => e = .returned (.bool (stOk ts d s)) ∧ Below w.heap.size w w'
def L1Body (m : Nat) : Prop := ∀ (vt vb : Value) (ts : List Int) (B : Nat) (l : List St) (d : Nat) (w : World), szL l ≤ m → d ≤ 4 → IntS w B vt ts → B ≤ w.heap.size → tsOkP ts = true → StS w B vb l → 
    Calls Try.prog 116 #[vt, vb, .int .i64 d] w fun e w' => e = .returned (.bool (slOk ts d l)) ∧ Below w.heap.size w w'

set_option maxHeartbeats 400000 in
theorem l1Body_of (m : Nat) (hM : m ≤ 4194304) (hst : L1Stmt m) : L1Body m := by
  intro vt vb ts B l d w hm hd ht hB hts hl
  have hll := len_le_szL l
  obtain ⟨A, c, rfl, hc⟩ := hl.slice
  have HTS := Lib.hid hts
  clear hts
  go_enter Try.func116, Try.ntmps116
  go_wp2
  go_loopw [7] (fun i wr => ∃ k : Nat, k ≤ l.length ∧ i = .int .i64 k ∧ slOk ts d (l.take k) = true ∧ Below w.heap.size w wr) (fun i _ => l.length - (intOf i).toNat)
  case atStart => exact ⟨0, Nat.zero_le _, rfl, rfl, Below.refl _ _⟩
  case round =>
    obtain ⟨k, hk, rfl, hok, hbw⟩ := hrel
    have HOK := Lib.hid hok
    clear hok
    by_cases hlt : k < l.length
    · obtain ⟨b, off, tv, ev, rfl, hb, hth, hel, c0, c1, c2, c3, c4, c5⟩ := (hl.low hbw hB).get hlt
      have hsz := szL_mem hlt
      have hsz2 := hbw.size
      go_wp2_with fail
      refine (hst vt ts B l[k] d tv ev _ (by omega) hd (ht.low hbw hB) (by omega) HTS.out hth hel).mono ?_
      rintro e w1 ⟨rfl, hb1⟩
      cases hs : stOk ts d l[k]
      · go_wp2
        go_ret
        exact ⟨ret_bool (slOk_not hlt hs).symm, hbw.trans (hb1.mono (by omega))⟩
      · have HS := Lib.hid hs
        clear hs
        go_wp2
        refine ⟨⟨k + 1, by omega, by go_num, ?_, hbw.trans (hb1.mono (by omega))⟩, by simp [intOf]; omega⟩
        rw [take_succ_get l k hlt, slOk_append, HOK.out]
        simp [slOk, HS.out]
    · have hkl : k = l.length := by omega
      have h := HOK.out
      rw [take_all hkl] at h
      have H := Lib.hid h
      clear h hkl
      go_wp2
      go_ret
      exact ⟨ret_bool H.out.symm, hbw⟩


set_option maxHeartbeats 1000000 in
theorem l1Stmt_of (m : Nat) (hbo : L1Body m) : L1Stmt (m + 1) := by
  intro vt ts B s d tv ev w hm hd ht hB hts hth hel
  have hsz := s.sz_eq
  have hm1 : szL s.th ≤ m := by omega
  have hm2 : szL s.el ≤ m := by omega
  have hse := stOk_eq ts d s
  have HTS := Lib.hid hts
  have HSE := Lib.hid hse
  clear hts hse hsz
  obtain ⟨A1, c1, rfl, hc1⟩ := hth.slice
  obtain ⟨A2, c2, rfl, hc2⟩ := hel.slice
  cases hbr : isBranchP s.op
  · have h1 : (s.op != 9) = true := by simp [isBranchP] at hbr ⊢; exact hbr.1
    have h2 : (s.op != 10) = true := by simp [isBranchP] at hbr ⊢; exact hbr.2
    have HBR := Lib.hid hbr
    clear hbr
    go_enter Try.func129, Try.ntmps129
    go_wp2_with (go_at_call 140; refine (l1Simple_any vt ts B _ _ _ _ _ _ _ (ht.low (bel_a _ _) hB) (by simp; omega) HTS.out).mono ?_; rintro e w' ⟨rfl, hb1⟩)
    · have e1 : s.th = [] := by assumption
      have e2 : s.el = [] := by assumption
      go_ret
      refine ⟨ret_bool ?_, (bel_a _ _).trans (hb1.mono (by simp))⟩
      rw [HSE.out, HBR.out]
      simp [e1, e2]
    · have e2 : ¬ s.el = [] := by assumption
      go_ret
      refine ⟨ret_bool ?_, bel_a _ _⟩
      rw [HSE.out, HBR.out]
      simp [e2]
    · have e2 : ¬ s.th = [] := by assumption
      go_ret
      refine ⟨ret_bool ?_, bel_a _ _⟩
      rw [HSE.out, HBR.out]
      simp [e2]
  · have hbr2 : s.op = 9 ∨ s.op = 10 := by simpa [isBranchP] using hbr
    have HBR := Lib.hid hbr
    clear hbr
    cases d with
    | zero =>
      rcases hbr2 with hop | hop
      all_goals
        rw [hop] at HSE ⊢
        clear hop
        go_enter Try.func129, Try.ntmps129
        go_wp2
        go_ret
        refine ⟨ret_bool ?_, bel_a _ _⟩
        rw [HSE.out]
        simp [isBranchP]
    | succ d =>
      by_cases hz : s.x = 0 ∧ s.y = 0 ∧ s.n = 0
      · obtain ⟨hx, hy, hn⟩ := hz
        rw [hx, hy, hn] at HSE ⊢
        clear hx hy hn
        rcases hbr2 with hop | hop
        · rw [hop] at HSE ⊢
          clear hop
          cases h1 : slOk ts d s.th
          · have H1 := Lib.hid h1
            clear h1
            go_enter Try.func129, Try.ntmps129
            go_wp2_with fail
            refine (hbo vt _ ts B s.th d _ hm1 (by omega) (ht.low (bel_a _ _) hB) (by simp; omega) HTS.out (hth.low (bel_a _ _) hB)).mono ?_
            rintro e w1 ⟨rfl, hb1⟩
            rw [H1.out]
            go_wp2
            go_ret
            refine ⟨ret_bool ?_, (bel_a _ _).trans (hb1.mono (by simp))⟩
            rw [HSE.out]
            simp [isBranchP, H1.out]
          · have H1 := Lib.hid h1
            clear h1
            go_enter Try.func129, Try.ntmps129
            go_wp2_with fail
            refine (hbo vt _ ts B s.th d _ hm1 (by omega) (ht.low (bel_a _ _) hB) (by simp; omega) HTS.out (hth.low (bel_a _ _) hB)).mono ?_
            rintro e w1 ⟨rfl, hb1⟩
            rw [H1.out]
            have hb2 := (bel_a _ _).trans (hb1.mono (by simp))
            have hs2 := hb2.size
            have hc := box_kept hb1 (by simp)
            go_wp2_with fail
            refine (hbo vt _ ts B s.el d _ hm2 (by omega) (ht.low hb2 hB) (by omega) HTS.out (hel.low hb2 hB)).mono ?_
            rintro e w2 ⟨rfl, hb3⟩
            go_wp2
            go_ret
            refine ⟨ret_bool ?_, hb2.trans (hb3.mono (by omega))⟩
            rw [HSE.out]
            simp [isBranchP, H1.out]
        · rw [hop] at HSE ⊢
          clear hop
          by_cases hel0 : s.el = []
          · rw [hel0] at hel HSE ⊢
            clear hel0 hc2 hm2
            cases h1 : slOk ts d s.th
            · have H1 := Lib.hid h1
              clear h1
              go_enter Try.func129, Try.ntmps129
              go_wp2_with fail
              refine (hbo vt _ ts B s.th d _ hm1 (by omega) (ht.low (bel_a _ _) hB) (by simp; omega) HTS.out (hth.low (bel_a _ _) hB)).mono ?_
              rintro e w1 ⟨rfl, hb1⟩
              rw [H1.out]
              go_wp2
              go_ret
              refine ⟨ret_bool ?_, (bel_a _ _).trans (hb1.mono (by simp))⟩
              rw [HSE.out]
              simp [isBranchP, H1.out]
            · have H1 := Lib.hid h1
              clear h1
              go_enter Try.func129, Try.ntmps129
              go_wp2_with fail
              refine (hbo vt _ ts B s.th d _ hm1 (by omega) (ht.low (bel_a _ _) hB) (by simp; omega) HTS.out (hth.low (bel_a _ _) hB)).mono ?_
              rintro e w1 ⟨rfl, hb1⟩
              rw [H1.out]
              have hb2 := (bel_a _ _).trans (hb1.mono (by simp))
              have hs2 := hb2.size
              have hc := box_kept hb1 (by simp)
              go_wp2_with fail
              refine (hbo vt _ ts B [] d _ (by simp [szL]) (by omega) (ht.low hb2 hB) (by omega) HTS.out (hel.low hb2 hB)).mono ?_
              rintro e w2 ⟨rfl, hb3⟩
              go_wp2
              go_ret
              refine ⟨ret_bool ?_, hb2.trans (hb3.mono (by omega))⟩
              rw [HSE.out]
              simp [isBranchP, H1.out, slOk]
          · have hpos : 0 < s.el.length := List.length_pos_iff.2 hel0
            have HEL := Lib.hid hel0
            clear hel0
            go_enter Try.func129, Try.ntmps129
            go_wp2_with fail
            go_ret
            refine ⟨ret_bool ?_, bel_a _ _⟩
            rw [HSE.out]
            have := HEL.out
            simp [isBranchP, this]
      · have hz' : (s.x == 0 && s.y == 0 && s.n == 0) = false := by simp; omega
        have HZ := Lib.hid hz'
        clear hz'
        rcases hbr2 with hop | hop
        all_goals
          rw [hop] at HSE ⊢
          clear hop
          by_cases hx : s.x = 0
          · rw [hx] at hz
            by_cases hy : s.y = 0
            · have hn : (s.n != 0) = true := by simp; intro h; exact hz ⟨rfl, hy, h⟩
              clear hz
              go_enter Try.func129, Try.ntmps129
              go_wp2
              go_ret
              refine ⟨ret_bool ?_, bel_a _ _⟩
              rw [HSE.out, HZ.out]
              simp [isBranchP]
            · clear hz
              go_enter Try.func129, Try.ntmps129
              go_wp2
              go_ret
              refine ⟨ret_bool ?_, bel_a _ _⟩
              rw [HSE.out, HZ.out]
              simp [isBranchP]
          · clear hz
            go_enter Try.func129, Try.ntmps129
            go_wp2
            go_ret
            refine ⟨ret_bool ?_, bel_a _ _⟩
            rw [HSE.out, HZ.out]
            simp [isBranchP]

end Go.Proofs.Yteaddodjijlpjaa
