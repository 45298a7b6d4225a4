import Derived.Test.YteaddodjijlpjaaG08
set_option linter.unusedVariables false

namespace Go.Proofs.Yteaddodjijlpjaa
open Go.RowKit

theorem validP_eq (ts : List Int) (l : List St) : validP ts l = (tsOkP ts && slOk ts 4 l && decide (szL l ≤ 30)) := by simp [validP, Bool.and_assoc]

set_option maxHeartbeats 400000 in
theorem iProgramValid_any (vt vb : Value) (ts : List Int) (l : List St) (B : Nat) (w : World) (ht : IntS w B vt ts) (hl : StS w B vb l) (hB : B ≤ w.heap.size) (hsz : szL l ≤ 4194304) :
    Calls Try.prog 60 #[.agg #[vt, vb]] w fun e w' => e = .returned (.bool (validP ts l)) ∧ Below w.heap.size w w' := by
  have hb2 : Below w.heap.size w ((w.alloc (.cells #[vt, vb] 26)).alloc (.cells #[.int .i64 0] 3)) := (bel_a w _).alloc (by simp) _
  have HB2 := Lib.hid hb2
  have hc0 : ((w.alloc (.cells #[vt, vb] 26)).alloc (.cells #[.int .i64 0] 3)).cell? ⟨w.heap.size + 1, 0, none⟩ = some (.int .i64 ((0 : Nat) : Int)) := by
    rw [World.cell?_alloc_at _ _ _ _ (by simp)]; rfl
  have hf0 : ((w.alloc (.cells #[vt, vb] 26)).alloc (.cells #[.int .i64 0] 3)).frozen? ⟨w.heap.size + 1, 0, none⟩ = false := World.frozen?_alloc_at _ _ _ _ (by simp)
  have HC0 := Lib.hid hc0
  have HF0 := Lib.hid hf0
  clear hb2 hc0 hf0
  have S := (scan_all (szL l) hsz).1
  cases hts : tsOkP ts
  · have HT := Lib.hid hts
    clear hts
    go_enter Try.func60, Try.ntmps60
    go_wp2_with (go_at_call 96; refine (typesOk_any _ ts B _ (ht.low HB2.out hB)).mono ?_; rintro e w' ⟨rfl, rfl⟩; rw [HT.out])
    go_ret
    exact ⟨ret_bool (by rw [validP_eq, HT.out]; rfl), HB2.out⟩
  · have HT := Lib.hid hts
    clear hts
    go_enter Try.func60, Try.ntmps60
    go_wp2_with (go_at_call 96; refine (typesOk_any _ ts B _ (ht.low HB2.out hB)).mono ?_; rintro e w' ⟨rfl, rfl⟩; rw [HT.out])
    refine (S vt vb ts w.heap.size (w.heap.size + 1) l 4 0 0 _ (Nat.le_refl _) (by omega) (by omega) (by omega) (by omega) ((ht.more hB).low HB2.out (Nat.le_refl _)) (by omega) (by simp) ((hl.more hB).low HB2.out (Nat.le_refl _)) HC0.out HF0.out).mono ?_
    rintro e w1 ⟨rfl, hcn⟩
    obtain ⟨c', g1, g2, g3, g4⟩ := hcn
    have G := Lib.hid g4
    clear g1 g2 g3 g4
    go_wp2_with fail
    go_ret
    refine ⟨ret_bool (by rw [validP_eq, HT.out]; simp), HB2.out.trans ((grown_below G.out (by simp)).mono (by omega))⟩

set_option maxHeartbeats 400000 in
theorem l1Types_any (va : Value) (l : List Int) (B : Nat) (w : World) (ha : IntS w B va l) :
    Calls Try.prog 115 #[va] w fun e w' => e = .returned (.bool (tsOkP l)) ∧ w = w' := by
  obtain ⟨A, c, rfl, hc, hm, hr⟩ := ha
  have hex := tsOk_any l
  have HEX := Lib.hid hex
  clear hex
  go_enter Try.func115, Try.ntmps115
  go_wp2
  go_loop [3] (fun i => ∃ k : Nat, k ≤ l.length ∧ i = .int .i64 k ∧ ∀ x ∈ l.take k, badT x = false) (fun i => l.length - (intOf i).toNat)
  case atStart => exact ⟨0, Nat.zero_le _, rfl, by simp⟩
  case round =>
    obtain ⟨k, hk, rfl, hn⟩ := hrel
    have H := Lib.hid hn
    clear hn
    by_cases hlt : k < l.length
    · obtain ⟨b, off, rfl, hb, hcell⟩ := hr.int_at hlt
      have hck := hcell k hlt
      clear hcell
      by_cases h1 : 1 ≤ l[k] ∧ l[k] ≤ 4
      · obtain ⟨h1, h4⟩ := h1
        go_wp2
        refine ⟨⟨k + 1, by omega, by go_num, ?_⟩, by simp [intOf]; omega⟩
        rw [take_succ_get l k hlt]
        intro x hxm
        rcases List.mem_append.1 hxm with h | h
        · exact H.out x h
        · rw [List.mem_singleton.1 h]; simp [badT, withinP]; omega
      · have hbad : badT l[k] = true := by simp [badT, withinP]; omega
        have hany : l.any badT = true := List.any_eq_true.2 ⟨l[k], List.getElem_mem hlt, hbad⟩
        have HA := Lib.hid hany
        clear hbad hany
        rcases (show l[k] < 1 ∨ (1 ≤ l[k] ∧ 4 < l[k]) by omega) with h2 | ⟨h2, h3⟩
        all_goals
          clear h1
          go_wp2
          go_ret
          exact ⟨ret_bool (by rw [HEX.out, HA.out]; simp), rfl⟩
    · obtain rfl : k = l.length := by omega
      have h := H.out
      rw [List.take_length] at h
      have H' := Lib.hid h
      clear h
      go_wp2
      go_ret
      refine ⟨ret_bool ?_, rfl⟩
      have : l.any badT = false := by rw [List.any_eq_false]; intro x hx; rw [H'.out x hx]; simp
      rw [HEX.out, this]
      simp
      try omega

set_option maxHeartbeats 400000 in
theorem sProgramValid_any (vt vb : Value) (ts : List Int) (l : List St) (B : Nat) (w : World) (ht : IntS w B vt ts) (hl : StS w B vb l) (hB : B ≤ w.heap.size) (hsz : szL l ≤ 4194304) :
    Calls Try.prog 92 #[.agg #[vt, vb]] w fun e w' => e = .returned (.bool (validP ts l)) ∧ Below w.heap.size w w' := by
  have L := (l1_all (szL l) hsz).1
  have LC := l1Count_all (szL l) hsz
  cases hts : tsOkP ts
  · have HT := Lib.hid hts
    clear hts
    go_enter Try.func92, Try.ntmps92
    go_wp2_with (go_at_call 115; refine (l1Types_any _ ts B _ (ht.low (bel_a _ _) hB)).mono ?_; rintro e w' ⟨rfl, rfl⟩; rw [HT.out])
    go_ret
    exact ⟨ret_bool (by rw [validP_eq, HT.out]; rfl), bel_a _ _⟩
  · have HT := Lib.hid hts
    clear hts
    cases hbo : slOk ts 4 l
    · have HBO := Lib.hid hbo
      clear hbo
      go_enter Try.func92, Try.ntmps92
      go_wp2_with (go_at_call 115; refine (l1Types_any _ ts B _ (ht.low (bel_a _ _) hB)).mono ?_; rintro e w' ⟨rfl, rfl⟩; rw [HT.out])
      refine (L vt vb ts B l 4 _ (Nat.le_refl _) (by omega) (ht.low (bel_a _ _) hB) (by simp; omega) HT.out (hl.low (bel_a _ _) hB)).mono ?_
      rintro e w1 ⟨rfl, hb1⟩
      rw [HBO.out]
      go_wp2_with fail
      go_ret
      exact ⟨ret_bool (by rw [validP_eq, HT.out, HBO.out]; rfl), (bel_a _ _).trans (hb1.mono (by simp))⟩
    · have HBO := Lib.hid hbo
      clear hbo
      go_enter Try.func92, Try.ntmps92
      go_wp2_with (go_at_call 115; refine (l1Types_any _ ts B _ (ht.low (bel_a _ _) hB)).mono ?_; rintro e w' ⟨rfl, rfl⟩; rw [HT.out])
      refine (L vt vb ts B l 4 _ (Nat.le_refl _) (by omega) (ht.low (bel_a _ _) hB) (by simp; omega) HT.out (hl.low (bel_a _ _) hB)).mono ?_
      rintro e w1 ⟨rfl, hb1⟩
      rw [HBO.out]
      have hc := box_kept hb1 (by simp)
      have hb2 := (bel_a _ _).trans (hb1.mono (by simp))
      go_wp2_with fail
      refine (LC _ B l _ 30 _ (Nat.le_refl _) (by omega) (by omega) (by omega) (hl.low hb2 hB)).mono ?_
      rintro e w2 ⟨r, rfl, hr, rfl⟩
      have hd := hr.dec
      have HD := Lib.hid hd
      clear hd hr
      by_cases h30 : r ≤ 30
      · have H30 := Lib.hid h30
        go_wp2_with fail
        go_ret
        exact ⟨ret_bool (by rw [validP_eq, HT.out, HBO.out, ← HD.out, decide_eq_true H30.out]; simp; omega), hb2⟩
      · have H30 := Lib.hid h30
        go_wp2_with fail
        go_ret
        exact ⟨ret_bool (by rw [validP_eq, HT.out, HBO.out, ← HD.out, decide_eq_false H30.out]; simp; omega), hb2⟩

end Go.Proofs.Yteaddodjijlpjaa
