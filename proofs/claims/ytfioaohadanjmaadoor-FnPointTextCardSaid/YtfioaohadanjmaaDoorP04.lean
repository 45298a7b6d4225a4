import Derived.Test.YtfioaohadanjmaaDoorP03
set_option linter.unusedVariables false

namespace Go.Proofs.YtfioaohadanjmaaDoor
open Go.RowKit

/-- what spec.l1Count answers -/
def CountPost (w : World) (n most : Nat) (e : Ending) (w' : World) : Prop := ∃ r : Nat, e = .returned (.int .i64 r) ∧ CountR n most r ∧ w = w'

def L1Count (m : Nat) : Prop := ∀ (vb : Value) (B : Nat) (l : List St) (mo : Int) (most : Nat) (w : World), szL l ≤ m → mo ≤ most → (most : Int) ≤ mo → most ≤ 4194304 → StS w B vb l →
    Calls Tryd.prog 48 #[vb, .int .i64 mo] w (CountPost w (szL l) most)

set_option maxHeartbeats 1000000 in
theorem l1Count_of (m : Nat) (hM : m ≤ 4194304) (ih : ∀ j, j < m → L1Count j) : L1Count m := by
  intro vb B l mo most w hm hmo1 hmo2 hmo hl
  have hll := len_le_szL l
  obtain ⟨A, c, rfl, hc⟩ := hl.slice
  go_enter Tryd.func48, Tryd.ntmps48
  go_wp2_with fail
  go_loop [5, 6] (fun n i => ∃ k r : Nat, k ≤ l.length ∧ i = .int .i64 k ∧ n = .int .i64 r ∧ CountR (szL (l.take k)) most r) (fun _ i => l.length - (intOf i).toNat)
  case atStart => exact ⟨0, 0, Nat.zero_le _, rfl, rfl, by simp [CountR, szL]⟩
  case round =>
    obtain ⟨k, r, hk, rfl, rfl, hr⟩ := hrel
    have HR := Lib.hid hr
    have hr1 := hr.le
    have ht1 := szL_take_le l k
    clear hr
    by_cases hlt : k < l.length
    · by_cases hle : r ≤ most
      · obtain ⟨b, off, tv, ev, rfl, hb, hth, hel, q0, q1, q2, q3, q4, q5⟩ := hl.get hlt
        obtain ⟨A1, c1, rfl, hc1⟩ := hth.slice
        obtain ⟨A2, c2, rfl, hc2⟩ := hel.slice
        have hsz := szL_mem hlt
        have hs1 := l[k].sz_eq
        have ht2 := szL_take_le l (k + 1)
        have ht3 := szL_take_succ l k hlt
        have HT3 := Lib.hid ht3
        have hj1 : szL l[k].th < m := by omega
        have hj2 : szL l[k].el < m := by omega
        have hb1 : r + 1 + szL l[k].th + szL l[k].el ≤ 4194304 := by omega
        clear hs1 ht3
        go_wp2_with fail
        refine (ih _ hj1 _ B l[k].th _ (most - r) _ (Nat.le_refl _) (by omega) (by omega) (by omega) hth).mono ?_
        rintro e w' ⟨r1, rfl, hr1c, rfl⟩
        have hr1l := hr1c.le
        have HR1 := Lib.hid hr1c
        clear hr1c
        by_cases hle2 : r + 1 + r1 ≤ most
        · have hle3 : (r : Int) + 1 + r1 ≤ mo := by omega
          go_wp2_with fail
          refine (ih _ hj2 _ B l[k].el _ (most - (r + 1 + r1)) _ (Nat.le_refl _) (by omega) (by omega) (by omega) hel).mono ?_
          rintro e w' ⟨r2, rfl, hr2c, rfl⟩
          have hr2l := hr2c.le
          have HR2 := Lib.hid hr2c
          clear hr2c
          go_wp2_with fail
          refine ⟨⟨k + 1, r + 1 + r1 + r2, by omega, by go_num, by go_num, ?_⟩, by simp [intOf]; omega⟩
          rw [HT3.out]
          have a1 := HR.out; have a2 := HR1.out; have a3 := HR2.out
          unfold CountR at *
          omega
        · have hle3 : mo < (r : Int) + 1 + r1 := by omega
          go_wp2_with fail
          refine ⟨⟨k + 1, r + 1 + r1, by omega, by go_num, by go_num, ?_⟩, by simp [intOf]; omega⟩
          rw [HT3.out]
          have a1 := HR.out; have a2 := HR1.out
          unfold CountR at *
          omega
      · have hle3 : mo < (r : Int) := by omega
        go_wp2_with fail
        go_ret
        refine ⟨r, rfl, ?_, rfl⟩
        have a1 := HR.out
        have ht := szL_take_le l k
        unfold CountR at *
        omega
    · have hkl : k = l.length := by omega
      have h := HR.out
      rw [take_all hkl] at h
      have H := Lib.hid h
      clear h hkl
      go_wp2_with fail
      go_ret
      exact ⟨r, rfl, H.out, rfl⟩

theorem l1Count_all (m : Nat) (hM : m ≤ 4194304) : L1Count m := by
  induction m using Nat.strongRecOn with
  | _ m ih => exact l1Count_of m hM fun j hj => ih j hj (by omega)

end Go.Proofs.YtfioaohadanjmaaDoor

namespace Go.Proofs.YtfioaohadanjmaaDoor
open Go.RowKit

def badT (t : Int) : Bool := !withinP t 1 4

set_option maxHeartbeats 400000 in
theorem typesOk1_any (t : Int) (w : World) :
    Calls Tryd.prog 43 #[.int .i64 t] w fun e w' => e = .returned (.bool (badT t)) ∧ w = w' := by
  go_enter Tryd.func43, Tryd.ntmps43
  go_wp2_with (go_at_call 20; refine (within_any _ _ _ _).mono ?_; rintro e w' ⟨rfl, rfl⟩)
  go_ret
  exact ⟨ret_bool rfl, rfl⟩

set_option maxHeartbeats 400000 in
theorem indexFunc_any (va : Value) (l : List Int) (B : Nat) (w : World) (ha : IntS w B va l) :
    Calls Tryd.prog 52 #[va, .func (.func 43) #[] #[]] w fun e w' => e = .returned (.int .i64 (idxP badT l)) ∧ w = w' := by
  obtain ⟨A, c, rfl, hc, hm, hr⟩ := ha
  go_enter Tryd.func52, Tryd.ntmps52
  go_wp2
  go_loop [8] (fun i => ∃ k : Nat, k ≤ l.length ∧ i = .int .i64 k ∧ ∀ x ∈ l.take k, badT x = false) (fun i => l.length - (intOf i).toNat)
  case atStart => exact ⟨0, Nat.zero_le _, rfl, by simp⟩
  case round =>
    obtain ⟨k, hk, rfl, hn⟩ := hrel
    have H := Lib.hid hn
    clear hn
    by_cases hlt : k < l.length
    · obtain ⟨b, off, rfl, hb, hcell⟩ := hr.int_at hlt
      have hck := hcell k hlt
      clear hcell
      go_wp2_with fail
      refine (typesOk1_any _ _).mono ?_
      rintro e w' ⟨rfl, rfl⟩
      cases hx : badT l[k]
      · have HX := Lib.hid hx
        clear hx
        go_wp2_with fail
        refine ⟨⟨k + 1, by omega, by go_num, ?_⟩, by simp [intOf]; omega⟩
        rw [take_succ_get l k hlt]
        intro x hxm
        rcases List.mem_append.1 hxm with h | h
        · exact H.out x h
        · rw [List.mem_singleton.1 h]; exact HX.out
      · have HX := Lib.hid hx
        clear hx
        go_wp2_with fail
        go_ret
        exact ⟨ret_int (idxP_hit hlt H.out HX.out).symm, rfl⟩
    · obtain rfl : k = l.length := by omega
      have h := H.out
      rw [List.take_length] at h
      have H' := Lib.hid h
      clear h
      go_wp2
      go_ret
      exact ⟨ret_int (idxP_none H'.out).symm, rfl⟩

set_option maxHeartbeats 400000 in
theorem containsFunc_any (va : Value) (l : List Int) (B : Nat) (w : World) (ha : IntS w B va l) :
    Calls Tryd.prog 42 #[va, .func (.func 43) #[] #[]] w fun e w' => e = .returned (.bool (l.any badT)) ∧ w = w' := by
  go_enter Tryd.func42, Tryd.ntmps42
  go_wp2_with (go_at_call 52; refine (indexFunc_any va l B _ ha).mono ?_; rintro e w' ⟨rfl, rfl⟩)
  go_ret
  exact ⟨ret_bool (idxP_ge _ _), rfl⟩

theorem tsOk_any (l : List Int) : tsOkP l = (decide (l.length ≤ 6) && !l.any badT) := by
  unfold tsOkP
  congr 1
  induction l with
  | nil => rfl
  | cons a r ih => simp only [List.all_cons, List.any_cons, ih, badT, withinP]; simp

set_option maxHeartbeats 400000 in
theorem typesOk_any (va : Value) (l : List Int) (B : Nat) (w : World) (ha : IntS w B va l) :
    Calls Tryd.prog 29 #[va] w fun e w' => e = .returned (.bool (tsOkP l)) ∧ w = w' := by
  have ha' := ha
  obtain ⟨A, c, rfl, hc, hm, hr⟩ := ha
  by_cases h6 : l.length ≤ 6
  · have H6 := Lib.hid h6
    go_enter Tryd.func29, Tryd.ntmps29
    go_wp2_with (go_at_call 42; refine (containsFunc_any _ l B _ ha').mono ?_; rintro e w' ⟨rfl, rfl⟩)
    go_ret
    exact ⟨ret_bool (by rw [tsOk_any, decide_eq_true H6.out]; simp), rfl⟩
  · have H6 := Lib.hid h6
    have h6' : 6 < l.length := by omega
    go_enter Tryd.func29, Tryd.ntmps29
    go_wp2_with fail
    go_ret
    exact ⟨ret_bool (by rw [tsOk_any, decide_eq_false H6.out]; simp), rfl⟩

end Go.Proofs.YtfioaohadanjmaaDoor

namespace Go.Proofs.YtfioaohadanjmaaDoor
open Go.RowKit

theorem validP_eq (ts : List Int) (l : List St) : validP ts l = (tsOkP ts && slOk ts 4 l && decide (szL l ≤ 30)) := by simp [validP, Bool.and_assoc]

set_option maxHeartbeats 400000 in
theorem iProgramValid_any (vt vb : Value) (ts : List Int) (l : List St) (B : Nat) (w : World) (ht : IntS w B vt ts) (hl : StS w B vb l) (hB : B ≤ w.heap.size) (hsz : szL l ≤ 4194304) :
    Calls Tryd.prog 18 #[.agg #[vt, vb]] w fun e w' => e = .returned (.bool (validP ts l)) ∧ Below w.heap.size w w' := by
  have hb2 : Below w.heap.size w ((w.alloc (.cells #[vt, vb] 29)).alloc (.cells #[.int .i64 0] 3)) := (bel_a w _).alloc (by simp) _
  have HB2 := Lib.hid hb2
  have hc0 : ((w.alloc (.cells #[vt, vb] 29)).alloc (.cells #[.int .i64 0] 3)).cell? ⟨w.heap.size + 1, 0, none⟩ = some (.int .i64 ((0 : Nat) : Int)) := by
    rw [World.cell?_alloc_at _ _ _ _ (by simp)]; rfl
  have hf0 : ((w.alloc (.cells #[vt, vb] 29)).alloc (.cells #[.int .i64 0] 3)).frozen? ⟨w.heap.size + 1, 0, none⟩ = false := World.frozen?_alloc_at _ _ _ _ (by simp)
  have HC0 := Lib.hid hc0
  have HF0 := Lib.hid hf0
  clear hb2 hc0 hf0
  have S := (scan_all (szL l) hsz).1
  cases hts : tsOkP ts
  · have HT := Lib.hid hts
    clear hts
    go_enter Tryd.func18, Tryd.ntmps18
    go_wp2_with (go_at_call 29; refine (typesOk_any _ ts B _ (ht.low HB2.out hB)).mono ?_; rintro e w' ⟨rfl, rfl⟩; rw [HT.out])
    go_ret
    exact ⟨ret_bool (by rw [validP_eq, HT.out]; rfl), HB2.out⟩
  · have HT := Lib.hid hts
    clear hts
    go_enter Tryd.func18, Tryd.ntmps18
    go_wp2_with (go_at_call 29; refine (typesOk_any _ ts B _ (ht.low HB2.out hB)).mono ?_; rintro e w' ⟨rfl, rfl⟩; rw [HT.out])
    refine (S vt vb ts w.heap.size (w.heap.size + 1) l 4 0 0 _ (Nat.le_refl _) (by omega) (by omega) (by omega) (by omega) ((ht.more hB).low HB2.out (Nat.le_refl _)) (by omega) (by simp) ((hl.more hB).low HB2.out (Nat.le_refl _)) HC0.out HF0.out).mono ?_
    rintro e w1 ⟨rfl, hcn⟩
    obtain ⟨c', g1, g2, g3, g4⟩ := hcn
    have G := Lib.hid g4
    clear g1 g2 g3 g4
    go_wp2_with fail
    go_ret
    refine ⟨ret_bool (by rw [validP_eq, HT.out]; simp), HB2.out.trans ((grown_below G.out (by simp)).mono (by omega))⟩

set_option maxHeartbeats 400000 in
theorem l1Types_any (va : Value) (l : List Int) (B : Nat) (w : World) (ha : IntS w B va l) :
    Calls Tryd.prog 46 #[va] w fun e w' => e = .returned (.bool (tsOkP l)) ∧ w = w' := by
  obtain ⟨A, c, rfl, hc, hm, hr⟩ := ha
  have hex := tsOk_any l
  have HEX := Lib.hid hex
  clear hex
  go_enter Tryd.func46, Tryd.ntmps46
  go_wp2
  go_loop [3] (fun i => ∃ k : Nat, k ≤ l.length ∧ i = .int .i64 k ∧ ∀ x ∈ l.take k, badT x = false) (fun i => l.length - (intOf i).toNat)
  case atStart => exact ⟨0, Nat.zero_le _, rfl, by simp⟩
  case round =>
    obtain ⟨k, hk, rfl, hn⟩ := hrel
    have H := Lib.hid hn
    clear hn
    by_cases hlt : k < l.length
    · obtain ⟨b, off, rfl, hb, hcell⟩ := hr.int_at hlt
      have hck := hcell k hlt
      clear hcell
      by_cases h1 : 1 ≤ l[k] ∧ l[k] ≤ 4
      · obtain ⟨h1, h4⟩ := h1
        go_wp2
        refine ⟨⟨k + 1, by omega, by go_num, ?_⟩, by simp [intOf]; omega⟩
        rw [take_succ_get l k hlt]
        intro x hxm
        rcases List.mem_append.1 hxm with h | h
        · exact H.out x h
        · rw [List.mem_singleton.1 h]; simp [badT, withinP]; omega
      · have hbad : badT l[k] = true := by simp [badT, withinP]; omega
        have hany : l.any badT = true := List.any_eq_true.2 ⟨l[k], List.getElem_mem hlt, hbad⟩
        have HA := Lib.hid hany
        clear hbad hany
        rcases (show l[k] < 1 ∨ (1 ≤ l[k] ∧ 4 < l[k]) by omega) with h2 | ⟨h2, h3⟩
        all_goals
          clear h1
          go_wp2
          go_ret
          exact ⟨ret_bool (by rw [HEX.out, HA.out]; simp), rfl⟩
    · obtain rfl : k = l.length := by omega
      have h := H.out
      rw [List.take_length] at h
      have H' := Lib.hid h
      clear h
      go_wp2
      go_ret
      refine ⟨ret_bool ?_, rfl⟩
      have : l.any badT = false := by rw [List.any_eq_false]; intro x hx; rw [H'.out x hx]; simp
      rw [HEX.out, this]
      simp
      try omega

set_option maxHeartbeats 400000 in
theorem sProgramValid_any (vt vb : Value) (ts : List Int) (l : List St) (B : Nat) (w : World) (ht : IntS w B vt ts) (hl : StS w B vb l) (hB : B ≤ w.heap.size) (hsz : szL l ≤ 4194304) :
    Calls Tryd.prog 37 #[.agg #[vt, vb]] w fun e w' => e = .returned (.bool (validP ts l)) ∧ Below w.heap.size w w' := by
  have L := (l1_all (szL l) hsz).1
  have LC := l1Count_all (szL l) hsz
  cases hts : tsOkP ts
  · have HT := Lib.hid hts
    clear hts
    go_enter Tryd.func37, Tryd.ntmps37
    go_wp2_with (go_at_call 46; refine (l1Types_any _ ts B _ (ht.low (bel_a _ _) hB)).mono ?_; rintro e w' ⟨rfl, rfl⟩; rw [HT.out])
    go_ret
    exact ⟨ret_bool (by rw [validP_eq, HT.out]; rfl), bel_a _ _⟩
  · have HT := Lib.hid hts
    clear hts
    cases hbo : slOk ts 4 l
    · have HBO := Lib.hid hbo
      clear hbo
      go_enter Tryd.func37, Tryd.ntmps37
      go_wp2_with (go_at_call 46; refine (l1Types_any _ ts B _ (ht.low (bel_a _ _) hB)).mono ?_; rintro e w' ⟨rfl, rfl⟩; rw [HT.out])
      refine (L vt vb ts B l 4 _ (Nat.le_refl _) (by omega) (ht.low (bel_a _ _) hB) (by simp; omega) HT.out (hl.low (bel_a _ _) hB)).mono ?_
      rintro e w1 ⟨rfl, hb1⟩
      rw [HBO.out]
      go_wp2_with fail
      go_ret
      exact ⟨ret_bool (by rw [validP_eq, HT.out, HBO.out]; rfl), (bel_a _ _).trans (hb1.mono (by simp))⟩
    · have HBO := Lib.hid hbo
      clear hbo
      go_enter Tryd.func37, Tryd.ntmps37
      go_wp2_with (go_at_call 46; refine (l1Types_any _ ts B _ (ht.low (bel_a _ _) hB)).mono ?_; rintro e w' ⟨rfl, rfl⟩; rw [HT.out])
      refine (L vt vb ts B l 4 _ (Nat.le_refl _) (by omega) (ht.low (bel_a _ _) hB) (by simp; omega) HT.out (hl.low (bel_a _ _) hB)).mono ?_
      rintro e w1 ⟨rfl, hb1⟩
      rw [HBO.out]
      have hc := box_kept hb1 (by simp)
      have hb2 := (bel_a _ _).trans (hb1.mono (by simp))
      go_wp2_with fail
      refine (LC _ B l _ 30 _ (Nat.le_refl _) (by omega) (by omega) (by omega) (hl.low hb2 hB)).mono ?_
      rintro e w2 ⟨r, rfl, hr, rfl⟩
      have hd := hr.dec
      have HD := Lib.hid hd
      clear hd hr
      by_cases h30 : r ≤ 30
      · have H30 := Lib.hid h30
        go_wp2_with fail
        go_ret
        exact ⟨ret_bool (by rw [validP_eq, HT.out, HBO.out, ← HD.out, decide_eq_true H30.out]; simp; omega), hb2⟩
      · have H30 := Lib.hid h30
        go_wp2_with fail
        go_ret
        exact ⟨ret_bool (by rw [validP_eq, HT.out, HBO.out, ← HD.out, decide_eq_false H30.out]; simp; omega), hb2⟩

end Go.Proofs.YtfioaohadanjmaaDoor
