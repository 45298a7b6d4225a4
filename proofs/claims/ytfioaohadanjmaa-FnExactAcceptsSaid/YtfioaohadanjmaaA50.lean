import Derived.Test.YtfioaohadanjmaaA20
import Derived.Test.YtfioaohadanjmaaA48
set_option linter.unusedVariables false

/- FnExactAccepts: the walk. -/
namespace Go.Proofs.Ytfioaohadanjmaa
open Go.RowKit

set_option maxHeartbeats 8000000
set_option maxRecDepth 100000
theorem fnExactAccepts_any (vt vb : Value) (ts : List Int) (l : List St) (w : World) (ht : AnI w w.heap.size vt ts) (hl : StS w w.heap.size vb l) (hL : Lens l) :
    Calls Try.prog 3 #[.agg #[vt, vb]] w (LwRet w) := by
  have HA0 := Lib.hid (ArA.new ht hl)
  have HLE := Lib.hid hL
  have ht0 := ht
  obtain ⟨At, ct, rfl, -⟩ := ht0
  obtain ⟨Ab, cb, rfl, hcb⟩ := hl.slice
  clear ht hl hL
  go_enter Try.func3, Try.ntmps3
  go_upto_region 1 with (at_builtin; fail)
  generalize w.alloc (.cells #[.slice At ts.length ct, .slice Ab l.length cb] 25) = W0 at *
  obtain ⟨g, hg⟩ : ∃ g, g = w.heap.size := ⟨_, rfl⟩
  rw [← hg] at HA0 ⊢
  have HG := Lib.hid hg
  clear hg
  have c0 := HA0.out.row.cell 0
  have c1 := HA0.out.row.cell 1
  simp only [List.getElem?_cons_zero, List.getElem?_cons_succ] at c0 c1
  go_wp2_with (at_builtin; fail)
  refine (szProgram_any _ _ ts l 1048576 w.heap.size W0 HA0.out.ht HA0.out.hl HLE.out HA0.out.bel.size (by omega) (by omega)).mono ?_
  rintro e W1 ⟨rfl, hb1⟩
  have HA1 := Lib.hid (HA0.out.bels hb1)
  clear hb1 c0 c1 HA0
  by_cases hn : leftP 1048576 (ts.length + szL l) < 0
  · rw [(leftP_neg hn).1]
    clear hn
    go_wp2_with (at_builtin; fail)
    go_ret
    exact ⟨rfl, HA1.out.bel⟩
  · have hsz := (leftP_nn (by omega : 0 ≤ leftP 1048576 (ts.length + szL l))).1
    have htl : ts.length ≤ 1048576 := by omega
    have hll : szL l ≤ 1048576 := by omega
    have HB1 := Lib.hid (HA1.out.toB (by omega))
    generalize leftP 1048576 (ts.length + szL l) = L1 at *
    clear HA1 hsz HLE
    have c0 := HB1.out.c0
    have c1 := HB1.out.c1
    go_wp2_with (at_builtin; fail)
    refine (toProgram_any _ _ ts l w.heap.size W1 HB1.out.ht HB1.out.hl HB1.out.bel.size hll).mono ?_
    rintro e W2 ⟨vt2, vb2, rfl, ht2, hl2, hb2⟩
    have HB2 := Lib.hid (HB1.out.bels hb2)
    have HT2 := Lib.hid (ht2.toS (by omega))
    have HL2 := Lib.hid hl2.toS
    clear ht2 hl2 hb2 c0 c1 HB1
    go_wp2_with (at_builtin; fail)
    refine (sAccepts_any _ _ ts l W2.heap.size W2 HT2.out HL2.out (Nat.le_refl _) (by omega)).mono ?_
    rintro e W3 ⟨rfl, hb3⟩
    have HB3 := Lib.hid (HB2.out.bels hb3)
    clear hb3 HT2 HL2 HB2
    obtain ⟨d, hd⟩ : ∃ d, d = (validP ts l && decide ((chkRes ts l).length = 0)) := ⟨_, rfl⟩
    rw [← hd]
    have HD := Lib.hid hd
    clear hd
    have c0 := HB3.out.c0
    have c1 := HB3.out.c1
    go_wp2_with (at_builtin; fail)
    refine (toProgram_any _ _ ts l w.heap.size W3 HB3.out.ht HB3.out.hl HB3.out.bel.size hll).mono ?_
    rintro e W4 ⟨vt4, vb4, rfl, ht4, hl4, hb4⟩
    have HX5 := Lib.hid (XB.new ht4 hl4 hb4)
    have HB5 := Lib.hid ((HB3.out.bels hb4).bels (bel_a W4 (.cells #[vt4, vb4] 30)))
    have HY5 := Lib.hid (hb4.trans ((bel_a W4 (.cells #[vt4, vb4] 30)).mono hb4.size))
    obtain ⟨A4, n4, rfl, -⟩ := ht4.slice
    obtain ⟨b4, m4, rfl, -, -, -⟩ := hl4.slice
    clear ht4 hl4 hb4 c0 c1
    go_upto_region 7 with (at_builtin; fail)
    generalize hW5 : W4.alloc (.cells #[.slice A4 ts.length n4, .slice (some ⟨b4, 0, none⟩) l.length m4] 30) = W5 at *
    clear hW5
    obtain ⟨hi, hhi⟩ : ∃ hi, hi = W4.heap.size := ⟨_, rfl⟩
    obtain ⟨lo, hlo⟩ : ∃ lo, lo = W3.heap.size := ⟨_, rfl⟩
    rw [← hhi] at HX5 ⊢
    rw [← hlo] at HX5
    clear hhi hlo
    have x0 := HX5.out.c0
    have x1 := HX5.out.c1
    go_wp2_with (at_builtin; fail)
    refine (iAccepts_any _ _ ts l W5.heap.size W5 (HX5.out.rt (by omega)) HX5.out.rl (Nat.le_refl _) (by omega)).mono ?_
    rintro e W9 ⟨rfl, hb7⟩
    rw [← HD.out]
    have HB9 := Lib.hid (HB5.out.bels hb7)
    have HX9 := Lib.hid (HX5.out.bels hb7)
    clear hb7 x0 x1 HB5 HX5
    have hdd : (d != d) = false := by cases d <;> rfl
    have c0 := HB9.out.c0
    have c1 := HB9.out.c1
    have x0 := HX9.out.c0
    have x1 := HX9.out.c1
    have hlt7 := HB9.out.lt
    have hlx7 := HX9.out.lt
    go_wp2_with (at_builtin; fail)
    have BEL : Hid (∀ w', w'.cell? ⟨g, 0, none⟩ = some (.slice At ts.length ct) ∧ w'.cell? ⟨g, 1, none⟩ = some (.slice Ab l.length cb) ∧ w'.cell? ⟨hi, 0, none⟩ = some (.slice A4 ts.length n4) ∧ w'.cell? ⟨hi, 1, none⟩ = some (.slice (some ⟨b4, 0, none⟩) l.length m4) ∧ Below W9.heap.size W9 w' → Below W9.heap.size W9 w') := Lib.hid fun _ h => h.2.2.2.2
    refine wp_region_held_drew (S := (fun w' => w'.cell? ⟨g, 0, none⟩ = some (.slice At ts.length ct) ∧ w'.cell? ⟨g, 1, none⟩ = some (.slice Ab l.length cb) ∧ w'.cell? ⟨hi, 0, none⟩ = some (.slice A4 ts.length n4) ∧ w'.cell? ⟨hi, 1, none⟩ = some (.slice (some ⟨b4, 0, none⟩) l.length m4) ∧ Below W9.heap.size W9 w')) (by kernel_rfl) ?_ (fun hHeld => ?_)
    · exact ⟨c0, c1, x0, x1, (Below.refl _ _).drew⟩
    refine wpAnyH_take (i := 0) (oi := ⟨some 22, _, _, _, _, _⟩) (v := ?_) rfl (by kernel_rfl) (by kernel_rfl) (by kernel_rfl) (fun _ _ _ h => h) (Or.inl ⟨by rfl, fun w' hSw => ?_⟩) (by assumption) ?_
    rotate_left
    · (try dsimp only at hSw); go_simp; (try with_reducible rfl)
    (try simp only [Act.put, List.setIfInBounds_toArray, List.set_cons_zero, List.set_cons_succ])
    refine wpAnyH_take (i := 1) (oi := ⟨some 23, _, _, _, _, _⟩) (v := ?_) rfl (by kernel_rfl) (by kernel_rfl) (by kernel_rfl) (fun _ _ _ h => h) (Or.inl ⟨by rfl, fun w' hSw => ?_⟩) (by assumption) ?_
    rotate_left
    · (try dsimp only at hSw); go_simp; (try with_reducible rfl)
    (try simp only [Act.put, List.setIfInBounds_toArray, List.set_cons_zero, List.set_cons_succ])
    refine wpAnyH_ready (rs := [2]) (by kernel_rfl) (by simp) ?_
    refine AllReadyH.cons (o := ⟨some 24, _, _, _, _, _⟩) rfl (fun K hK => ?_) AllReadyH.nil
    go_simp
    (refine (toProgram_any _ _ ts l w.heap.size _ ((HB9.out.bels (show Below W9.heap.size W9 _ from (BEL.out _ (by assumption)))).ht) ((HB9.out.bels (show Below W9.heap.size W9 _ from (BEL.out _ (by assumption)))).hl) ((HB9.out.bels (show Below W9.heap.size W9 _ from (BEL.out _ (by assumption)))).bel.size) hll).mono ?_)
    (rintro e w8 ⟨vt8, vb8, rfl, ht8, hl8, hb8⟩)
    (have BX8 := Lib.hid ((BEL.out _ (by assumption)).trans (hb8.mono (BEL.out _ (by assumption)).size)))
    (have HT8 := Lib.hid (ht8.toS (by omega)))
    (have HL8 := Lib.hid hl8.toS)
    clear ht8 hl8 hb8
    go_simp
    refine hK.out _ _ ?_ (fun hHeld => ?_)
    · exact ⟨(BX8.out.cell (p := ⟨g, 0, none⟩) hlt7).trans c0, (BX8.out.cell (p := ⟨g, 1, none⟩) hlt7).trans c1, (BX8.out.cell (p := ⟨hi, 0, none⟩) hlx7).trans x0, (BX8.out.cell (p := ⟨hi, 1, none⟩) hlx7).trans x1, BX8.out⟩
    clear hK K
    (try simp only [Act.put, List.setIfInBounds_toArray, List.set_cons_zero, List.set_cons_succ])
    refine wpAnyH_ready (rs := [3]) (by kernel_rfl) (by simp) ?_
    refine AllReadyH.cons (o := ⟨some 25, _, _, _, _, _⟩) rfl (fun K hK => ?_) AllReadyH.nil
    go_simp
    (have BY := (BEL.out _ (by assumption)))
    (refine (eqProgram_any _ _ _ _ ts l _ _ (((HX9.out.bels BX8.out).rt (by omega))) ((HX9.out.bels BX8.out).rl) HT8.out HL8.out (Nat.le_refl _) (by omega)).mono ?_)
    (rintro e w9 ⟨rfl, hb9⟩)
    (have BX9 := Lib.hid (BX8.out.trans (hb9.mono BX8.out.size)))
    clear hb9
    go_simp
    refine hK.out _ _ ?_ (fun hHeld => ?_)
    · exact ⟨(BX9.out.cell (p := ⟨g, 0, none⟩) hlt7).trans c0, (BX9.out.cell (p := ⟨g, 1, none⟩) hlt7).trans c1, (BX9.out.cell (p := ⟨hi, 0, none⟩) hlx7).trans x0, (BX9.out.cell (p := ⟨hi, 1, none⟩) hlx7).trans x1, BX9.out⟩
    clear hK K
    (try simp only [Act.put, List.setIfInBounds_toArray, List.set_cons_zero, List.set_cons_succ])
    refine wpAnyH_take (i := 4) (oi := ⟨some 26, _, _, _, _, _⟩) (v := ?_) rfl (by kernel_rfl) (by kernel_rfl) (by kernel_rfl) (fun _ _ _ h => h) (Or.inl ⟨by rfl, fun w' hSw => ?_⟩) (by assumption) ?_
    rotate_left
    · (try dsimp only at hSw); go_simp; (try with_reducible rfl)
    (try simp only [Act.put, List.setIfInBounds_toArray, List.set_cons_zero, List.set_cons_succ])
    refine wpAnyH_done (by kernel_rfl) ?_ _
    have HBa := Lib.hid (HB9.out.bels BX9.out)
    go_wp2_with (at_builtin; fail)
    go_ret
    exact ⟨rfl, HBa.out.bel⟩

end Go.Proofs.Ytfioaohadanjmaa
