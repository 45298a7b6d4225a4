import Derived.Test.YtidlifijgooceaaJ25
import Derived.Test.YtidlifijgooceaaJ50
set_option linter.unusedVariables false

/- FnExactUseAfter: the walk. -/
namespace Go.Proofs.Ytidlifijgooceaa
open Go.RowKit

set_option maxHeartbeats 8000000
set_option maxRecDepth 100000
theorem fnExactUseAfter_any (vt vb : Value) (ts : List Int) (l : List St) (a b : Int) (w : World) (ht : AnI w w.heap.size vt ts) (hl : StS w w.heap.size vb l) (hL : Lens l) :
    Calls Try.prog 8 #[.agg #[vt, vb], .int .i64 a, .int .i64 b] w (LwRet w) := by
  have HA0 := Lib.hid (ArA.new ht hl)
  have HLE := Lib.hid hL
  have ht0 := ht
  obtain ⟨At, ct, rfl, -⟩ := ht0
  obtain ⟨Ab, cb, rfl, hcb⟩ := hl.slice
  clear ht hl hL
  go_enter Try.func8, Try.ntmps8
  go_upto_region 1 with (at_builtin; fail)
  generalize w.alloc (.cells #[.slice At ts.length ct, .slice Ab l.length cb] 49) = W0 at *
  obtain ⟨g, hg⟩ : ∃ g, g = w.heap.size := ⟨_, rfl⟩
  rw [← hg] at HA0 ⊢
  have HG := Lib.hid hg
  clear hg
  have c0 := HA0.out.row.cell 0
  have c1 := HA0.out.row.cell 1
  simp only [List.getElem?_cons_zero, List.getElem?_cons_succ] at c0 c1
  go_wp2_with (at_builtin; fail)
  refine (szProgram_any _ _ ts l 1048576 w.heap.size W0 HA0.out.ht HA0.out.hl HLE.out HA0.out.bel.size (by omega) (by omega)).mono ?_
  rintro e W1 ⟨rfl, hb1⟩
  have HA1 := Lib.hid (HA0.out.bels hb1)
  clear hb1 c0 c1 HA0
  by_cases hn : leftP 1048576 (ts.length + szL l) < 0
  · rw [(leftP_neg hn).1]
    clear hn
    go_wp2_with (at_builtin; fail)
    go_ret
    exact ⟨rfl, HA1.out.bel⟩
  · have hsz := (leftP_nn (by omega : 0 ≤ leftP 1048576 (ts.length + szL l))).1
    have htl : ts.length ≤ 1048576 := by omega
    have hll : szL l ≤ 1048576 := by omega
    have HB1 := Lib.hid (HA1.out.toB (by omega))
    generalize leftP 1048576 (ts.length + szL l) = L1 at *
    clear HA1 hsz HLE
    have c0 := HB1.out.c0
    have c1 := HB1.out.c1
    go_wp2_with (at_builtin; fail)
    refine (toProgram_any _ _ ts l w.heap.size W1 HB1.out.ht HB1.out.hl HB1.out.bel.size hll).mono ?_
    rintro e W2 ⟨vt2, vb2, rfl, ht2, hl2, hb2⟩
    have HB2 := Lib.hid (HB1.out.bels hb2)
    have HT2 := Lib.hid (ht2.toS (by omega))
    have HL2 := Lib.hid hl2.toS
    clear ht2 hl2 hb2 c0 c1 HB1
    go_wp2_with (at_builtin; fail)
    refine (sUseAfter_any _ _ ts l a b W2.heap.size W2 HT2.out HL2.out (Nat.le_refl _) (by omega)).mono ?_
    rintro e W3 ⟨rfl, hb3⟩
    have HB3 := Lib.hid (HB2.out.bels hb3)
    have c0 := HB3.out.c0
    have c1 := HB3.out.c1
    clear hb3 HT2 HL2 HB2
    obtain ⟨o, ho⟩ : ∃ o, o = uaB ts l a b := ⟨_, rfl⟩
    rw [← ho]
    have HOE := Lib.hid ho
    clear ho
    go_wp2_with (at_builtin; fail)
    refine (toProgram_any _ _ ts l w.heap.size W3 HB3.out.ht HB3.out.hl HB3.out.bel.size hll).mono ?_
    rintro e W5 ⟨vt5, vb5, rfl, ht5, hl5, hb5⟩
    have HX6 := Lib.hid (XB.new ht5 hl5 hb5)
    have HB6 := Lib.hid ((HB3.out.bels hb5).bels (bel_a W5 (.cells #[vt5, vb5] 26)))
    obtain ⟨A5, n5, rfl, -⟩ := ht5.slice
    obtain ⟨b5, m5, rfl, -, -, -⟩ := hl5.slice
    clear ht5 hl5 hb5 c0 c1
    go_upto_region 7 with (at_builtin; fail)
    generalize hW6 : W5.alloc (.cells #[.slice A5 ts.length n5, .slice (some ⟨b5, 0, none⟩) l.length m5] 26) = W6 at *
    clear hW6
    obtain ⟨hi, hhi⟩ : ∃ hi, hi = W5.heap.size := ⟨_, rfl⟩
    obtain ⟨lo, hlo⟩ : ∃ lo, lo = W3.heap.size := ⟨_, rfl⟩
    rw [← hhi] at HX6 ⊢
    rw [← hlo] at HX6
    clear hhi hlo HB3
    have x0 := HX6.out.c0
    have x1 := HX6.out.c1
    go_wp2_with (at_builtin; fail)
    refine (iUseAfter_any _ _ ts l a b W6.heap.size W6 (HX6.out.rt (by omega)) HX6.out.rl (Nat.le_refl _) (by omega)).mono ?_
    rintro e W9 ⟨rfl, hb7⟩
    rw [← HOE.out]
    have HB9 := Lib.hid (HB6.out.bels hb7)
    have HX9 := Lib.hid (HX6.out.bels hb7)
    clear hb7 x0 x1 HB6 HX6
    generalize o.isSome = d at *
    generalize uaV o = z at *
    have hdd : (d != d) = false := by cases d <;> rfl
    have hzz : (z != z) = false := by simp
    have c0 := HB9.out.c0
    have c1 := HB9.out.c1
    have x0 := HX9.out.c0
    have x1 := HX9.out.c1
    have hlt7 := HB9.out.lt
    have hlx7 := HX9.out.lt
    go_wp2_with (at_builtin; fail)
    have BEL : Hid (∀ w', w'.cell? ⟨g, 0, none⟩ = some (.slice At ts.length ct) ∧ w'.cell? ⟨g, 1, none⟩ = some (.slice Ab l.length cb) ∧ w'.cell? ⟨hi, 0, none⟩ = some (.slice A5 ts.length n5) ∧ w'.cell? ⟨hi, 1, none⟩ = some (.slice (some ⟨b5, 0, none⟩) l.length m5) ∧ Below W9.heap.size W9 w' → Below W9.heap.size W9 w') := Lib.hid fun _ h => h.2.2.2.2
    refine wp_region_held_drew (S := (fun w' => w'.cell? ⟨g, 0, none⟩ = some (.slice At ts.length ct) ∧ w'.cell? ⟨g, 1, none⟩ = some (.slice Ab l.length cb) ∧ w'.cell? ⟨hi, 0, none⟩ = some (.slice A5 ts.length n5) ∧ w'.cell? ⟨hi, 1, none⟩ = some (.slice (some ⟨b5, 0, none⟩) l.length m5) ∧ Below W9.heap.size W9 w')) (by kernel_rfl) ?_ (fun hHeld => ?_)
    · exact ⟨c0, c1, x0, x1, (Below.refl _ _).drew⟩
    refine wpAnyH_take (i := 0) (oi := ⟨some 43, _, _, _, _, _⟩) (v := ?_) rfl (by kernel_rfl) (by kernel_rfl) (by kernel_rfl) (fun _ _ _ h => h) (Or.inl ⟨by rfl, fun w' hSw => ?_⟩) (by assumption) ?_
    rotate_left
    · (try dsimp only at hSw); go_simp; (try with_reducible rfl)
    (try simp only [Act.put, List.setIfInBounds_toArray, List.set_cons_zero, List.set_cons_succ])
    refine wpAnyH_take (i := 1) (oi := ⟨some 44, _, _, _, _, _⟩) (v := ?_) rfl (by kernel_rfl) (by kernel_rfl) (by kernel_rfl) (fun _ _ _ h => h) (Or.inl ⟨by rfl, fun w' hSw => ?_⟩) (by assumption) ?_
    rotate_left
    · (try dsimp only at hSw); go_simp; (try with_reducible rfl)
    (try simp only [Act.put, List.setIfInBounds_toArray, List.set_cons_zero, List.set_cons_succ])
    refine wpAnyH_ready (rs := [2]) (by kernel_rfl) (by simp) ?_
    refine AllReadyH.cons (o := ⟨some 45, _, _, _, _, _⟩) rfl (fun K hK => ?_) AllReadyH.nil
    go_simp
    (refine (toProgram_any _ _ ts l w.heap.size _ ((HB9.out.bels (show Below W9.heap.size W9 _ from (BEL.out _ (by assumption)))).ht) ((HB9.out.bels (show Below W9.heap.size W9 _ from (BEL.out _ (by assumption)))).hl) ((HB9.out.bels (show Below W9.heap.size W9 _ from (BEL.out _ (by assumption)))).bel.size) hll).mono ?_)
    (rintro e w8 ⟨vt8, vb8, rfl, ht8, hl8, hb8⟩)
    (have BX8 := Lib.hid ((BEL.out _ (by assumption)).trans (hb8.mono (BEL.out _ (by assumption)).size)))
    (have HT8 := Lib.hid (ht8.toS (by omega)))
    (have HL8 := Lib.hid hl8.toS)
    clear ht8 hl8 hb8
    go_simp
    refine hK.out _ _ ?_ (fun hHeld => ?_)
    · exact ⟨(BX8.out.cell (p := ⟨g, 0, none⟩) hlt7).trans c0, (BX8.out.cell (p := ⟨g, 1, none⟩) hlt7).trans c1, (BX8.out.cell (p := ⟨hi, 0, none⟩) hlx7).trans x0, (BX8.out.cell (p := ⟨hi, 1, none⟩) hlx7).trans x1, BX8.out⟩
    clear hK K
    (try simp only [Act.put, List.setIfInBounds_toArray, List.set_cons_zero, List.set_cons_succ])
    refine wpAnyH_ready (rs := [3]) (by kernel_rfl) (by simp) ?_
    refine AllReadyH.cons (o := ⟨some 46, _, _, _, _, _⟩) rfl (fun K hK => ?_) AllReadyH.nil
    go_simp
    (have BY := (BEL.out _ (by assumption)))
    (refine (eqProgram_any _ _ _ _ ts l _ _ (((HX9.out.bels BX8.out).rt (by omega))) ((HX9.out.bels BX8.out).rl) HT8.out HL8.out (Nat.le_refl _) (by omega)).mono ?_)
    (rintro e w9 ⟨rfl, hb9⟩)
    (have BX9 := Lib.hid (BX8.out.trans (hb9.mono BX8.out.size)))
    clear hb9
    go_simp
    refine hK.out _ _ ?_ (fun hHeld => ?_)
    · exact ⟨(BX9.out.cell (p := ⟨g, 0, none⟩) hlt7).trans c0, (BX9.out.cell (p := ⟨g, 1, none⟩) hlt7).trans c1, (BX9.out.cell (p := ⟨hi, 0, none⟩) hlx7).trans x0, (BX9.out.cell (p := ⟨hi, 1, none⟩) hlx7).trans x1, BX9.out⟩
    clear hK K
    (try simp only [Act.put, List.setIfInBounds_toArray, List.set_cons_zero, List.set_cons_succ])
    refine wpAnyH_take (i := 4) (oi := ⟨some 47, _, _, _, _, _⟩) (v := ?_) rfl (by kernel_rfl) (by kernel_rfl) (by kernel_rfl) (fun _ _ _ h => h) (Or.inl ⟨by rfl, fun w' hSw => ?_⟩) (by assumption) ?_
    rotate_left
    · (try dsimp only at hSw); go_simp; (try with_reducible rfl)
    (try simp only [Act.put, List.setIfInBounds_toArray, List.set_cons_zero, List.set_cons_succ])
    refine wpAnyH_done (by kernel_rfl) ?_ _
    have HBa := Lib.hid (HB9.out.bels BX9.out)
    go_wp2_with (at_builtin; fail)
    go_ret
    exact ⟨rfl, HBa.out.bel⟩

end Go.Proofs.Ytidlifijgooceaa
