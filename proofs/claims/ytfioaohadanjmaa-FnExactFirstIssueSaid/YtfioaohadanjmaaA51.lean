import Derived.Test.YtfioaohadanjmaaA20
import Derived.Test.YtfioaohadanjmaaA28
import Derived.Test.YtfioaohadanjmaaA48
set_option linter.unusedVariables false

/- FnExactFirstIssue: the walk. -/
namespace Go.Proofs.Ytfioaohadanjmaa
open Go.RowKit

set_option maxHeartbeats 8000000
set_option maxRecDepth 100000
theorem fnExactFirstIssue_any (vt vb : Value) (ts : List Int) (l : List St) (w : World) (ht : AnI w w.heap.size vt ts) (hl : StS w w.heap.size vb l) (hL : Lens l) :
    Calls Try.prog 4 #[.agg #[vt, vb]] w (LwRet w) := by
  have HA0 := Lib.hid (ArA.new ht hl)
  have HLE := Lib.hid hL
  have ht0 := ht
  obtain ⟨At, ct, rfl, -⟩ := ht0
  obtain ⟨Ab, cb, rfl, hcb⟩ := hl.slice
  clear ht hl hL
  go_enter Try.func4, Try.ntmps4
  go_upto_region 1 with (at_builtin; fail)
  generalize w.alloc (.cells #[.slice At ts.length ct, .slice Ab l.length cb] 25) = W0 at *
  obtain ⟨g, hg⟩ : ∃ g, g = w.heap.size := ⟨_, rfl⟩
  rw [← hg] at HA0 ⊢
  have HG := Lib.hid hg
  clear hg
  have c0 := HA0.out.row.cell 0
  have c1 := HA0.out.row.cell 1
  simp only [List.getElem?_cons_zero, List.getElem?_cons_succ] at c0 c1
  go_wp2_with (at_builtin; fail)
  refine (szProgram_any _ _ ts l 1048576 w.heap.size W0 HA0.out.ht HA0.out.hl HLE.out HA0.out.bel.size (by omega) (by omega)).mono ?_
  rintro e W1 ⟨rfl, hb1⟩
  have HA1 := Lib.hid (HA0.out.bels hb1)
  clear hb1 c0 c1 HA0
  by_cases hn : leftP 1048576 (ts.length + szL l) < 0
  · rw [(leftP_neg hn).1]
    clear hn
    go_wp2_with (at_builtin; fail)
    go_ret
    exact ⟨rfl, HA1.out.bel⟩
  · have hsz := (leftP_nn (by omega : 0 ≤ leftP 1048576 (ts.length + szL l))).1
    have htl : ts.length ≤ 1048576 := by omega
    have hll : szL l ≤ 1048576 := by omega
    have HB1 := Lib.hid (HA1.out.toB (by omega))
    generalize leftP 1048576 (ts.length + szL l) = L1 at *
    clear HA1 hsz HLE
    have c0 := HB1.out.c0
    have c1 := HB1.out.c1
    go_wp2_with (at_builtin; fail)
    refine (toProgram_any _ _ ts l w.heap.size W1 HB1.out.ht HB1.out.hl HB1.out.bel.size hll).mono ?_
    rintro e W2 ⟨vt2, vb2, rfl, ht2, hl2, hb2⟩
    have HB2 := Lib.hid (HB1.out.bels hb2)
    have HT2 := Lib.hid (ht2.toS (by omega))
    have HL2 := Lib.hid hl2.toS
    clear ht2 hl2 hb2 c0 c1 HB1
    go_wp2_with (at_builtin; fail)
    refine (sFirstIssue_any _ _ ts l W2.heap.size W2 HT2.out HL2.out (Nat.le_refl _) (by omega)).mono ?_
    rintro e W3 ⟨rfl, hb3⟩
    obtain ⟨d, hd⟩ : ∃ d, d = decide (0 < (chkRes ts l).length) := ⟨_, rfl⟩
    rw [← hd]
    obtain ⟨i, hi0⟩ : ∃ i, i = firI (chkRes ts l) := ⟨_, rfl⟩
    rw [← hi0]
    have HD := Lib.hid hd
    have HI := Lib.hid hi0
    have HAI := Lib.hid (bel_a W3 (.cells #[.int .i64 i.pt, .int .i64 i.kd, .int .i64 i.wt] 35))
    have HI3 := Lib.hid (RowB.new W3 [.int .i64 i.pt, .int .i64 i.kd, .int .i64 i.wt] 35)
    have HBa := Lib.hid (HB2.out.bels hb3)
    have HB3 := Lib.hid (HBa.out.bels HAI.out)
    clear hb3 HT2 HL2 HB2 hd hi0
    go_upto_region 6 with (at_builtin; fail)
    generalize hW3 : W3.alloc (.cells #[.int .i64 i.pt, .int .i64 i.kd, .int .i64 i.wt] 35) = W3' at *
    clear hW3
    obtain ⟨gi, hgi⟩ : ∃ gi, gi = W3.heap.size := ⟨_, rfl⟩
    rw [← hgi] at HI3 ⊢
    clear hgi
    clear HAI HBa
    have c0 := HB3.out.c0
    have c1 := HB3.out.c1
    go_wp2_with (at_builtin; fail)
    refine (toProgram_any _ _ ts l w.heap.size W3' HB3.out.ht HB3.out.hl HB3.out.bel.size hll).mono ?_
    rintro e W4 ⟨vt4, vb4, rfl, ht4, hl4, hb4⟩
    have HX5 := Lib.hid (XB.new ht4 hl4 hb4)
    have HB5 := Lib.hid ((HB3.out.bels hb4).bels (bel_a W4 (.cells #[vt4, vb4] 30)))
    have HY5 := Lib.hid (hb4.trans ((bel_a W4 (.cells #[vt4, vb4] 30)).mono hb4.size))
    obtain ⟨A4, n4, rfl, -⟩ := ht4.slice
    obtain ⟨b4, m4, rfl, -, -, -⟩ := hl4.slice
    clear ht4 hl4 hb4 c0 c1
    go_upto_region 7 with (at_builtin; fail)
    generalize hW5 : W4.alloc (.cells #[.slice A4 ts.length n4, .slice (some ⟨b4, 0, none⟩) l.length m4] 30) = W5 at *
    clear hW5
    obtain ⟨hi, hhi⟩ : ∃ hi, hi = W4.heap.size := ⟨_, rfl⟩
    obtain ⟨lo, hlo⟩ : ∃ lo, lo = W3'.heap.size := ⟨_, rfl⟩
    rw [← hhi] at HX5 ⊢
    rw [← hlo] at HX5
    clear hhi hlo
    have x0 := HX5.out.c0
    have x1 := HX5.out.c1
    go_wp2_with (at_builtin; fail)
    refine (iFirstIssue_any _ _ ts l W5.heap.size W5 (HX5.out.rt (by omega)) HX5.out.rl (Nat.le_refl _) (by omega)).mono ?_
    rintro e W9 ⟨rfl, hb7⟩
    rw [← HD.out, ← HI.out]
    have HBb := Lib.hid (HB5.out.bels hb7)
    have HXb := Lib.hid (HX5.out.bels hb7)
    have HI9 := Lib.hid ((HI3.out.low HY5.out HI3.out.lt).low hb7 (by have := HI3.out.lt; have := HY5.out.size; omega))
    have HB8 := Lib.hid (HBb.out.bels (bel_a W9 (.cells #[.int .i64 i.pt, .int .i64 i.kd, .int .i64 i.wt] 35)))
    have HX8 := Lib.hid (HXb.out.bels (bel_a W9 (.cells #[.int .i64 i.pt, .int .i64 i.kd, .int .i64 i.wt] 35)))
    have HI8 := Lib.hid (HI9.out.low (bel_a W9 (.cells #[.int .i64 i.pt, .int .i64 i.kd, .int .i64 i.wt] 35)) HI9.out.lt)
    have HJ8 := Lib.hid (RowB.new W9 [.int .i64 i.pt, .int .i64 i.kd, .int .i64 i.wt] 35)
    clear hb7 x0 x1 HB5 HX5 HBb HXb HI9 HI3 HY5
    go_upto_region 8 with (at_builtin; fail)
    generalize hW8 : W9.alloc (.cells #[.int .i64 i.pt, .int .i64 i.kd, .int .i64 i.wt] 35) = W8 at *
    clear hW8
    obtain ⟨gj, hgj⟩ : ∃ gj, gj = W9.heap.size := ⟨_, rfl⟩
    rw [← hgj] at HJ8 ⊢
    clear hgj
    have i0 := HI8.out.cell 0
    have i1 := HI8.out.cell 1
    have i2 := HI8.out.cell 2
    have j0 := HJ8.out.cell 0
    have j1 := HJ8.out.cell 1
    have j2 := HJ8.out.cell 2
    simp only [List.getElem?_cons_zero, List.getElem?_cons_succ] at i0 i1 i2 j0 j1 j2
    have hdd : (d != d) = false := by cases d <;> rfl
    go_wp2_with (at_builtin; fail)
    refine (eqIssue_any i.pt i.kd i.wt W8).mono ?_
    rintro e Wz ⟨rfl, hbz⟩
    have HB9 := Lib.hid (HB8.out.bels hbz)
    have HX9 := Lib.hid (HX8.out.bels hbz)
    clear i0 i1 i2 j0 j1 j2 hbz HB8 HX8
    have c0 := HB9.out.c0
    have c1 := HB9.out.c1
    have x0 := HX9.out.c0
    have x1 := HX9.out.c1
    have hlt7 := HB9.out.lt
    have hlx7 := HX9.out.lt
    go_wp2_with (at_builtin; fail)
    have BEL : Hid (∀ w', w'.cell? ⟨g, 0, none⟩ = some (.slice At ts.length ct) ∧ w'.cell? ⟨g, 1, none⟩ = some (.slice Ab l.length cb) ∧ w'.cell? ⟨hi, 0, none⟩ = some (.slice A4 ts.length n4) ∧ w'.cell? ⟨hi, 1, none⟩ = some (.slice (some ⟨b4, 0, none⟩) l.length m4) ∧ Below Wz.heap.size Wz w' → Below Wz.heap.size Wz w') := Lib.hid fun _ h => h.2.2.2.2
    refine wp_region_held_drew (S := (fun w' => w'.cell? ⟨g, 0, none⟩ = some (.slice At ts.length ct) ∧ w'.cell? ⟨g, 1, none⟩ = some (.slice Ab l.length cb) ∧ w'.cell? ⟨hi, 0, none⟩ = some (.slice A4 ts.length n4) ∧ w'.cell? ⟨hi, 1, none⟩ = some (.slice (some ⟨b4, 0, none⟩) l.length m4) ∧ Below Wz.heap.size Wz w')) (by kernel_rfl) ?_ (fun hHeld => ?_)
    · exact ⟨c0, c1, x0, x1, (Below.refl _ _).drew⟩
    refine wpAnyH_take (i := 0) (oi := ⟨some 36, _, _, _, _, _⟩) (v := ?_) rfl (by kernel_rfl) (by kernel_rfl) (by kernel_rfl) (fun _ _ _ h => h) (Or.inl ⟨by rfl, fun w' hSw => ?_⟩) (by assumption) ?_
    rotate_left
    · (try dsimp only at hSw); go_simp; (try with_reducible rfl)
    (try simp only [Act.put, List.setIfInBounds_toArray, List.set_cons_zero, List.set_cons_succ])
    refine wpAnyH_take (i := 1) (oi := ⟨some 37, _, _, _, _, _⟩) (v := ?_) rfl (by kernel_rfl) (by kernel_rfl) (by kernel_rfl) (fun _ _ _ h => h) (Or.inl ⟨by rfl, fun w' hSw => ?_⟩) (by assumption) ?_
    rotate_left
    · (try dsimp only at hSw); go_simp; (try with_reducible rfl)
    (try simp only [Act.put, List.setIfInBounds_toArray, List.set_cons_zero, List.set_cons_succ])
    refine wpAnyH_ready (rs := [2]) (by kernel_rfl) (by simp) ?_
    refine AllReadyH.cons (o := ⟨some 38, _, _, _, _, _⟩) rfl (fun K hK => ?_) AllReadyH.nil
    go_simp
    (refine (toProgram_any _ _ ts l w.heap.size _ ((HB9.out.bels (show Below Wz.heap.size Wz _ from (BEL.out _ (by assumption)))).ht) ((HB9.out.bels (show Below Wz.heap.size Wz _ from (BEL.out _ (by assumption)))).hl) ((HB9.out.bels (show Below Wz.heap.size Wz _ from (BEL.out _ (by assumption)))).bel.size) hll).mono ?_)
    (rintro e w8 ⟨vt8, vb8, rfl, ht8, hl8, hb8⟩)
    (have BX8 := Lib.hid ((BEL.out _ (by assumption)).trans (hb8.mono (BEL.out _ (by assumption)).size)))
    (have HT8 := Lib.hid (ht8.toS (by omega)))
    (have HL8 := Lib.hid hl8.toS)
    clear ht8 hl8 hb8
    go_simp
    refine hK.out _ _ ?_ (fun hHeld => ?_)
    · exact ⟨(BX8.out.cell (p := ⟨g, 0, none⟩) hlt7).trans c0, (BX8.out.cell (p := ⟨g, 1, none⟩) hlt7).trans c1, (BX8.out.cell (p := ⟨hi, 0, none⟩) hlx7).trans x0, (BX8.out.cell (p := ⟨hi, 1, none⟩) hlx7).trans x1, BX8.out⟩
    clear hK K
    (try simp only [Act.put, List.setIfInBounds_toArray, List.set_cons_zero, List.set_cons_succ])
    refine wpAnyH_ready (rs := [3]) (by kernel_rfl) (by simp) ?_
    refine AllReadyH.cons (o := ⟨some 39, _, _, _, _, _⟩) rfl (fun K hK => ?_) AllReadyH.nil
    go_simp
    (have BY := (BEL.out _ (by assumption)))
    (refine (eqProgram_any _ _ _ _ ts l _ _ (((HX9.out.bels BX8.out).rt (by omega))) ((HX9.out.bels BX8.out).rl) HT8.out HL8.out (Nat.le_refl _) (by omega)).mono ?_)
    (rintro e w9 ⟨rfl, hb9⟩)
    (have BX9 := Lib.hid (BX8.out.trans (hb9.mono BX8.out.size)))
    clear hb9
    go_simp
    refine hK.out _ _ ?_ (fun hHeld => ?_)
    · exact ⟨(BX9.out.cell (p := ⟨g, 0, none⟩) hlt7).trans c0, (BX9.out.cell (p := ⟨g, 1, none⟩) hlt7).trans c1, (BX9.out.cell (p := ⟨hi, 0, none⟩) hlx7).trans x0, (BX9.out.cell (p := ⟨hi, 1, none⟩) hlx7).trans x1, BX9.out⟩
    clear hK K
    (try simp only [Act.put, List.setIfInBounds_toArray, List.set_cons_zero, List.set_cons_succ])
    refine wpAnyH_take (i := 4) (oi := ⟨some 40, _, _, _, _, _⟩) (v := ?_) rfl (by kernel_rfl) (by kernel_rfl) (by kernel_rfl) (fun _ _ _ h => h) (Or.inl ⟨by rfl, fun w' hSw => ?_⟩) (by assumption) ?_
    rotate_left
    · (try dsimp only at hSw); go_simp; (try with_reducible rfl)
    (try simp only [Act.put, List.setIfInBounds_toArray, List.set_cons_zero, List.set_cons_succ])
    refine wpAnyH_done (by kernel_rfl) ?_ _
    have HBa := Lib.hid (HB9.out.bels BX9.out)
    go_wp2_with (at_builtin; fail)
    go_ret
    exact ⟨rfl, HBa.out.bel⟩

end Go.Proofs.Ytfioaohadanjmaa
