import Derived.Test.YtidlifijgooceaaW39
set_option linter.unusedVariables false

/- FnExactDropDead: the walk. -/
namespace Go.Proofs.Ytidlifijgooceaa
open Go.RowKit

set_option maxHeartbeats 8000000
set_option maxRecDepth 100000
theorem fnExactDropDead_any (vt vb : Value) (ts : List Int) (l : List St) (a : Int) (w : World) (ht : AnI w w.heap.size vt ts) (hl : StS w w.heap.size vb l) (hL : Lens l) :
    Calls Try.prog 7 #[.agg #[vt, vb], .int .i64 a] w (LwRet w) := by
  have HA0 := Lib.hid (ArA.new ht hl)
  have HLE := Lib.hid hL
  have ht0 := ht
  obtain ⟨At, ct, rfl, -⟩ := ht0
  obtain ⟨Ab, cb, rfl, hcb⟩ := hl.slice
  clear ht hl hL
  obtain ⟨d, ts', l', hts', hsz', hS, hI⟩ := dd_both ts l a
  have HS := Lib.hid hS
  have HI := Lib.hid hI
  clear hS hI
  go_enter Try.func7, Try.ntmps7
  go_upto_region 1 with (at_builtin; fail)
  generalize w.alloc (.cells #[.slice At ts.length ct, .slice Ab l.length cb] 49) = W0 at *
  obtain ⟨g, hg⟩ : ∃ g, g = w.heap.size := ⟨_, rfl⟩
  rw [← hg] at HA0 ⊢
  have HG := Lib.hid hg
  clear hg
  have c0 := HA0.out.row.cell 0
  have c1 := HA0.out.row.cell 1
  simp only [List.getElem?_cons_zero, List.getElem?_cons_succ] at c0 c1
  go_wp2_with (at_builtin; fail)
  refine (szProgram_any _ _ ts l 1048576 w.heap.size W0 HA0.out.ht HA0.out.hl HLE.out HA0.out.bel.size (by omega) (by omega)).mono ?_
  rintro e W1 ⟨rfl, hb1⟩
  have HA1 := Lib.hid (HA0.out.bels hb1)
  clear hb1 c0 c1 HA0
  by_cases hn : leftP 1048576 (ts.length + szL l) < 0
  · rw [(leftP_neg hn).1]
    clear hn
    go_wp2_with (at_builtin; fail)
    go_ret
    exact ⟨rfl, HA1.out.bel⟩
  · have hsz := (leftP_nn (by omega : 0 ≤ leftP 1048576 (ts.length + szL l))).1
    have htl : ts.length ≤ 1048576 := by omega
    have hll : szL l ≤ 1048576 := by omega
    have htl' : ts'.length ≤ 1048576 := by omega
    have hll' : szL l' ≤ 1048576 := by omega
    have HB1 := Lib.hid (HA1.out.toB (by omega))
    generalize leftP 1048576 (ts.length + szL l) = L1 at *
    clear HA1 hsz HLE hts' hsz'
    have c0 := HB1.out.c0
    have c1 := HB1.out.c1
    go_wp2_with (at_builtin; fail)
    refine (toProgram_any _ _ ts l w.heap.size W1 HB1.out.ht HB1.out.hl HB1.out.bel.size hll).mono ?_
    rintro e W2 ⟨vt2, vb2, rfl, ht2, hl2, hb2⟩
    have HB2 := Lib.hid (HB1.out.bels hb2)
    have HT2 := Lib.hid (ht2.toS (by omega))
    have HL2 := Lib.hid hl2.toS
    clear ht2 hl2 hb2 c0 c1 HB1
    go_wp2_with (at_builtin; fail)
    refine (HS.out _ _ W2.heap.size W2 HT2.out HL2.out (Nat.le_refl _) (by omega)).mono ?_
    rintro e W3 ⟨vt3, vb3, rfl, ht3, hl3, hb3⟩
    have HP4 := Lib.hid (PB.new ht3 hl3)
    have HB4 := Lib.hid ((HB2.out.bels hb3).bels (bel_a W3 (.cells #[vt3, vb3] 26)))
    obtain ⟨A3, n3, rfl, -⟩ := id ht3
    obtain ⟨B3, m3, rfl, -⟩ := hl3.slice
    clear ht3 hl3 HT2 HL2
    go_upto_region 6 with (at_builtin; fail)
    generalize hW4 : W3.alloc (.cells #[.slice A3 ts'.length n3, .slice B3 l'.length m3] 26) = W4 at *
    clear hW4
    obtain ⟨p, hp⟩ : ∃ p, p = W3.heap.size := ⟨_, rfl⟩
    rw [← hp] at HP4 ⊢
    have HGP : Hid (g < p) := Lib.hid (by have := HB2.out.lt; have := hb3.size; omega)
    clear hp hb3 HB2
    have c0 := HB4.out.c0
    have c1 := HB4.out.c1
    go_wp2_with (at_builtin; fail)
    refine (toProgram_any _ _ ts l w.heap.size W4 HB4.out.ht HB4.out.hl HB4.out.bel.size hll).mono ?_
    rintro e W5 ⟨vt5, vb5, rfl, ht5, hl5, hb5⟩
    have HX6 := Lib.hid (XB.new ht5 hl5 hb5)
    have HP6 := Lib.hid ((HP4.out.bels hb5).bels (bel_a W5 (.cells #[vt5, vb5] 26)))
    have HB6 := Lib.hid ((HB4.out.bels hb5).bels (bel_a W5 (.cells #[vt5, vb5] 26)))
    obtain ⟨A5, n5, rfl, -⟩ := ht5.slice
    obtain ⟨b5, m5, rfl, -, -, -⟩ := hl5.slice
    clear ht5 hl5 hb5 c0 c1
    go_upto_region 7 with (at_builtin; fail)
    generalize hW6 : W5.alloc (.cells #[.slice A5 ts.length n5, .slice (some ⟨b5, 0, none⟩) l.length m5] 26) = W6 at *
    clear hW6
    obtain ⟨hi, hhi⟩ : ∃ hi, hi = W5.heap.size := ⟨_, rfl⟩
    obtain ⟨lo, hlo⟩ : ∃ lo, lo = W4.heap.size := ⟨_, rfl⟩
    rw [← hhi] at HX6 ⊢
    rw [← hlo] at HX6
    have HLO : Hid (p < lo) := Lib.hid (by rw [hlo]; exact HP4.out.lt)
    clear hhi hlo HB4 HP4
    have x0 := HX6.out.c0
    have x1 := HX6.out.c1
    go_wp2_with (at_builtin; fail)
    refine (HI.out _ _ W6.heap.size W6 (HX6.out.rt (by omega)) HX6.out.rl (Nat.le_refl _) (by omega) (by omega)).mono ?_
    rintro e W7 ⟨vt7, vb7, low7, rfl, ht7, how7, hlw7, hl7, hb7⟩
    obtain ⟨q, hG8⟩ := GB.new ht7 how7 hlw7 hb7.size hl7
    have HG8 := Lib.hid hG8
    have HB8 := Lib.hid ((HB6.out.bels hb7).bels (bel_a W7 (.cells #[vt7, vb7] 26)))
    have HX8 := Lib.hid ((HX6.out.bels hb7).bels (bel_a W7 (.cells #[vt7, vb7] 26)))
    have HP8 := Lib.hid ((HP6.out.bels hb7).bels (bel_a W7 (.cells #[vt7, vb7] 26)))
    obtain ⟨A7, n7, rfl, -⟩ := ht7.slice
    obtain ⟨B7, m7, rfl, -⟩ := hl7.slice
    clear ht7 how7 hlw7 hl7 hG8 x0 x1
    go_upto_region 8 with (at_builtin; fail)
    generalize hW8 : W7.alloc (.cells #[.slice A7 ts'.length n7, .slice B7 l'.length m7] 26) = W8 at *
    clear hW8
    obtain ⟨gb, hgb⟩ : ∃ gb, gb = W7.heap.size := ⟨_, rfl⟩
    obtain ⟨bs, hbs⟩ : ∃ bs, bs = W6.heap.size := ⟨_, rfl⟩
    rw [← hgb] at HG8 ⊢
    rw [← hbs] at HG8
    have HBS : Hid (hi < bs) := Lib.hid (by rw [hbs]; exact HX6.out.lt)
    have HLH : Hid (lo ≤ hi) := Lib.hid HX6.out.le
    clear hgb hbs hb7 HB6 HX6 HP6
    have hdd : (d != d) = false := by cases d <;> rfl
    have g0 := HG8.out.c0
    have g1 := HG8.out.c1
    have p0 := HP8.out.c0
    have p1 := HP8.out.c1
    go_wp2_with (at_builtin; fail)
    refine (eqProgram_any _ _ _ _ ts' l' _ W8 (HG8.out.rt (by omega)) HG8.out.rl HP8.out.rt HP8.out.rl (Nat.le_refl _) (by omega)).mono ?_
    rintro e W9 ⟨rfl, hb9⟩
    have HB9 := Lib.hid (HB8.out.bels hb9)
    have HX9 := Lib.hid (HX8.out.bels hb9)
    have HP9 := Lib.hid (HP8.out.bels hb9)
    have HG9 := Lib.hid (HG8.out.bels hb9)
    clear hb9 HB8 HX8 HP8 HG8 g0 g1 p0 p1
    have c0 := HB9.out.c0
    have c1 := HB9.out.c1
    have x0 := HX9.out.c0
    have x1 := HX9.out.c1
    have hlt7 := HB9.out.lt
    have hlx7 := HX9.out.lt
    go_wp2_with (at_builtin; fail)
    have BEL : Hid (∀ w', w'.cell? ⟨g, 0, none⟩ = some (.slice At ts.length ct) ∧ w'.cell? ⟨g, 1, none⟩ = some (.slice Ab l.length cb) ∧ w'.cell? ⟨hi, 0, none⟩ = some (.slice A5 ts.length n5) ∧ w'.cell? ⟨hi, 1, none⟩ = some (.slice (some ⟨b5, 0, none⟩) l.length m5) ∧ Below W9.heap.size W9 w' → Below W9.heap.size W9 w') := Lib.hid fun _ h => h.2.2.2.2
    refine wp_region_held_drew (S := (fun w' => w'.cell? ⟨g, 0, none⟩ = some (.slice At ts.length ct) ∧ w'.cell? ⟨g, 1, none⟩ = some (.slice Ab l.length cb) ∧ w'.cell? ⟨hi, 0, none⟩ = some (.slice A5 ts.length n5) ∧ w'.cell? ⟨hi, 1, none⟩ = some (.slice (some ⟨b5, 0, none⟩) l.length m5) ∧ Below W9.heap.size W9 w')) (by kernel_rfl) ?_ (fun hHeld => ?_)
    · exact ⟨c0, c1, x0, x1, (Below.refl _ _).drew⟩
    refine wpAnyH_take (i := 0) (oi := ⟨some 45, _, _, _, _, _⟩) (v := ?_) rfl (by kernel_rfl) (by kernel_rfl) (by kernel_rfl) (fun _ _ _ h => h) (Or.inl ⟨by rfl, fun w' hSw => ?_⟩) (by assumption) ?_
    rotate_left
    · (try dsimp only at hSw); go_simp; (try with_reducible rfl)
    (try simp only [Act.put, List.setIfInBounds_toArray, List.set_cons_zero, List.set_cons_succ])
    refine wpAnyH_take (i := 1) (oi := ⟨some 46, _, _, _, _, _⟩) (v := ?_) rfl (by kernel_rfl) (by kernel_rfl) (by kernel_rfl) (fun _ _ _ h => h) (Or.inl ⟨by rfl, fun w' hSw => ?_⟩) (by assumption) ?_
    rotate_left
    · (try dsimp only at hSw); go_simp; (try with_reducible rfl)
    (try simp only [Act.put, List.setIfInBounds_toArray, List.set_cons_zero, List.set_cons_succ])
    refine wpAnyH_ready (rs := [2]) (by kernel_rfl) (by simp) ?_
    refine AllReadyH.cons (o := ⟨some 47, _, _, _, _, _⟩) rfl (fun K hK => ?_) AllReadyH.nil
    go_simp
    (refine (toProgram_any _ _ ts l w.heap.size _ ((HB9.out.bels (show Below W9.heap.size W9 _ from (BEL.out _ (by assumption)))).ht) ((HB9.out.bels (show Below W9.heap.size W9 _ from (BEL.out _ (by assumption)))).hl) ((HB9.out.bels (show Below W9.heap.size W9 _ from (BEL.out _ (by assumption)))).bel.size) hll).mono ?_)
    (rintro e w8 ⟨vt8, vb8, rfl, ht8, hl8, hb8⟩)
    (have BX8 := Lib.hid ((BEL.out _ (by assumption)).trans (hb8.mono (BEL.out _ (by assumption)).size)))
    (have HT8 := Lib.hid (ht8.toS (by omega)))
    (have HL8 := Lib.hid hl8.toS)
    clear ht8 hl8 hb8
    go_simp
    refine hK.out _ _ ?_ (fun hHeld => ?_)
    · exact ⟨(BX8.out.cell (p := ⟨g, 0, none⟩) hlt7).trans c0, (BX8.out.cell (p := ⟨g, 1, none⟩) hlt7).trans c1, (BX8.out.cell (p := ⟨hi, 0, none⟩) hlx7).trans x0, (BX8.out.cell (p := ⟨hi, 1, none⟩) hlx7).trans x1, BX8.out⟩
    clear hK K
    (try simp only [Act.put, List.setIfInBounds_toArray, List.set_cons_zero, List.set_cons_succ])
    refine wpAnyH_ready (rs := [3]) (by kernel_rfl) (by simp) ?_
    refine AllReadyH.cons (o := ⟨some 48, _, _, _, _, _⟩) rfl (fun K hK => ?_) AllReadyH.nil
    go_simp
    (have BY := (BEL.out _ (by assumption)))
    (refine (eqProgram_any _ _ _ _ ts l _ _ (((HX9.out.bels BX8.out).rt (by omega))) ((HX9.out.bels BX8.out).rl) HT8.out HL8.out (Nat.le_refl _) (by omega)).mono ?_)
    (rintro e w9 ⟨rfl, hb9⟩)
    (have BX9 := Lib.hid (BX8.out.trans (hb9.mono BX8.out.size)))
    clear hb9
    go_simp
    refine hK.out _ _ ?_ (fun hHeld => ?_)
    · exact ⟨(BX9.out.cell (p := ⟨g, 0, none⟩) hlt7).trans c0, (BX9.out.cell (p := ⟨g, 1, none⟩) hlt7).trans c1, (BX9.out.cell (p := ⟨hi, 0, none⟩) hlx7).trans x0, (BX9.out.cell (p := ⟨hi, 1, none⟩) hlx7).trans x1, BX9.out⟩
    clear hK K
    (try simp only [Act.put, List.setIfInBounds_toArray, List.set_cons_zero, List.set_cons_succ])
    refine wpAnyH_take (i := 4) (oi := ⟨some 49, _, _, _, _, _⟩) (v := ?_) rfl (by kernel_rfl) (by kernel_rfl) (by kernel_rfl) (fun _ _ _ h => h) (Or.inl ⟨by rfl, fun w' hSw => ?_⟩) (by assumption) ?_
    rotate_left
    · (try dsimp only at hSw); go_simp; (try with_reducible rfl)
    (try simp only [Act.put, List.setIfInBounds_toArray, List.set_cons_zero, List.set_cons_succ])
    refine wpAnyH_done (by kernel_rfl) ?_ _
    have HBa := Lib.hid (HB9.out.bels BX9.out)
    have HXa := Lib.hid (HX9.out.bels BX9.out)
    have HPa := Lib.hid (HP9.out.bels BX9.out)
    have HGa := Lib.hid (HG9.out.bels BX9.out)
    have HLX : Hid (lo ≤ w9.heap.size) := Lib.hid (by have := HXa.out.lt; have := HXa.out.le; omega)
    clear c0 c1 x0 x1 hlt7 hlx7 BEL BX8 BX9 BY HT8 HL8 HB9 HX9 HP9 HG9 hHeld
    have x0 := HXa.out.c0
    have x1 := HXa.out.c1
    go_wp2_with (at_builtin; fail)
    refine (markProgram_any _ _ ts l lo _ true 1 w9 HXa.out.ht HXa.out.hl (by omega) (by omega)).mono ?_
    rintro e wa ⟨rfl, hca⟩
    have HCA := Lib.hid (hca.bel HLX.out fun b hb => (HXa.out.q b hb).1)
    have HBb := Lib.hid (HBa.out.low HCA.out (Nat.lt_trans HGP.out HLO.out))
    have HPb := Lib.hid (HPa.out.low HCA.out HLO.out)
    have HGb := Lib.hid (HGa.out.ch hca fun b hb => Nat.lt_trans (HXa.out.q b hb).2 HBS.out)
    clear hca x0 x1 HBa HXa HPa HGa HCA HLX
    have hk0 : ¬ (1 + (ts.length : Int) + 4 * (szL l : Int) < 0) := by omega
    generalize 1 + (ts.length : Int) + 4 * (szL l : Int) = K at *
    have HPBS : Hid (p < bs) := Lib.hid (by have := HLO.out; have := HBS.out; have := HLH.out; omega)
    have g0 := HGb.out.c0
    have g1 := HGb.out.c1
    have p0 := HPb.out.c0
    have p1 := HPb.out.c1
    go_wp2_with (at_builtin; fail)
    refine (eqProgram_any _ _ _ _ ts' l' _ wa (HGb.out.rt (by omega)) HGb.out.rl HPb.out.rt HPb.out.rl (Nat.le_refl _) (by omega)).mono ?_
    rintro e wb ⟨rfl, hbb⟩
    have HBc := Lib.hid (HBb.out.bels hbb)
    have HPc := Lib.hid (HPb.out.bels hbb)
    have HGc := Lib.hid (HGb.out.bels hbb)
    clear hbb HBb HPb HGb g0 g1 p0 p1
    have g0 := HGc.out.c0
    have g1 := HGc.out.c1
    go_wp2_with (at_builtin; fail)
    refine (markProgram_dt _ _ ts' l' bs q gb 1 wb HGc.out.ht HGc.out.own HGc.out.hl (Nat.le_of_lt HGc.out.lt) (by omega) (by omega)).mono ?_
    rintro e wc ⟨rfl, ho, hd, hc⟩
    have HGd := Lib.hid (HGc.out.mark ho hd hc).1
    have HBM := Lib.hid (HGc.out.mark ho hd hc).2
    have HBd := Lib.hid (HBc.out.low HBM.out (Nat.lt_trans HGP.out HPBS.out))
    have HPd := Lib.hid (HPc.out.low HBM.out HPBS.out)
    clear ho hd hc HBM HBc HPc HGc g0 g1
    have g0 := HGd.out.c0
    have g1 := HGd.out.c1
    have hm1 : ¬ (1 + (ts'.length : Int) + 4 * (szL l' : Int) < 0) := by omega
    have hm2 : (1 + (ts'.length : Int) + 4 * (szL l' : Int) != 1 + (ts'.length : Int) + 4 * (szL l' : Int)) = false := by simp
    obtain ⟨M, hM⟩ : ∃ M : Int, M = 1 + (ts'.length : Int) + 4 * (szL l' : Int) := ⟨_, rfl⟩
    rw [← hM] at hm1 hm2 ⊢
    have HM := Lib.hid hM
    clear hM
    go_wp2_with (at_builtin; fail)
    refine (heldProgram_any _ _ ts'.length l' _ 1 wc (HGd.out.rt (by rw [upto_len]; omega)) HGd.out.rl (Nat.le_refl _) (by omega) (by omega)).mono ?_
    rintro e wd ⟨rfl, hbd⟩
    rw [← HM.out]
    have HBe := Lib.hid (HBd.out.bels hbd)
    have HPe := Lib.hid (HPd.out.bels hbd)
    have HGe := Lib.hid (HGd.out.bels hbd)
    clear hbd HBd HPd HGd g0 g1
    have c0 := HBe.out.c0
    have c1 := HBe.out.c1
    go_wp2_with (at_builtin; fail)
    refine (toProgram_any _ _ ts l w.heap.size wd HBe.out.ht HBe.out.hl HBe.out.bel.size hll).mono ?_
    rintro e we ⟨vte, vbe, rfl, hte, hle, hbe⟩
    have HBf := Lib.hid (HBe.out.bels hbe)
    have HPf := Lib.hid (HPe.out.bels hbe)
    have HGf := Lib.hid (HGe.out.bels hbe)
    have HTf := Lib.hid (hte.toS (by omega))
    have HLf := Lib.hid hle.toS
    clear hte hle hbe c0 c1 HBe HPe HGe
    go_wp2_with (at_builtin; fail)
    refine (HI.out _ _ we.heap.size we HTf.out HLf.out (Nat.le_refl _) (by omega) (by omega)).mono ?_
    rintro e wf ⟨vtf, vbf, lowf, rfl, htf, -, -, hlf, hbf⟩
    have HQg := Lib.hid (PB.new (htf.toS (by omega)) hlf.toS)
    have HBg := Lib.hid ((HBf.out.bels hbf).bels (bel_a wf (.cells #[vtf, vbf] 26)))
    have HPg := Lib.hid ((HPf.out.bels hbf).bels (bel_a wf (.cells #[vtf, vbf] 26)))
    have HGg := Lib.hid ((HGf.out.bels hbf).bels (bel_a wf (.cells #[vtf, vbf] 26)))
    obtain ⟨Af, nf, rfl, -⟩ := htf.slice
    obtain ⟨Bf, mf, rfl, -⟩ := hlf.slice
    clear htf hlf hbf HTf HLf HBf HPf HGf
    go_upto_region 25 with (at_builtin; fail)
    generalize hwg : wf.alloc (.cells #[.slice Af ts'.length nf, .slice Bf l'.length mf] 26) = wg at *
    clear hwg
    obtain ⟨hb, hhb⟩ : ∃ hb, hb = wf.heap.size := ⟨_, rfl⟩
    rw [← hhb] at HQg ⊢
    clear hhb
    have q0 := HQg.out.c0
    have q1 := HQg.out.c1
    have p0 := HPg.out.c0
    have p1 := HPg.out.c1
    go_wp2_with (at_builtin; fail)
    refine (eqProgram_any _ _ _ _ ts' l' _ wg HQg.out.rt HQg.out.rl HPg.out.rt HPg.out.rl (Nat.le_refl _) (by omega)).mono ?_
    rintro e wh ⟨rfl, hbh⟩
    have HBh := Lib.hid (HBg.out.bels hbh)
    have HGh := Lib.hid (HGg.out.bels hbh)
    clear hbh HBg HPg HGg HQg q0 q1 p0 p1
    have g0 := HGh.out.c0
    have g1 := HGh.out.c1
    go_wp2_with (at_builtin; fail)
    refine (heldProgram_any _ _ ts'.length l' _ 1 wh (HGh.out.rt (by rw [upto_len]; omega)) HGh.out.rl (Nat.le_refl _) (by omega) (by omega)).mono ?_
    rintro e wi ⟨rfl, hbi⟩
    rw [← HM.out]
    have HBi := Lib.hid (HBh.out.bels hbi)
    clear hbi HBh HGh g0 g1
    go_wp2_with (at_builtin; fail)
    go_ret
    exact ⟨rfl, HBi.out.bel⟩

end Go.Proofs.Ytidlifijgooceaa
