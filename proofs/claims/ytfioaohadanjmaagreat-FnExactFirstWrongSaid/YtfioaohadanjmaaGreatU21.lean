import Derived.Test.YtfioaohadanjmaaGreatU20
import Derived.Test.YtfioaohadanjmaaGreatU13
import Derived.Test.YtfioaohadanjmaaGreatU06
import Derived.Deep.DeepCutAuto
import Derived.Deep.RegionLaw
set_option linter.unusedVariables false

/- impl.machine.do. -/
namespace Go.Proofs.YtfioaohadanjmaaGreat
open Go.RowKit Go.Lib

theorem unset_lst {ts : List Int} {s : Ms} {x : Pt} (h6 : ts.length ≤ 6) : unsetP ts s x = (lst 6 (usedP ts x.op x.x x.y).testBit).any fun v => !(slAt s.sl v.toNat).set := by
  unfold unsetP usedP
  rw [Bool.eq_iff_iff, List.any_eq_true, List.any_eq_true]
  constructor
  · rintro ⟨v, hv, h⟩
    rw [List.mem_range] at hv
    rw [Bool.and_eq_true] at h
    refine ⟨((v : Nat) : Int), lst_mem.2 ⟨v, by omega, ?_, rfl⟩, by simpa using h.2⟩
    rw [bm_bit, decide_eq_true hv, Bool.true_and]
    exact h.1
  · rintro ⟨v, hv, h⟩
    obtain ⟨k, -, hb, rfl⟩ := lst_mem.1 hv
    rw [bm_bit, Bool.and_eq_true] at hb
    refine ⟨k, List.mem_range.2 (of_decide_eq_true hb.1), ?_⟩
    rw [Bool.and_eq_true]
    exact ⟨hb.2, by simpa using h⟩
theorem used_in {ts : List Int} {x : Pt} {v : Int} (h : v ∈ lst 6 (usedP ts x.op x.x x.y).testBit) : ∃ k : Nat, v = (k : Nat) ∧ k < ts.length := by
  obtain ⟨k, -, hb, rfl⟩ := lst_mem.1 h
  unfold usedP at hb
  rw [bm_bit, Bool.and_eq_true] at hb
  exact ⟨k, rfl, of_decide_eq_true hb.1⟩
theorem pt_x {ts : List Int} {x : Pt} (h : PtOk ts x) (ho : 1 ≤ x.op ∧ x.op ≤ 8) : ∃ v : Nat, x.x = v ∧ v < ts.length := by
  rcases h with h | h | h | h
  · omega
  · omega
  · omega
  · have := typeOf_in (simple_x h).2.2
    exact ⟨x.x.toNat, by omega, by omega⟩
theorem pt_y {ts : List Int} {x : Pt} (h : PtOk ts x) (ho : 3 ≤ x.op ∧ x.op ≤ 7) : ∃ v : Nat, x.y = v ∧ v < ts.length := by
  rcases h with h | h | h | h
  · omega
  · omega
  · omega
  · have := typeOf_in (simple_y h ho)
    exact ⟨x.y.toNat, by omega, by omega⟩
theorem drew4 (w : World) (g o : Nat) (a b c d : Value) : ((((w.setCell ⟨g, o, none⟩ a).setCell ⟨g, o + 1, none⟩ b).setCell ⟨g, o + 2, none⟩ c).setCell ⟨g, o + 3, none⟩ d).drew = w.drew.setCells g o [a, b, c, d] := rfl
theorem Evo.kpt {w w' : World} {base : Nat} {T : TypeId} (h : Evo base T w w') : KpT T w w' := ⟨h.size, fun b cs T' hb hT => by
  have hlt : b < w.heap.size := by
    rcases Nat.lt_or_ge b w.heap.size with h | h
    · exact h
    · rw [Array.getElem?_eq_none h] at hb; cases hb
  refine (h.block b hlt (.inr fun cs' fr' e => ?_)).trans hb
  rw [hb] at e
  injection e with e
  injection e with _ e
  exact hT e⟩
/-- new cells, and a new row of numbers that were read -/
theorem MaS.setCR {w w' : World} {B base gm gs : Nat} {vg vc vl : Value} {ts : List Int} {pts : List Pt} {s : Ms} (h : MaS w B base gm gs vg vc vl ts pts s) {vc' vl' : Value} {ce' : List Cl} {rd' : List Int} (he : Evo base 3 w w') (hc : MeS w base vc' ce') (hok : okM ce') (hr : OInts w' base vl' rd') :
    MaS ((w'.setCell ⟨gm, 2, none⟩ vc').setCell ⟨gm, 3, none⟩ vl') B base gm gs vg vc' vl' ts pts ⟨s.sl, ce', rd'⟩ ∧ Mab base gm gs w ((w'.setCell ⟨gm, 2, none⟩ vc').setCell ⟨gm, 3, none⟩ vl') := by
  have hk : KpT 3 w w' := he.kpt
  have hmr := h.mr.keepT hk (by decide)
  have k2 : KpT 66 w' (w'.setCell ⟨gm, 2, none⟩ vc') := KpT.set_ hmr 2 vc'
  have hmr2 := hmr.set_ 2 vc'
  have k3 : KpT 66 (w'.setCell ⟨gm, 2, none⟩ vc') ((w'.setCell ⟨gm, 2, none⟩ vc').setCell ⟨gm, 3, none⟩ vl') := KpT.set_ hmr2 3 vl'
  have hb : Mab base gm gs w ((w'.setCell ⟨gm, 2, none⟩ vc').setCell ⟨gm, 3, none⟩ vl') := ((Mab.ofB (he.below h.lt.1)).trans (Mab.setM w' 2 vc')).trans (Mab.setM _ 3 vl')
  exact ⟨⟨⟨h.bb.1, Nat.le_trans h.bb.2 hb.size⟩, h.g.low (hb.below h.bb.1 h.hgm h.hgs) (Nat.le_refl _), hmr2.set_ 3 vl', h.hgm, ((h.sr.keepT hk (by decide)).keepT k2 (by decide)).keepT k3 (by decide), h.hgs, ((hc.keepT hk (by decide) (by decide)).keepT k2 (by decide) (by decide)).keepT k3 (by decide) (by decide), (hr.keepT k2 (by decide)).keepT k3 (by decide), ⟨hok, h.ok.ln⟩⟩, hb⟩
/-- behind a slot taken into a box -/
def SlCut (w wx : World) (L : List Value) (s10 : Value) : Prop :=
  ∃ bz, s10 = .pointer (some ⟨bz, 0, none⟩) ∧ Below w.heap.size w wx ∧ w.heap.size ≤ bz ∧ RowB wx bz 79 L
/-- behind a call of NewCell or lent: the memory, the pointer's box, how it went -/
def NewCut (w wx : World) (base : Nat) (z y : Int) (ce : List Cl) (P : Prop) (r s7 s8 s9 : Value) : Prop :=
  ∃ bz, s8 = .pointer (some ⟨bz, 0, none⟩) ∧ s9 = r ∧ Below w.heap.size w wx ∧ w.heap.size ≤ bz ∧ RowB wx bz 77 [.int .i64 z, .int .i64 y] ∧ (P → MeS wx base s7 ce)
set_option maxHeartbeats 64000000 in
set_option maxRecDepth 1000000 in
theorem do_any (B base gm gs : Nat) (x : Pt) (An : Option Addr) (cn : Nat) (vg vc vl : Value) (ts : List Int) (pts : List Pt) (s : Ms) (w : World) (h : MaS w B base gm gs vg vc vl ts pts s) (h6 : ts.length ≤ 6) (hx : PtOk ts x) (hr : s.rd.length ≤ 1000) :
    Calls Tryz.prog 67 #[.pointer (some ⟨gm, 0, none⟩), .agg #[.int .i64 x.op, .int .i64 x.x, .int .i64 x.y, .int .i64 x.n, .slice An x.next.length cn]] w (StepRet w B base gm gs vg ts pts (doP ts s x)) := by
  have H := Lib.hid h
  have HPX := Lib.hid (fun ho => pt_x hx ho)
  have HPY := Lib.hid (fun ho => pt_y hx ho)
  have HX := Lib.hid (RowB.new w [.int .i64 x.op, .int .i64 x.x, .int .i64 x.y, .int .i64 x.n, .slice An x.next.length cn] 94)
  have HB0 := Lib.hid (bel_a w (.cells #[.int .i64 x.op, .int .i64 x.x, .int .i64 x.y, .int .i64 x.n, .slice An x.next.length cn] 94))
  have hbl := h.lt.1
  have HUL := Lib.hid (unset_lst (s := s) (x := x) h6)
  have HUI := Lib.hid (fun v hv => used_in (ts := ts) (x := x) (v := v) hv)
  have hu64 := usedP_lt h6 x.op x.x x.y
  obtain ⟨gg, At, ct, vb, Al, cl, rfl, hgB, g0, -, -, -, -, -, -⟩ := h.g.open_
  clear h hx
  go_enter Tryz.func67, Tryz.ntmps67
  go_upto_region 1 with (at_builtin; fail)
  generalize w.alloc (.cells #[.int .i64 x.op, .int .i64 x.x, .int .i64 x.y, .int .i64 x.n, .slice An x.next.length cn] 94) = W at *
  obtain ⟨bx, hbx⟩ : ∃ bx, bx = w.heap.size := ⟨_, rfl⟩
  rw [← hbx] at HX ⊢
  have HBX := Lib.hid hbx
  have hs0 := HB0.out.size
  clear hbx g0
  have H1 := Lib.hid (H.out.bel HB0.out)
  obtain ⟨c0, -, -, -⟩ := H1.out.c
  obtain ⟨-, hgl, hsl⟩ := H1.out.lt
  have hxl := HX.out.lt
  have p0 := HX.out.cell 0
  have p1 := HX.out.cell 1
  have p2 := HX.out.cell 2
  have p3 := HX.out.cell 3
  have p4 := HX.out.cell 4
  simp only [List.getElem?_cons_zero, List.getElem?_cons_succ] at p0 p1 p2 p3 p4
  have BEL : Hid (∀ w', w'.cell? ⟨gm, 0, none⟩ = some (.pointer (some ⟨gg, 0, none⟩)) ∧ w'.cell? ⟨bx, 0, none⟩ = some (.int .i64 x.op) ∧ w'.cell? ⟨bx, 1, none⟩ = some (.int .i64 x.x) ∧ w'.cell? ⟨bx, 2, none⟩ = some (.int .i64 x.y) ∧ w'.cell? ⟨bx, 3, none⟩ = some (.int .i64 x.n) ∧ w'.cell? ⟨bx, 4, none⟩ = some (.slice An x.next.length cn) ∧ Below W.heap.size W w' → Below W.heap.size W w') := Lib.hid fun _ h => h.2.2.2.2.2.2
  refine wp_region_held_drew (S := (fun w' => w'.cell? ⟨gm, 0, none⟩ = some (.pointer (some ⟨gg, 0, none⟩)) ∧ w'.cell? ⟨bx, 0, none⟩ = some (.int .i64 x.op) ∧ w'.cell? ⟨bx, 1, none⟩ = some (.int .i64 x.x) ∧ w'.cell? ⟨bx, 2, none⟩ = some (.int .i64 x.y) ∧ w'.cell? ⟨bx, 3, none⟩ = some (.int .i64 x.n) ∧ w'.cell? ⟨bx, 4, none⟩ = some (.slice An x.next.length cn) ∧ Below W.heap.size W w')) (by kernel_rfl) ?_ (fun hHeld => ?_)
  · exact ⟨c0, p0, p1, p2, p3, p4, (Below.refl _ _).drew⟩
  refine wpAnyH_take (i := 0) (oi := ⟨some 20, _, _, _, _, _⟩) (v := ?_) rfl (by kernel_rfl) (by kernel_rfl) (by kernel_rfl) (fun _ _ _ h => h) (Or.inl ⟨by rfl, fun w' hSw => ?_⟩) (by assumption) ?_
  rotate_left
  · (try dsimp only at hSw); go_simp; (try with_reducible rfl)
  (try simp only [Act.put, List.setIfInBounds_toArray, List.set_cons_zero, List.set_cons_succ])
  refine wpAnyH_take (i := 1) (oi := ⟨some 21, _, _, _, _, _⟩) (v := ?_) rfl (by kernel_rfl) (by kernel_rfl) (by kernel_rfl) (fun _ _ _ h => h) (Or.inl ⟨by rfl, fun w' hSw => ?_⟩) (by assumption) ?_
  rotate_left
  · (try dsimp only at hSw); go_simp; (try with_reducible rfl)
  (try simp only [Act.put, List.setIfInBounds_toArray, List.set_cons_zero, List.set_cons_succ])
  refine wpAnyH_take (i := 2) (oi := ⟨some 22, _, _, _, _, _⟩) (v := ?_) rfl (by kernel_rfl) (by kernel_rfl) (by kernel_rfl) (fun _ _ _ h => h) (Or.inl ⟨by rfl, fun w' hSw => ?_⟩) (by assumption) ?_
  rotate_left
  · (try dsimp only at hSw); go_simp; (try with_reducible rfl)
  (try simp only [Act.put, List.setIfInBounds_toArray, List.set_cons_zero, List.set_cons_succ])
  refine wpAnyH_take (i := 3) (oi := ⟨some 23, _, _, _, _, _⟩) (v := ?_) rfl (by kernel_rfl) (by kernel_rfl) (by kernel_rfl) (fun _ _ _ h => h) (Or.inl ⟨by rfl, fun w' hSw => ?_⟩) (by assumption) ?_
  rotate_left
  · (try dsimp only at hSw); go_simp; (try with_reducible rfl)
  (try simp only [Act.put, List.setIfInBounds_toArray, List.set_cons_zero, List.set_cons_succ])
  refine wpAnyH_take (i := 4) (oi := ⟨some 24, _, _, _, _, _⟩) (v := ?_) rfl (by kernel_rfl) (by kernel_rfl) (by kernel_rfl) (fun _ _ _ h => h) (Or.inl ⟨by rfl, fun w' hSw => ?_⟩) (by assumption) ?_
  rotate_left
  · (try dsimp only at hSw); go_simp; (try with_reducible rfl)
  (try simp only [Act.put, List.setIfInBounds_toArray, List.set_cons_zero, List.set_cons_succ])
  refine wpAnyH_take (i := 8) (oi := ⟨some 28, _, _, _, _, _⟩) (v := ?_) rfl (by kernel_rfl) (by kernel_rfl) (by kernel_rfl) (fun _ _ _ h => h) (Or.inl ⟨by rfl, fun w' hSw => ?_⟩) (by assumption) ?_
  rotate_left
  · (try dsimp only at hSw); go_simp; (try with_reducible rfl)
  (try simp only [Act.put, List.setIfInBounds_toArray, List.set_cons_zero, List.set_cons_succ])
  refine wpAnyH_ready (rs := [5]) (by kernel_rfl) (by simp) ?_
  refine AllReadyH.cons (o := ⟨some 25, _, _, _, _, _⟩) rfl (fun K hK => ?_) AllReadyH.nil
  go_simp
  (have BY := (BEL.out _ (by assumption)))
  (refine (used_any _ ts pts B x.op x.x x.y x.n _ _ ((H1.out.bel BY).g) (by have := (H1.out.bel BY).bb; have := (H1.out.bel BY).lt; omega) h6).mono ?_)
  (rintro e w8 ⟨rfl, hb8⟩)
  (have BX8 := Lib.hid (BY.trans (hb8.mono BY.size)))
  clear hb8
  go_simp
  refine hK.out _ _ ?_ (fun hHeld => ?_)
  · exact ⟨(BX8.out.cell (p := ⟨gm, 0, none⟩) hgl).trans c0, (BX8.out.cell (p := ⟨bx, 0, none⟩) hxl).trans p0, (BX8.out.cell (p := ⟨bx, 1, none⟩) hxl).trans p1, (BX8.out.cell (p := ⟨bx, 2, none⟩) hxl).trans p2, (BX8.out.cell (p := ⟨bx, 3, none⟩) hxl).trans p3, (BX8.out.cell (p := ⟨bx, 4, none⟩) hxl).trans p4, BX8.out⟩
  clear hK K
  (try simp only [Act.put, List.setIfInBounds_toArray, List.set_cons_zero, List.set_cons_succ])
  refine wpAnyH_ready (rs := [6]) (by kernel_rfl) (by simp) ?_
  refine AllReadyH.cons (o := ⟨some 26, _, _, _, _, _⟩) rfl (fun K hK => ?_) AllReadyH.nil
  go_simp
  (have BY2 := (BEL.out _ (by assumption)))
  (refine (bits_own (usedP ts x.op x.x x.y) hu64 _).mono ?_)
  (rintro e w9 ⟨v9, rfl, hi9, hb9⟩)
  (have BX9 := Lib.hid (BY2.trans (hb9.mono BY2.size)))
  (have HL9 := Lib.hid hi9)
  (obtain ⟨A9, c9, rfl, hc9⟩ := hi9.slice)
  clear hb9 hi9
  go_simp
  refine hK.out _ _ ?_ (fun hHeld => ?_)
  · exact ⟨(BX9.out.cell (p := ⟨gm, 0, none⟩) hgl).trans c0, (BX9.out.cell (p := ⟨bx, 0, none⟩) hxl).trans p0, (BX9.out.cell (p := ⟨bx, 1, none⟩) hxl).trans p1, (BX9.out.cell (p := ⟨bx, 2, none⟩) hxl).trans p2, (BX9.out.cell (p := ⟨bx, 3, none⟩) hxl).trans p3, (BX9.out.cell (p := ⟨bx, 4, none⟩) hxl).trans p4, BX9.out⟩
  clear hK K
  (try simp only [Act.put, List.setIfInBounds_toArray, List.set_cons_zero, List.set_cons_succ])
  refine wpAnyH_take (i := 7) (oi := ⟨some 27, _, _, _, _, _⟩) (v := ?_) rfl (by kernel_rfl) (by kernel_rfl) (by kernel_rfl) (fun _ _ _ h => h) (Or.inl ⟨by rfl, fun w' hSw => ?_⟩) (by assumption) ?_
  rotate_left
  · (try dsimp only at hSw); go_simp; (try with_reducible rfl)
  (try simp only [Act.put, List.setIfInBounds_toArray, List.set_cons_zero, List.set_cons_succ])
  refine wpAnyH_done (by kernel_rfl) ?_ _
  have H2 := Lib.hid (H1.out.bel BX9.out)
  have HX2 := Lib.hid (HX.out.low BX9.out hxl)
  have HB2 := Lib.hid (HB0.out.trans (BX9.out.mono hs0))
  clear p0 p1 p2 p3 p4 c0 BEL hHeld
  obtain ⟨L, hL⟩ : ∃ L, L = lst 6 (usedP ts x.op x.x x.y).testBit := ⟨_, rfl⟩
  rw [← hL] at HL9 HUL HUI ⊢
  have hll : L.length ≤ 6 := by rw [hL]; exact lst_len _ _
  clear hL
  go_wp2_with (at_builtin; fail)
  go_loopw [28] (fun i wr => ∃ j : Nat, j ≤ L.length ∧ i = .int .i64 j ∧ (∀ q (hq : q < L.length), q < j → (slAt s.sl L[q].toNat).set = true) ∧ w9 = wr) (fun i _ => L.length - (intOf i).toNat)
  case atStart => exact ⟨0, Nat.zero_le _, rfl, fun q _ h => by omega, rfl⟩
  case round =>
    obtain ⟨j, hj, rfl, hall, rfl⟩ := hrel
    have HALL := Lib.hid hall
    clear hall
    by_cases hlt : j < L.length
    · obtain ⟨g9, rfl, hg9, hg9l, -, d9⟩ := HL9.out.at_ hlt
      have HMEM := Lib.hid (List.getElem_mem hlt)
      obtain ⟨v, hv, hvl⟩ := HUI.out _ HMEM.out
      have HVE := Lib.hid hv
      rw [getD_lt hlt, hv] at d9
      obtain ⟨-, c1, -, -⟩ := H2.out.c
      obtain ⟨s0, -, -, -⟩ := H2.out.sl hvl
      obtain ⟨st, hst⟩ : ∃ st, st = (slAt s.sl v).set := ⟨_, rfl⟩
      rw [← hst] at s0
      have HST := Lib.hid hst
      clear hv hst
      cases st
      · have HU : Hid (unsetP ts s x = true) := Lib.hid (by
          rw [HUL.out, List.any_eq_true]
          exact ⟨_, HMEM.out, by rw [HVE.out, Int.toNat_natCast, ← HST.out]; rfl⟩)
        have HR : Hid (doP ts s x = (s, some 2)) := Lib.hid (by unfold doP; exact if_pos HU.out)
        go_wp2_with (at_builtin; fail)
        go_ret
        exact ⟨_, _, by rw [HR.out]; rfl, by rw [HR.out]; exact H2.out, Mab.of (gm := gm) (gs := gs) HB2.out hbl⟩
      · have HNX : Hid (∀ q (hq : q < L.length), q < j + 1 → (slAt s.sl L[q].toNat).set = true) := Lib.hid fun q hq hqj => by
          by_cases e : q < j
          · exact HALL.out q hq e
          · obtain rfl : q = j := by omega
            rw [HVE.out, Int.toNat_natCast, ← HST.out]
        go_wp2_with (at_builtin; fail)
        exact ⟨⟨j + 1, by omega, by go_num, HNX.out, by first | trivial | rfl⟩, by simp [intOf] <;> omega⟩
    · have HU : Hid (unsetP ts s x = false) := Lib.hid (by
        rw [HUL.out, List.any_eq_false]
        intro v hv
        obtain ⟨q, hq, rfl⟩ := List.getElem_of_mem hv
        rw [HALL.out q hq (by omega)]; decide)
      have hje : j = L.length := by omega
      have hs2 := HB2.out.size
      have LIFT : Hid (∀ e w', StepRet w9 B base gm gs (.pointer (some ⟨gg, 0, none⟩)) ts pts (doP ts s x) e w' → StepRet w B base gm gs (.pointer (some ⟨gg, 0, none⟩)) ts pts (doP ts s x) e w') := Lib.hid fun e w' ⟨v1, v2, h1, h2, h3⟩ => ⟨v1, v2, h1, h2, (Mab.of (gm := gm) (gs := gs) HB2.out hbl).trans h3⟩
      have HNE : Hid (gm < bx ∧ gs < bx) := Lib.hid (by have := HBX.out; have := H.out.lt; omega)
      clear HL9 HUL HUI HALL hlt hj hll hc9 hu64 H1 HX BX8 BX9 BY BY2 H
      have p0 := HX2.out.cell 0
      have p1 := HX2.out.cell 1
      have p2 := HX2.out.cell 2
      have p3 := HX2.out.cell 3
      simp only [List.getElem?_cons_zero, List.getElem?_cons_succ] at p0 p1 p2 p3
      have hx9 := HX2.out.lt
      have hbl9 := H2.out.lt.1
      subst hje
      by_cases h1 : x.op = 1
      · have q1 : (x.op == 1) = true := by simp [h1]
        obtain ⟨v, hv, hvl⟩ := HPX.out (by omega)
        have HR : Hid (doP ts s x = putP ts s v ⟨true, x.n, 0, 0⟩) := Lib.hid (by unfold doP; rw [HU.out, if_neg (by decide), if_pos h1, hv, Int.toNat_natCast])
        rw [hv] at p1
        clear h1 hv
        have HPUT := Lib.hid (put_any B base gm gs v ⟨true, x.n, 0, 0⟩ _ vc vl ts pts s w9 H2.out hvl h6)
        go_wp2_with (at_builtin; fail)
        refine HPUT.out.mono ?_
        rintro e w' ⟨vc', vl', rfl, hm, hb⟩
        go_wp2_with (at_builtin; fail)
        go_ret
        exact LIFT.out _ _ ⟨_, _, by rw [HR.out]; rfl, by rw [HR.out]; exact hm, hb⟩
      · have q1 : (x.op == 1) = false := by simpa using h1
        by_cases h2 : x.op = 2
        · have q2 : (x.op == 2) = true := by simp [h2]
          obtain ⟨v, hv, hvl⟩ := HPX.out (by omega)
          have HR0 : Hid (doP ts s x = if newOk s.ce x.n = true then putP ts ⟨s.sl, s.ce ++ [newC x.n], s.rd⟩ v ⟨true, 0, s.ce.length, 0⟩ else (s, some 1)) := Lib.hid (by unfold doP; rw [HU.out, if_neg (by decide), if_neg h1, if_pos h2, hv, Int.toNat_natCast])
          have HVE := Lib.hid hv
          rw [hv] at p1
          clear h1 h2 hv
          obtain ⟨-, -, c2, -⟩ := H2.out.c
          have hg9 := H2.out.lt.2.1
          obtain ⟨ok, hok⟩ : ∃ ok, ok = newOk s.ce x.n := ⟨_, rfl⟩
          obtain ⟨z, hz⟩ : ∃ z : Int, z = ((if newOk s.ce x.n = true then s.ce.length else 0 : Nat) : Int) := ⟨_, rfl⟩
          obtain ⟨y, hy⟩ : ∃ y : Int, y = 0 := ⟨_, rfl⟩
          obtain ⟨ce', hce⟩ : ∃ ce', ce' = s.ce ++ [newC x.n] := ⟨_, rfl⟩
          have HCE := Lib.hid hce
          have HOK := Lib.hid hok
          have HZE := Lib.hid hz
          have HYE := Lib.hid hy
          have HNC : Hid (∀ wz : World, Below w9.heap.size w9 wz → Calls Tryz.prog 95 #[vc, .int .i64 x.n] wz fun e w' => ∃ v, e = .returned (.tuple #[v, .agg #[.int .i64 z, .int .i64 y], .bool ok]) ∧ (ok = true → MeS w' base v ce') ∧ Below wz.heap.size wz w') := Lib.hid fun wz hw => (iNewCell_any vc s.ce x.n base wz (H2.out.ce.bel hw) H2.out.ok.ce).mono (by
            rw [hz, hy, hok, hce]
            rintro e w' ⟨v, rfl, k1, k2⟩
            exact ⟨v, rfl, fun h => (k1 h).base (Nat.le_trans H2.out.lt.1 hw.size), k2⟩)
          clear hok hz hy hce
          obtain ⟨Ac, cc, rfl, -⟩ := H2.out.ce.slice
          have tok1 : True := trivial
          have hzz : w9.heap.size < (w9.alloc (.cells #[.int .i64 0, .int .i64 0] 77)).drew.heap.size := by show w9.heap.size < (w9.alloc _).heap.size; simp
          go_upto_region 11 with (at_builtin; fail)
          go_cut [7, 8, 9] from 55 to 65 (fun s7 s8 s9 wx => NewCut w9 wx base z y (ce') (ok = true) (.bool ok) s7 s8 s9)
          case first =>
            go_region_law (first
              | ((have _t := tok1); go_simp; go_at_call 95; (refine (HNC.out _ (by first | exact (Below.refl w9.heap.size w9).drew | exact (bel_a w9 _).drew)).mono ?_); (rintro e w11 ⟨v11, rfl, hm11, hb11⟩); clear tok1 _t; (have HB11 : Hid (Below w9.heap.size w9 w11) := Lib.hid (by first | exact (Below.refl w9.heap.size w9).drew.trans hb11 | exact ((bel_a w9 _).drew).trans (hb11.mono (Nat.le_of_lt hzz)))); (try (have HZ := Lib.hid ((show RowB (w9.alloc (.cells #[.int .i64 0, .int .i64 0] 77)).drew w9.heap.size 77 [.int .i64 0, .int .i64 0] from RowB.new w9 _ _).low hb11 hzz); (have r0 := HZ.out.cell 0); (have r1 := HZ.out.cell 1); (have rf0 := HZ.out.frozen 0); (have rf1 := HZ.out.frozen 1); (simp only [List.getElem?_cons_zero, List.getElem?_cons_succ] at r0 r1))); (have HM11 := Lib.hid hm11); clear hm11 hb11)
              | fail)
            all_goals
              go_wp2_with (at_builtin; fail)
              go_meet
              first
                | exact ⟨_, rfl, rfl, HB11.out.alloc HB11.out.size _, HB11.out.size, RowB.new w11 _ _, fun h => (HM11.out h).bel (bel_a w11 _)⟩
                | exact ⟨_, rfl, rfl, HB11.out.trans (below_putL (B := w9.heap.size) (g := w9.heap.size) (Nat.le_refl _) [.int .i64 z, .int .i64 y] 0 w11), Nat.le_refl _, HZ.out.putAll [.int .i64 z, .int .i64 y] rfl, fun h => (HM11.out h).keepT (HZ.out.kpt 0 [.int .i64 z, .int .i64 y]) (by decide) (by decide)⟩
          case rest =>
            obtain ⟨bz, rfl, rfl, hb, hbz, hrow, hme⟩ := hcut
            have H3 := Lib.hid (H2.out.bel hb)
            have HX3 := Lib.hid (HX2.out.low hb hx9)
            have HB3 := Lib.hid (Mab.of (gm := gm) (gs := gs) hb hbl9)
            have HZ := Lib.hid hrow
            have HME := Lib.hid hme
            clear hb hrow hme c2 p0 p1 p2 p3 HNC tok1 hzz
            cases ok with
            | false =>
              have HR : Hid (doP ts s x = (s, some 1)) := Lib.hid (by rw [HR0.out, ← HOK.out]; rfl)
              go_wp2_with (at_builtin; fail)
              go_ret
              exact LIFT.out _ _ ⟨_, _, by rw [HR.out]; rfl, by rw [HR.out]; exact H3.out, HB3.out⟩
            | true =>
              obtain ⟨A7, c7, rfl, -⟩ := (HME.out rfl).slice
              have hnk : newOk s.ce x.n = true := HOK.out.symm
              have HR : Hid (doP ts s x = putP ts ⟨s.sl, ce', s.rd⟩ v ⟨true, 0, s.ce.length, 0⟩) := Lib.hid (by rw [HR0.out, if_pos hnk, HCE.out])
              have hz : z = (s.ce.length : Nat) := by rw [HZE.out, if_pos hnk]
              have hy : y = ((0 : Nat) : Int) := HYE.out
              subst hz hy
              obtain ⟨n1, n2, n3⟩ := newOk_len hnk H2.out.ok.ce
              have HNC := Lib.hid (H3.out.setCe (HME.out rfl) (by rw [HCE.out]; exact H3.out.ok.ce.snoc n1 n2 n3))
              have HKT := Lib.hid (KpT.set_ H3.out.mr 2 (.slice A7 ce'.length c7))
              have y1 := (HX3.out.keepT HKT.out (by decide)).cell 1
              have z0 := (HZ.out.keepT HKT.out (by decide)).cell 0
              have z1 := (HZ.out.keepT HKT.out (by decide)).cell 1
              have f2 := H3.out.mf 2
              obtain ⟨-, -, m2, -⟩ := H3.out.c
              simp only [List.getElem?_cons_zero, List.getElem?_cons_succ] at y1 z0 z1
              rw [HVE.out] at y1
              have HPUT := Lib.hid (put_any B base gm gs v ⟨true, 0, s.ce.length, 0⟩ _ _ vl ts pts _ _ HNC.out.1 hvl h6)
              clear hnk n1 n2 n3 HOK
              go_wp2_with (at_builtin; fail)
              refine HPUT.out.mono ?_
              rintro e w' ⟨vc', vl', rfl, hm, hb⟩
              go_wp2_with (at_builtin; fail)
              go_ret
              exact LIFT.out _ _ ⟨_, _, by rw [HR.out]; rfl, by rw [HR.out]; exact hm, (HB3.out.trans HNC.out.2).trans hb⟩
        · have q2 : (x.op == 2) = false := by simpa using h2
          by_cases h3 : x.op = 3
          · have q3 : (x.op == 3) = true := by simp [h3]
            obtain ⟨v, hv, hvl⟩ := HPX.out (by omega)
            obtain ⟨u, hu, hul⟩ := HPY.out (by omega)
            obtain ⟨-, c1, -, -⟩ := H2.out.c
            obtain ⟨s0, s1, s2, s3⟩ := H2.out.sl hul
            obtain ⟨tk, htk⟩ : ∃ tk, tk = takesP ts (u : Nat) := ⟨_, rfl⟩
            obtain ⟨Y, hY⟩ : ∃ Y, Y = slAt s.sl u := ⟨_, rfl⟩
            have HR0 : Hid (doP ts s x = putP ts ⟨if tk = true then s.sl.set u slD else s.sl, s.ce, s.rd⟩ v Y) := Lib.hid (by
              unfold doP
              rw [HU.out, if_neg (by decide), if_neg h1, if_neg h2, if_pos h3, hv, hu]
              simp only [Int.toNat_natCast]
              rw [← htk, ← hY])
            have HTK := Lib.hid htk
            have HVE := Lib.hid hv
            have HUE := Lib.hid hu
            rw [← hY] at s0 s1 s2 s3
            rw [hv] at p1
            rw [hu] at p2
            clear h1 h2 h3 hv hu htk hY
            obtain ⟨ys, yn, yc, yt⟩ := Y
            have hgm9 := H2.out.lt.2.1
            have hgs9 := H2.out.lt.2.2
            simp only at s0 s1 s2 s3
            go_upto_region 17 with (at_builtin; fail)
            go_cut [10] from 80 to 87 (fun s10 wx => SlCut w9 wx [.bool ys, .int .i64 yn, .int .i64 (yc : Nat), .int .i64 (yt : Nat)] s10)
            case first =>
              go_region_law (fail)
              all_goals
                go_wp2_with (at_builtin; fail)
                go_meet
                exact ⟨_, rfl, (bel_a w9 _).drew, Nat.le_refl _, RowB.new w9 _ _⟩
            case rest =>
              obtain ⟨bz, rfl, hb, hbz, hrow⟩ := hcut
              have H3 := Lib.hid (H2.out.bel hb)
              have HX3 := Lib.hid (HX2.out.low hb hx9)
              have HB3 := Lib.hid (Mab.of (gm := gm) (gs := gs) hb hbl9)
              have HZ := Lib.hid hrow
              clear hb hrow c1 s0 s1 s2 s3 p0 p1 p2 p3
              obtain ⟨c0, c1, -, -⟩ := H3.out.c
              have p2 := HX3.out.cell 2
              simp only [List.getElem?_cons_zero, List.getElem?_cons_succ] at p2
              rw [HUE.out] at p2
              go_wp2_with (at_builtin; fail)
              have BEL : Hid (∀ w', w'.cell? ⟨gm, 0, none⟩ = some (.pointer (some ⟨gg, 0, none⟩)) ∧ w'.cell? ⟨bx, 2, none⟩ = some (.int .i64 (u : Nat)) ∧ Below wc.heap.size wc w' → Below wc.heap.size wc w') := Lib.hid fun _ h => h.2.2
              refine wp_region_held_drew (S := (fun w' => w'.cell? ⟨gm, 0, none⟩ = some (.pointer (some ⟨gg, 0, none⟩)) ∧ w'.cell? ⟨bx, 2, none⟩ = some (.int .i64 (u : Nat)) ∧ Below wc.heap.size wc w')) (by kernel_rfl) ?_ (fun hHeld => ?_)
              · exact ⟨c0, p2, (Below.refl _ _).drew⟩
              refine wpAnyH_take (i := 0) (oi := ⟨some 88, _, _, _, _, _⟩) (v := ?_) rfl (by kernel_rfl) (by kernel_rfl) (by kernel_rfl) (fun _ _ _ h => h) (Or.inl ⟨by rfl, fun w' hSw => ?_⟩) (by assumption) ?_
              rotate_left
              · (try dsimp only at hSw); go_simp; (try with_reducible rfl)
              (try simp only [Act.put, List.setIfInBounds_toArray, List.set_cons_zero, List.set_cons_succ])
              refine wpAnyH_take (i := 1) (oi := ⟨some 89, _, _, _, _, _⟩) (v := ?_) rfl (by kernel_rfl) (by kernel_rfl) (by kernel_rfl) (fun _ _ _ h => h) (Or.inl ⟨by rfl, fun w' hSw => ?_⟩) (by assumption) ?_
              rotate_left
              · (try dsimp only at hSw); go_simp; (try with_reducible rfl)
              (try simp only [Act.put, List.setIfInBounds_toArray, List.set_cons_zero, List.set_cons_succ])
              refine wpAnyH_take (i := 2) (oi := ⟨some 90, _, _, _, _, _⟩) (v := ?_) rfl (by kernel_rfl) (by kernel_rfl) (by kernel_rfl) (fun _ _ _ h => h) (Or.inl ⟨by rfl, fun w' hSw => ?_⟩) (by assumption) ?_
              rotate_left
              · (try dsimp only at hSw); go_simp; (try with_reducible rfl)
              (try simp only [Act.put, List.setIfInBounds_toArray, List.set_cons_zero, List.set_cons_succ])
              refine wpAnyH_take (i := 3) (oi := ⟨some 91, _, _, _, _, _⟩) (v := ?_) rfl (by kernel_rfl) (by kernel_rfl) (by kernel_rfl) (fun _ _ _ h => h) (Or.inl ⟨by rfl, fun w' hSw => ?_⟩) (by assumption) ?_
              rotate_left
              · (try dsimp only at hSw); go_simp; (try with_reducible rfl)
              (try simp only [Act.put, List.setIfInBounds_toArray, List.set_cons_zero, List.set_cons_succ])
              refine wpAnyH_take (i := 4) (oi := ⟨some 92, _, _, _, _, _⟩) (v := ?_) rfl (by kernel_rfl) (by kernel_rfl) (by kernel_rfl) (fun _ _ _ h => h) (Or.inl ⟨by rfl, fun w' hSw => ?_⟩) (by assumption) ?_
              rotate_left
              · (try dsimp only at hSw); go_simp; (try with_reducible rfl)
              (try simp only [Act.put, List.setIfInBounds_toArray, List.set_cons_zero, List.set_cons_succ])
              refine wpAnyH_take (i := 5) (oi := ⟨some 93, _, _, _, _, _⟩) (v := ?_) rfl (by kernel_rfl) (by kernel_rfl) (by kernel_rfl) (fun _ _ _ h => h) (Or.inl ⟨by rfl, fun w' hSw => ?_⟩) (by assumption) ?_
              rotate_left
              · (try dsimp only at hSw); go_simp; (try with_reducible rfl)
              (try simp only [Act.put, List.setIfInBounds_toArray, List.set_cons_zero, List.set_cons_succ])
              refine wpAnyH_ready (rs := [6]) (by kernel_rfl) (by simp) ?_
              refine AllReadyH.cons (o := ⟨some 94, _, _, _, _, _⟩) rfl (fun K hK => ?_) AllReadyH.nil
              go_simp
              (have BY := (BEL.out _ (by assumption)))
              (refine (takes_any _ ts pts B _ _ (H3.out.bel BY).g (by omega) (by omega)).mono ?_)
              (rintro e w8 ⟨rfl, hw8⟩)
              (have BX8 := Lib.hid (show Below wc.heap.size wc w8 from hw8 ▸ BY))
              clear hw8 BY
              (rw [← HTK.out])
              go_simp
              refine hK.out _ _ ?_ (fun hHeld => ?_)
              · exact ⟨(BX8.out.cell (p := ⟨gm, 0, none⟩) H3.out.lt.2.1).trans c0, (BX8.out.cell (p := ⟨bx, 2, none⟩) HX3.out.lt).trans p2, BX8.out⟩
              clear hK K
              (try simp only [Act.put, List.setIfInBounds_toArray, List.set_cons_zero, List.set_cons_succ])
              refine wpAnyH_done (by kernel_rfl) ?_ _
              have H4 := Lib.hid (H3.out.bel BX8.out)
              have HX4 := Lib.hid (HX3.out.low BX8.out HX3.out.lt)
              have HZ4 := Lib.hid (HZ.out.low BX8.out HZ.out.lt)
              have HB4 := Lib.hid (HB3.out.trans (Mab.of (gm := gm) (gs := gs) BX8.out H3.out.lt.1))
              clear c0 c1 p2 BEL hHeld
              have y1 := HX4.out.cell 1
              have y2 := HX4.out.cell 2
              have z0 := HZ4.out.cell 0
              have z1 := HZ4.out.cell 1
              have z2 := HZ4.out.cell 2
              have z3 := HZ4.out.cell 3
              simp only [List.getElem?_cons_zero, List.getElem?_cons_succ] at y1 y2 z0 z1 z2 z3
              rw [HVE.out] at y1
              rw [HUE.out] at y2
              have hzl := HZ4.out.lt
              have hxl := HX4.out.lt
              cases tk with
              | false =>
                have HPUT := Lib.hid (put_any B base gm gs v ⟨ys, yn, yc, yt⟩ _ _ _ ts pts s w8 H4.out hvl h6)
                have HR : Hid (doP ts s x = putP ts s v ⟨ys, yn, yc, yt⟩) := Lib.hid HR0.out
                go_wp2_with (at_builtin; fail)
                refine HPUT.out.mono ?_
                rintro e w' ⟨vc', vl', rfl, hm, hb⟩
                go_wp2_with (at_builtin; fail)
                go_ret
                exact LIFT.out _ _ ⟨_, _, by rw [HR.out]; rfl, by rw [HR.out]; exact hm, HB4.out.trans hb⟩
              | true =>
                obtain ⟨-, c1, -, -⟩ := H4.out.c
                obtain ⟨u0, u1, u2, u3⟩ := H4.out.sl hul
                have f0 := H4.out.sf (u * 4)
                have f1 := H4.out.sf (u * 4 + 1)
                have f2 := H4.out.sf (u * 4 + 2)
                have f3 := H4.out.sf (u * 4 + 3)
                have HF10 : Hid (MaS (w8.drew.setCells gs (u * 4) [.bool false, .int .i64 0, .int .i64 0, .int .i64 0]) B base gm gs (.pointer (some ⟨gg, 0, none⟩)) vc vl ts pts ⟨s.sl.set u slD, s.ce, s.rd⟩ ∧ Mab base gm gs w8 (w8.drew.setCells gs (u * 4) [.bool false, .int .i64 0, .int .i64 0, .int .i64 0]) ∧ RowB (w8.drew.setCells gs (u * 4) [.bool false, .int .i64 0, .int .i64 0, .int .i64 0]) bx 94 [.int .i64 x.op, .int .i64 x.x, .int .i64 x.y, .int .i64 x.n, .slice An x.next.length cn] ∧ RowB (w8.drew.setCells gs (u * 4) [.bool false, .int .i64 0, .int .i64 0, .int .i64 0]) bz 79 [.bool ys, .int .i64 yn, .int .i64 (yc : Nat), .int .i64 (yt : Nat)]) := Lib.hid (by
                  have h1 := MaS.setSl (show MaS w8.drew B base gm gs _ _ _ ts pts _ from H4.out.bel (Below.refl w8.heap.size w8).drew) hul slD
                  refine ⟨h1.1, (Mab.refl base gm gs w8).drew.trans h1.2, (heap_putL (b := bx) (fun e => ?_) [.bool false, .int .i64 0, .int .i64 0, .int .i64 0] (u * 4) w8.drew).trans HX4.out, (heap_putL (b := bz) (fun e => ?_) [.bool false, .int .i64 0, .int .i64 0, .int .i64 0] (u * 4) w8.drew).trans HZ4.out⟩
                  · have := HNE.out; omega
                  · omega)
                go_wp2_with (at_builtin; fail)
                go_region_law (fail)
                all_goals
                  rw [drew4]
                  generalize (w8.drew.setCells gs (u * 4) [.bool false, .int .i64 0, .int .i64 0, .int .i64 0]) = w10 at HF10 ⊢
                  have HB10 := Lib.hid (HB4.out.trans HF10.out.2.1)
                  have HX10 := HF10.out.2.2.1
                  have HZ10 := HF10.out.2.2.2
                  have y1 := HX10.cell 1
                  have z0 := HZ10.cell 0
                  have z1 := HZ10.cell 1
                  have z2 := HZ10.cell 2
                  have z3 := HZ10.cell 3
                  simp only [List.getElem?_cons_zero, List.getElem?_cons_succ] at y1 z0 z1 z2 z3
                  rw [HVE.out] at y1
                  clear c1 u0 u1 u2 u3 f0 f1 f2 f3 HX10 HZ10
                  have HPUT := Lib.hid (put_any B base gm gs v ⟨ys, yn, yc, yt⟩ _ _ _ ts pts _ w10 HF10.out.1 hvl h6)
                  have HR : Hid (doP ts s x = putP ts ⟨s.sl.set u slD, s.ce, s.rd⟩ v ⟨ys, yn, yc, yt⟩) := Lib.hid HR0.out
                  go_wp2_with (at_builtin; fail)
                  refine HPUT.out.mono ?_
                  rintro e w' ⟨vc', vl', rfl, hm, hb⟩
                  go_wp2_with (at_builtin; fail)
                  go_ret
                  exact LIFT.out _ _ ⟨_, _, by rw [HR.out]; rfl, by rw [HR.out]; exact hm, HB10.out.trans hb⟩
          · have q3 : (x.op == 3) = false := by simpa using h3
            by_cases h4 : x.op = 4
            · have q4 : (x.op == 4) = true := by simp [h4]
              have q5 : (x.op == 5) = false := by rw [h4]; rfl
              obtain ⟨v, hv, hvl⟩ := HPX.out (by omega)
              obtain ⟨u, hu, hul⟩ := HPY.out (by omega)
              obtain ⟨pc, hpc⟩ : ∃ pc, pc = (slAt s.sl u).pc := ⟨_, rfl⟩
              obtain ⟨pt, hpt⟩ : ∃ pt, pt = (slAt s.sl u).pt := ⟨_, rfl⟩
              obtain ⟨ce', zn, yn, code, hl⟩ : ∃ ce' zn yn code, lendP s.ce pc pt false = (ce', (zn, yn), code) := ⟨_, _, _, _, rfl⟩
              have HR0 : Hid (doP ts s x = if code ≠ 0 then (s, some (endP code)) else putP ts ⟨s.sl, ce', s.rd⟩ v ⟨true, 0, zn, yn⟩) := Lib.hid (by
                unfold doP
                rw [HU.out, if_neg (by decide), if_neg h1, if_neg h2, if_neg h3, if_pos (.inl h4), hv, hu, show (x.op == 5) = false from by rw [h4]; rfl]
                simp only [Int.toNat_natCast]
                rw [← hpc, ← hpt, hl])
              have HOK : Hid (okM ce') := Lib.hid (by have := H2.out.ok.ce.lend pc pt false; rw [hl] at this; exact this)
              have HLE := Lib.hid hl
              have HVE := Lib.hid hv
              obtain ⟨z, hz⟩ : ∃ z : Int, z = (zn : Nat) := ⟨_, rfl⟩
              obtain ⟨y, hy⟩ : ∃ y : Int, y = (yn : Nat) := ⟨_, rfl⟩
              have HZE := Lib.hid hz
              have HYE := Lib.hid hy
              obtain ⟨-, c1, c2, -⟩ := H2.out.c
              obtain ⟨-, -, s2, s3⟩ := H2.out.sl hul
              rw [← hpc] at s2
              rw [← hpt] at s3
              rw [hv] at p1
              rw [hu] at p2
              have hgm9 := H2.out.lt.2.1
              have hgs9 := H2.out.lt.2.2
              have HNC : Hid (∀ wz : World, Below w9.heap.size w9 wz → Calls Tryz.prog 97 #[vc, .agg #[.int .i64 (pc : Nat), .int .i64 (pt : Nat)], .bool false] wz fun e w' => ∃ v, e = .returned (.tuple #[v, .agg #[.int .i64 z, .int .i64 y], .int .i64 code]) ∧ (True → MeS w' base v ce') ∧ Below wz.heap.size wz w') := Lib.hid fun wz hw => (lent_any vc s.ce pc pt base false wz (H2.out.ce.bel hw) H2.out.ok.ce).mono (by
                rw [hz, hy, hl]
                rintro e w' ⟨v, rfl, k1, k2⟩
                exact ⟨v, rfl, fun _ => k1.base (Nat.le_trans H2.out.lt.1 hw.size), k2⟩)
              obtain ⟨Ac, cc, rfl, -⟩ := H2.out.ce.slice
              clear h1 h2 h3 h4 hv hu hpc hpt hl hz hy
              have tok1 : True := trivial
              have hzz : w9.heap.size < (w9.alloc (.cells #[.int .i64 0, .int .i64 0] 77)).drew.heap.size := by show w9.heap.size < (w9.alloc _).heap.size; simp
              go_upto_region 23 with (at_builtin; fail)
              go_cut [11, 12, 13] from 112 to 131 (fun s11 s12 s13 wx => NewCut w9 wx base z y ce' True (.int .i64 code) s11 s12 s13)
              case first =>
                refine wp_region_held_drew (S := (fun w' => w'.cell? ⟨gm, 1, none⟩ = some (.slice (some ⟨gs, 0, none⟩) ts.length ts.length) ∧ w'.cell? ⟨gm, 2, none⟩ = some (.slice Ac s.ce.length cc) ∧ w'.cell? ⟨gs, u * 4 + 2, none⟩ = some (.int .i64 (pc : Nat)) ∧ w'.cell? ⟨gs, u * 4 + 3, none⟩ = some (.int .i64 (pt : Nat)) ∧ w'.cell? ⟨bx, 0, none⟩ = some (.int .i64 x.op) ∧ w'.cell? ⟨bx, 2, none⟩ = some (.int .i64 (u : Nat)) ∧ Below w9.heap.size w9 w')) (by kernel_rfl) ?_ (fun hHeld => ?_)
                · exact ⟨c1, c2, s2, s3, p0, p2, (Below.refl _ _).drew⟩
                refine wpAnyH_take (i := 0) (oi := ⟨some 112, _, _, _, _, _⟩) (v := ?_) rfl (by kernel_rfl) (by kernel_rfl) (by kernel_rfl) (fun _ _ _ h => h) (Or.inl ⟨by rfl, fun w' hSw => ?_⟩) (by assumption) ?_
                rotate_left
                · (try dsimp only at hSw); go_simp; (try with_reducible rfl)
                (try simp only [Act.put, List.setIfInBounds_toArray, List.set_cons_zero, List.set_cons_succ])
                refine wpAnyH_take (i := 1) (oi := ⟨some 113, _, _, _, _, _⟩) (v := ?_) rfl (by kernel_rfl) (by kernel_rfl) (by kernel_rfl) (fun _ _ _ h => h) (Or.inl ⟨by rfl, fun w' hSw => ?_⟩) (by assumption) ?_
                rotate_left
                · (try dsimp only at hSw); go_simp; (try with_reducible rfl)
                (try simp only [Act.put, List.setIfInBounds_toArray, List.set_cons_zero, List.set_cons_succ])
                refine wpAnyH_take (i := 2) (oi := ⟨some 114, _, _, _, _, _⟩) (v := ?_) rfl (by kernel_rfl) (by kernel_rfl) (by kernel_rfl) (fun _ _ _ h => h) (Or.inl ⟨by rfl, fun w' hSw => ?_⟩) (by assumption) ?_
                rotate_left
                · (try dsimp only at hSw); go_simp; (try with_reducible rfl)
                (try simp only [Act.put, List.setIfInBounds_toArray, List.set_cons_zero, List.set_cons_succ])
                refine wpAnyH_take (i := 3) (oi := ⟨some 115, _, _, _, _, _⟩) (v := ?_) rfl (by kernel_rfl) (by kernel_rfl) (by kernel_rfl) (fun _ _ _ h => h) (Or.inl ⟨by rfl, fun w' hSw => ?_⟩) (by assumption) ?_
                rotate_left
                · (try dsimp only at hSw); go_simp; (try with_reducible rfl)
                (try simp only [Act.put, List.setIfInBounds_toArray, List.set_cons_zero, List.set_cons_succ])
                refine wpAnyH_take (i := 4) (oi := ⟨some 116, _, _, _, _, _⟩) (v := ?_) rfl (by kernel_rfl) (by kernel_rfl) (by kernel_rfl) (fun _ _ _ h => h) (Or.inl ⟨by rfl, fun w' hSw => ?_⟩) (by assumption) ?_
                rotate_left
                · (try dsimp only at hSw); go_simp; (try with_reducible rfl)
                (try simp only [Act.put, List.setIfInBounds_toArray, List.set_cons_zero, List.set_cons_succ])
                refine wpAnyH_take (i := 5) (oi := ⟨some 117, _, _, _, _, _⟩) (v := ?_) rfl (by kernel_rfl) (by kernel_rfl) (by kernel_rfl) (fun _ _ _ h => h) (Or.inl ⟨by rfl, fun w' hSw => ?_⟩) (by assumption) ?_
                rotate_left
                · (try dsimp only at hSw); go_simp; (try with_reducible rfl)
                (try simp only [Act.put, List.setIfInBounds_toArray, List.set_cons_zero, List.set_cons_succ])
                refine wpAnyH_take (i := 6) (oi := ⟨some 118, _, _, _, _, _⟩) (v := ?_) rfl (by kernel_rfl) (by kernel_rfl) (by kernel_rfl) (fun _ _ _ h => h) (Or.inl ⟨by rfl, fun w' hSw => ?_⟩) (by assumption) ?_
                rotate_left
                · (try dsimp only at hSw); go_simp; (try with_reducible rfl)
                (try simp only [Act.put, List.setIfInBounds_toArray, List.set_cons_zero, List.set_cons_succ])
                refine wpAnyH_take (i := 7) (oi := ⟨some 119, _, _, _, _, _⟩) (v := ?_) rfl (by kernel_rfl) (by kernel_rfl) (by kernel_rfl) (fun _ _ _ h => h) (Or.inl ⟨by rfl, fun w' hSw => ?_⟩) (by assumption) ?_
                rotate_left
                · (try dsimp only at hSw); go_simp; (try with_reducible rfl)
                (try simp only [Act.put, List.setIfInBounds_toArray, List.set_cons_zero, List.set_cons_succ])
                refine wpAnyH_take (i := 8) (oi := ⟨some 120, _, _, _, _, _⟩) (v := ?_) rfl (by kernel_rfl) (by kernel_rfl) (by kernel_rfl) (fun _ _ _ h => h) (Or.inl ⟨by rfl, fun w' hSw => ?_⟩) (by assumption) ?_
                rotate_left
                · (try dsimp only at hSw); go_simp; (try with_reducible rfl)
                (try simp only [Act.put, List.setIfInBounds_toArray, List.set_cons_zero, List.set_cons_succ])
                refine wpAnyH_take (i := 9) (oi := ⟨some 121, _, _, _, _, _⟩) (v := ?_) rfl (by kernel_rfl) (by kernel_rfl) (by kernel_rfl) (fun _ _ _ h => h) (Or.inl ⟨by rfl, fun w' hSw => ?_⟩) (by assumption) ?_
                rotate_left
                · (try dsimp only at hSw); go_simp; (try with_reducible rfl)
                (try simp only [Act.put, List.setIfInBounds_toArray, List.set_cons_zero, List.set_cons_succ])
                refine wpAnyH_take (i := 10) (oi := ⟨some 122, _, _, _, _, _⟩) (v := ?_) rfl (by kernel_rfl) (by kernel_rfl) (by kernel_rfl) (fun _ _ _ h => h) (Or.inl ⟨by rfl, fun w' hSw => ?_⟩) (by assumption) ?_
                rotate_left
                · (try dsimp only at hSw); go_simp; (try with_reducible rfl)
                (try simp only [Act.put, List.setIfInBounds_toArray, List.set_cons_zero, List.set_cons_succ])
                refine wpAnyH_take (i := 11) (oi := ⟨some 123, _, _, _, _, _⟩) (v := ?_) rfl (by kernel_rfl) (by kernel_rfl) (by kernel_rfl) (fun _ _ _ h => h) (Or.inl ⟨by rfl, fun w' hSw => ?_⟩) (by assumption) ?_
                rotate_left
                · (try dsimp only at hSw); go_simp; (try with_reducible rfl)
                (try simp only [Act.put, List.setIfInBounds_toArray, List.set_cons_zero, List.set_cons_succ])
                refine wpAnyH_take (i := 12) (oi := ⟨some 124, _, _, _, _, _⟩) (v := ?_) rfl (by kernel_rfl) (by kernel_rfl) (by kernel_rfl) (fun _ _ _ h => h) (Or.inl ⟨by rfl, fun w' hSw => ?_⟩) (by assumption) ?_
                rotate_left
                · (try dsimp only at hSw); go_simp; (try with_reducible rfl)
                (try simp only [Act.put, List.setIfInBounds_toArray, List.set_cons_zero, List.set_cons_succ])
                refine wpAnyH_take (i := 13) (oi := ⟨some 125, _, _, _, _, _⟩) (v := ?_) rfl (by kernel_rfl) (by kernel_rfl) (by kernel_rfl) (fun _ _ _ h => h) (Or.inl ⟨by rfl, fun w' hSw => ?_⟩) (by assumption) ?_
                rotate_left
                · (try dsimp only at hSw); go_simp; (try with_reducible rfl)
                (try simp only [Act.put, List.setIfInBounds_toArray, List.set_cons_zero, List.set_cons_succ])
                refine wpAnyH_take (i := 14) (oi := ⟨some 126, _, _, _, _, _⟩) (v := ?_) rfl (by kernel_rfl) (by kernel_rfl) (by kernel_rfl) (fun _ _ _ h => h) (Or.inl ⟨by rfl, fun w' hSw => ?_⟩) (by assumption) ?_
                rotate_left
                · (try dsimp only at hSw); go_simp; (try with_reducible rfl)
                (try simp only [Act.put, List.setIfInBounds_toArray, List.set_cons_zero, List.set_cons_succ])
                refine wpAnyH_take (i := 15) (oi := ⟨some 127, _, _, _, _, _⟩) (v := ?_) rfl (by kernel_rfl) (by kernel_rfl) (by kernel_rfl) (fun _ _ _ h => h) (Or.inl ⟨by rfl, fun w' hSw => ?_⟩) (by assumption) ?_
                rotate_left
                · (try dsimp only at hSw); go_simp; (try with_reducible rfl)
                (try simp only [Act.put, List.setIfInBounds_toArray, List.set_cons_zero, List.set_cons_succ])
                refine wpAnyH_ready (rs := [16, 21]) (by kernel_rfl) (by simp) ?_
                refine (AllReadyH.cons (o := ⟨some 128, _, _, _, _, _⟩) rfl (fun K hK => ?_) (AllReadyH.cons (o := ⟨some 12, _, _, _, _, _⟩) rfl (fun K hK => ?_) AllReadyH.nil))
                · go_simp
                  (refine (HNC.out _ (Below.refl w9.heap.size w9).drew).mono ?_)
                  (rintro e w11 ⟨v11, rfl, hm11, hb11⟩)
                  (have HB11 := Lib.hid ((Below.refl w9.heap.size w9).drew.trans hb11))
                  (have HM11 := Lib.hid (hm11 trivial))
                  clear hm11 hb11
                  go_simp
                  refine hK.out _ _ ?_ (fun hHeld => ?_)
                  · exact ⟨(HB11.out.cell (p := ⟨gm, 1, none⟩) hgm9).trans c1, (HB11.out.cell (p := ⟨gm, 2, none⟩) hgm9).trans c2, (HB11.out.cell (p := ⟨gs, u * 4 + 2, none⟩) hgs9).trans s2, (HB11.out.cell (p := ⟨gs, u * 4 + 3, none⟩) hgs9).trans s3, (HB11.out.cell (p := ⟨bx, 0, none⟩) hx9).trans p0, (HB11.out.cell (p := ⟨bx, 2, none⟩) hx9).trans p2, HB11.out⟩
                  clear hK K
                  (try simp only [Act.put, List.setIfInBounds_toArray, List.set_cons_zero, List.set_cons_succ])
                  refine wpAnyH_take (i := 17) (oi := ⟨some 111, _, _, _, _, _⟩) (v := ?_) rfl (by kernel_rfl) (by kernel_rfl) (by kernel_rfl) (fun _ _ _ h => h) (Or.inl ⟨by rfl, fun w' hSw => ?_⟩) (by assumption) ?_
                  rotate_left
                  · (try dsimp only at hSw); go_simp; (try with_reducible rfl)
                  (try simp only [Act.put, List.setIfInBounds_toArray, List.set_cons_zero, List.set_cons_succ])
                  refine wpAnyH_take (i := 18) (oi := ⟨some 129, _, _, _, _, _⟩) (v := ?_) rfl (by kernel_rfl) (by kernel_rfl) (by kernel_rfl) (fun _ _ _ h => h) (Or.inl ⟨by rfl, fun w' hSw => ?_⟩) (by assumption) ?_
                  rotate_left
                  · (try dsimp only at hSw); go_simp; (try with_reducible rfl)
                  (try simp only [Act.put, List.setIfInBounds_toArray, List.set_cons_zero, List.set_cons_succ])
                  refine wpAnyH_take (i := 19) (oi := ⟨some 130, _, _, _, _, _⟩) (v := ?_) rfl (by kernel_rfl) (by kernel_rfl) (by kernel_rfl) (fun _ _ _ h => h) (Or.inl ⟨by rfl, fun w' hSw => ?_⟩) (by assumption) ?_
                  rotate_left
                  · (try dsimp only at hSw); go_simp; (try with_reducible rfl)
                  (try simp only [Act.put, List.setIfInBounds_toArray, List.set_cons_zero, List.set_cons_succ])
                  refine wpAnyH_take (i := 20) (oi := ⟨some 131, _, _, _, _, _⟩) (v := ?_) rfl (by kernel_rfl) (by kernel_rfl) (by kernel_rfl) (fun _ _ _ h => h) (Or.inl ⟨by rfl, fun w' hSw => ?_⟩) (by assumption) ?_
                  rotate_left
                  · (try dsimp only at hSw); go_simp; (try with_reducible rfl)
                  (try simp only [Act.put, List.setIfInBounds_toArray, List.set_cons_zero, List.set_cons_succ])
                  refine wpAnyH_ready (rs := [21]) (by kernel_rfl) (by simp) ?_
                  refine (AllReadyH.cons (o := ⟨some 12, _, _, _, _, _⟩) rfl (fun K hK => ?_) AllReadyH.nil)
                  go_simp
                  (have HB12 := Lib.hid (HB11.out.alloc HB11.out.size (.cells #[.int .i64 0, .int .i64 0] 77)))
                  (have HZ12 := Lib.hid (RowB.new w11 [.int .i64 0, .int .i64 0] 77))
                  (have HM12 := Lib.hid (HM11.out.bel (bel_a w11 (.cells #[.int .i64 0, .int .i64 0] 77))))
                  (generalize w11.alloc (.cells #[.int .i64 0, .int .i64 0] 77) = w12 at HB12 HZ12 HM12 ⊢)
                  (have hbz := HB11.out.size)
                  (have hzl := HZ12.out.lt)
                  (have r0 := HZ12.out.cell 0)
                  (have r1 := HZ12.out.cell 1)
                  (have rf0 := HZ12.out.frozen 0)
                  (have rf1 := HZ12.out.frozen 1)
                  (simp only [List.getElem?_cons_zero, List.getElem?_cons_succ] at r0 r1)
                  refine hK.out _ _ ?_ (fun hHeld => ?_)
                  · exact ⟨(HB12.out.cell (p := ⟨gm, 1, none⟩) hgm9).trans c1, (HB12.out.cell (p := ⟨gm, 2, none⟩) hgm9).trans c2, (HB12.out.cell (p := ⟨gs, u * 4 + 2, none⟩) hgs9).trans s2, (HB12.out.cell (p := ⟨gs, u * 4 + 3, none⟩) hgs9).trans s3, (HB12.out.cell (p := ⟨bx, 0, none⟩) hx9).trans p0, (HB12.out.cell (p := ⟨bx, 2, none⟩) hx9).trans p2, HB12.out⟩
                  clear hK K
                  (try simp only [Act.put, List.setIfInBounds_toArray, List.set_cons_zero, List.set_cons_succ])
                  refine wpAnyH_take (i := 22) (oi := ⟨some 11, _, _, _, _, _⟩) (v := ?_) rfl (by kernel_rfl) (by kernel_rfl) (by kernel_rfl) (fun _ _ _ h => h) (Or.inl ⟨by rfl, fun w' hSw => ?_⟩) (by assumption) ?_
                  rotate_left
                  · (try dsimp only at hSw); go_simp; (try with_reducible rfl)
                  (try simp only [Act.put, List.setIfInBounds_toArray, List.set_cons_zero, List.set_cons_succ])
                  refine wpAnyH_ready (rs := [23]) (by kernel_rfl) (by simp) ?_
                  refine (AllReadyH.cons (o := ⟨none, _, _, _, _, _⟩) rfl (fun K hK => ?_) AllReadyH.nil)
                  go_simp
                  (have HB13 := Lib.hid (show Below w9.heap.size w9 (w12.setCells w11.heap.size 0 [.int .i64 z, .int .i64 y]) from HB12.out.trans (below_putL (B := w9.heap.size) (g := w11.heap.size) hbz [.int .i64 z, .int .i64 y] 0 w12)))
                  (have HZ13 := Lib.hid (show RowB (w12.setCells w11.heap.size 0 [.int .i64 z, .int .i64 y]) w11.heap.size 77 [.int .i64 z, .int .i64 y] from HZ12.out.putAll [.int .i64 z, .int .i64 y] rfl))
                  (have HM13 := Lib.hid (show MeS (w12.setCells w11.heap.size 0 [.int .i64 z, .int .i64 y]) base v11 ce' from HM12.out.keepT (HZ12.out.kpt 0 [.int .i64 z, .int .i64 y]) (by decide) (by decide)))
                  refine hK.out _ _ ?_ (fun hHeld => ?_)
                  · exact ⟨(HB13.out.cell (p := ⟨gm, 1, none⟩) hgm9).trans c1, (HB13.out.cell (p := ⟨gm, 2, none⟩) hgm9).trans c2, (HB13.out.cell (p := ⟨gs, u * 4 + 2, none⟩) hgs9).trans s2, (HB13.out.cell (p := ⟨gs, u * 4 + 3, none⟩) hgs9).trans s3, (HB13.out.cell (p := ⟨bx, 0, none⟩) hx9).trans p0, (HB13.out.cell (p := ⟨bx, 2, none⟩) hx9).trans p2, HB13.out⟩
                  clear hK K
                  (try simp only [Act.put, List.setIfInBounds_toArray, List.set_cons_zero, List.set_cons_succ])
                  refine wpAnyH_take (i := 24) (oi := ⟨some 13, _, _, _, _, _⟩) (v := ?_) rfl (by kernel_rfl) (by kernel_rfl) (by kernel_rfl) (fun _ _ _ h => h) (Or.inl ⟨by rfl, fun w' hSw => ?_⟩) (by assumption) ?_
                  rotate_left
                  · (try dsimp only at hSw); go_simp; (try with_reducible rfl)
                  (try simp only [Act.put, List.setIfInBounds_toArray, List.set_cons_zero, List.set_cons_succ])
                  refine wpAnyH_done (by kernel_rfl) ?_ _
                  go_wp2_with (at_builtin; fail)
                  go_meet
                  exact ⟨_, rfl, rfl, HB13.out, hbz, HZ13.out, fun _ => HM13.out⟩
                · go_simp
                  (have HB10 := Lib.hid (bel_a w9 (.cells #[.int .i64 0, .int .i64 0] 77)).drew)
                  (have HZ10 := Lib.hid (show RowB (w9.alloc (.cells #[.int .i64 0, .int .i64 0] 77)).drew w9.heap.size 77 [.int .i64 0, .int .i64 0] from RowB.new w9 _ _))
                  (generalize (w9.alloc (.cells #[.int .i64 0, .int .i64 0] 77)).drew = w10 at HB10 HZ10 ⊢)
                  (have hbz : w9.heap.size ≤ w9.heap.size := Nat.le_refl _)
                  (have hzl := HZ10.out.lt)
                  refine hK.out _ _ ?_ (fun hHeld => ?_)
                  · exact ⟨(HB10.out.cell (p := ⟨gm, 1, none⟩) hgm9).trans c1, (HB10.out.cell (p := ⟨gm, 2, none⟩) hgm9).trans c2, (HB10.out.cell (p := ⟨gs, u * 4 + 2, none⟩) hgs9).trans s2, (HB10.out.cell (p := ⟨gs, u * 4 + 3, none⟩) hgs9).trans s3, (HB10.out.cell (p := ⟨bx, 0, none⟩) hx9).trans p0, (HB10.out.cell (p := ⟨bx, 2, none⟩) hx9).trans p2, HB10.out⟩
                  clear hK K
                  (try simp only [Act.put, List.setIfInBounds_toArray, List.set_cons_zero, List.set_cons_succ])
                  refine wpAnyH_ready (rs := [16]) (by kernel_rfl) (by simp) ?_
                  refine (AllReadyH.cons (o := ⟨some 128, _, _, _, _, _⟩) rfl (fun K hK => ?_) AllReadyH.nil)
                  go_simp
                  (refine (HNC.out _ HB10.out).mono ?_)
                  (rintro e w12 ⟨v11, rfl, hm11, hb11⟩)
                  (have HB12 := Lib.hid (HB10.out.trans (hb11.mono HB10.out.size)))
                  (have HZ12 := Lib.hid (HZ10.out.low hb11 hzl))
                  (have HM12 := Lib.hid (hm11 trivial))
                  clear hm11 hb11
                  (have r0 := HZ12.out.cell 0)
                  (have r1 := HZ12.out.cell 1)
                  (have rf0 := HZ12.out.frozen 0)
                  (have rf1 := HZ12.out.frozen 1)
                  (simp only [List.getElem?_cons_zero, List.getElem?_cons_succ] at r0 r1)
                  go_simp
                  refine hK.out _ _ ?_ (fun hHeld => ?_)
                  · exact ⟨(HB12.out.cell (p := ⟨gm, 1, none⟩) hgm9).trans c1, (HB12.out.cell (p := ⟨gm, 2, none⟩) hgm9).trans c2, (HB12.out.cell (p := ⟨gs, u * 4 + 2, none⟩) hgs9).trans s2, (HB12.out.cell (p := ⟨gs, u * 4 + 3, none⟩) hgs9).trans s3, (HB12.out.cell (p := ⟨bx, 0, none⟩) hx9).trans p0, (HB12.out.cell (p := ⟨bx, 2, none⟩) hx9).trans p2, HB12.out⟩
                  clear hK K
                  (try simp only [Act.put, List.setIfInBounds_toArray, List.set_cons_zero, List.set_cons_succ])
                  refine wpAnyH_take (i := 17) (oi := ⟨some 111, _, _, _, _, _⟩) (v := ?_) rfl (by kernel_rfl) (by kernel_rfl) (by kernel_rfl) (fun _ _ _ h => h) (Or.inl ⟨by rfl, fun w' hSw => ?_⟩) (by assumption) ?_
                  rotate_left
                  · (try dsimp only at hSw); go_simp; (try with_reducible rfl)
                  (try simp only [Act.put, List.setIfInBounds_toArray, List.set_cons_zero, List.set_cons_succ])
                  refine wpAnyH_take (i := 18) (oi := ⟨some 129, _, _, _, _, _⟩) (v := ?_) rfl (by kernel_rfl) (by kernel_rfl) (by kernel_rfl) (fun _ _ _ h => h) (Or.inl ⟨by rfl, fun w' hSw => ?_⟩) (by assumption) ?_
                  rotate_left
                  · (try dsimp only at hSw); go_simp; (try with_reducible rfl)
                  (try simp only [Act.put, List.setIfInBounds_toArray, List.set_cons_zero, List.set_cons_succ])
                  refine wpAnyH_take (i := 19) (oi := ⟨some 130, _, _, _, _, _⟩) (v := ?_) rfl (by kernel_rfl) (by kernel_rfl) (by kernel_rfl) (fun _ _ _ h => h) (Or.inl ⟨by rfl, fun w' hSw => ?_⟩) (by assumption) ?_
                  rotate_left
                  · (try dsimp only at hSw); go_simp; (try with_reducible rfl)
                  (try simp only [Act.put, List.setIfInBounds_toArray, List.set_cons_zero, List.set_cons_succ])
                  refine wpAnyH_take (i := 20) (oi := ⟨some 131, _, _, _, _, _⟩) (v := ?_) rfl (by kernel_rfl) (by kernel_rfl) (by kernel_rfl) (fun _ _ _ h => h) (Or.inl ⟨by rfl, fun w' hSw => ?_⟩) (by assumption) ?_
                  rotate_left
                  · (try dsimp only at hSw); go_simp; (try with_reducible rfl)
                  (try simp only [Act.put, List.setIfInBounds_toArray, List.set_cons_zero, List.set_cons_succ])
                  refine wpAnyH_take (i := 22) (oi := ⟨some 11, _, _, _, _, _⟩) (v := ?_) rfl (by kernel_rfl) (by kernel_rfl) (by kernel_rfl) (fun _ _ _ h => h) (Or.inl ⟨by rfl, fun w' hSw => ?_⟩) (by assumption) ?_
                  rotate_left
                  · (try dsimp only at hSw); go_simp; (try with_reducible rfl)
                  (try simp only [Act.put, List.setIfInBounds_toArray, List.set_cons_zero, List.set_cons_succ])
                  refine wpAnyH_ready (rs := [23]) (by kernel_rfl) (by simp) ?_
                  refine (AllReadyH.cons (o := ⟨none, _, _, _, _, _⟩) rfl (fun K hK => ?_) AllReadyH.nil)
                  go_simp
                  (have HB13 := Lib.hid (show Below w9.heap.size w9 (w12.setCells w9.heap.size 0 [.int .i64 z, .int .i64 y]) from HB12.out.trans (below_putL (B := w9.heap.size) (g := w9.heap.size) hbz [.int .i64 z, .int .i64 y] 0 w12)))
                  (have HZ13 := Lib.hid (show RowB (w12.setCells w9.heap.size 0 [.int .i64 z, .int .i64 y]) w9.heap.size 77 [.int .i64 z, .int .i64 y] from HZ12.out.putAll [.int .i64 z, .int .i64 y] rfl))
                  (have HM13 := Lib.hid (show MeS (w12.setCells w9.heap.size 0 [.int .i64 z, .int .i64 y]) base v11 ce' from HM12.out.keepT (HZ12.out.kpt 0 [.int .i64 z, .int .i64 y]) (by decide) (by decide)))
                  refine hK.out _ _ ?_ (fun hHeld => ?_)
                  · exact ⟨(HB13.out.cell (p := ⟨gm, 1, none⟩) hgm9).trans c1, (HB13.out.cell (p := ⟨gm, 2, none⟩) hgm9).trans c2, (HB13.out.cell (p := ⟨gs, u * 4 + 2, none⟩) hgs9).trans s2, (HB13.out.cell (p := ⟨gs, u * 4 + 3, none⟩) hgs9).trans s3, (HB13.out.cell (p := ⟨bx, 0, none⟩) hx9).trans p0, (HB13.out.cell (p := ⟨bx, 2, none⟩) hx9).trans p2, HB13.out⟩
                  clear hK K
                  (try simp only [Act.put, List.setIfInBounds_toArray, List.set_cons_zero, List.set_cons_succ])
                  refine wpAnyH_take (i := 24) (oi := ⟨some 13, _, _, _, _, _⟩) (v := ?_) rfl (by kernel_rfl) (by kernel_rfl) (by kernel_rfl) (fun _ _ _ h => h) (Or.inl ⟨by rfl, fun w' hSw => ?_⟩) (by assumption) ?_
                  rotate_left
                  · (try dsimp only at hSw); go_simp; (try with_reducible rfl)
                  (try simp only [Act.put, List.setIfInBounds_toArray, List.set_cons_zero, List.set_cons_succ])
                  refine wpAnyH_done (by kernel_rfl) ?_ _
                  go_wp2_with (at_builtin; fail)
                  go_meet
                  exact ⟨_, rfl, rfl, HB13.out, hbz, HZ13.out, fun _ => HM13.out⟩
              case rest =>
                obtain ⟨bz, rfl, rfl, hb, hbz, hrow, hme⟩ := hcut
                have H3 := Lib.hid (H2.out.bel hb)
                have HX3 := Lib.hid (HX2.out.low hb hx9)
                have HB3 := Lib.hid (Mab.of (gm := gm) (gs := gs) hb hbl9)
                have HZ := Lib.hid hrow
                have HME := Lib.hid (hme trivial)
                clear hb hrow hme c1 c2 s2 s3 p0 p1 p2 p3 HNC tok1 hzz
                by_cases hcode : code = 0
                · subst hcode
                  obtain ⟨A7, c7, rfl, -⟩ := HME.out.slice
                  have HR : Hid (doP ts s x = putP ts ⟨s.sl, ce', s.rd⟩ v ⟨true, 0, zn, yn⟩) := Lib.hid (by rw [HR0.out, if_neg (fun h => h rfl)])
                  have hz : z = (zn : Nat) := HZE.out
                  have hy : y = (yn : Nat) := HYE.out
                  subst hz hy
                  have HNC := Lib.hid (H3.out.setCe HME.out HOK.out)
                  have HKT := Lib.hid (KpT.set_ H3.out.mr 2 (.slice A7 ce'.length c7))
                  have y1 := (HX3.out.keepT HKT.out (by decide)).cell 1
                  have z0 := (HZ.out.keepT HKT.out (by decide)).cell 0
                  have z1 := (HZ.out.keepT HKT.out (by decide)).cell 1
                  have f2 := H3.out.mf 2
                  obtain ⟨-, -, m2, -⟩ := H3.out.c
                  simp only [List.getElem?_cons_zero, List.getElem?_cons_succ] at y1 z0 z1
                  rw [HVE.out] at y1
                  have HPUT := Lib.hid (put_any B base gm gs v ⟨true, 0, zn, yn⟩ _ _ vl ts pts _ _ HNC.out.1 hvl h6)
                  go_wp2_with (at_builtin; fail)
                  refine HPUT.out.mono ?_
                  rintro e w' ⟨vc', vl', rfl, hm, hb⟩
                  go_wp2_with (at_builtin; fail)
                  go_ret
                  exact LIFT.out _ _ ⟨_, _, by rw [HR.out]; rfl, by rw [HR.out]; exact hm, (HB3.out.trans HNC.out.2).trans hb⟩
                · have hcq : (code != 0) = true := by simpa using hcode
                  have HR : Hid (doP ts s x = (s, some (endP code))) := Lib.hid (by rw [HR0.out, if_pos hcode])
                  clear hcode
                  go_wp2_with (at_builtin; fail)
                  refine (endOf_any code _).mono ?_
                  rintro e w' ⟨rfl, rfl⟩
                  go_wp2_with (at_builtin; fail)
                  go_ret
                  exact LIFT.out _ _ ⟨_, _, by rw [HR.out]; rfl, by rw [HR.out]; exact H3.out, HB3.out⟩
            · have q4 : (x.op == 4) = false := by simpa using h4
              by_cases h5 : x.op = 5
              · have q5 : (x.op == 5) = true := by simp [h5]
                obtain ⟨v, hv, hvl⟩ := HPX.out (by omega)
                obtain ⟨u, hu, hul⟩ := HPY.out (by omega)
                obtain ⟨pc, hpc⟩ : ∃ pc, pc = (slAt s.sl u).pc := ⟨_, rfl⟩
                obtain ⟨pt, hpt⟩ : ∃ pt, pt = (slAt s.sl u).pt := ⟨_, rfl⟩
                obtain ⟨ce', zn, yn, code, hl⟩ : ∃ ce' zn yn code, lendP s.ce pc pt true = (ce', (zn, yn), code) := ⟨_, _, _, _, rfl⟩
                have HR0 : Hid (doP ts s x = if code ≠ 0 then (s, some (endP code)) else putP ts ⟨s.sl, ce', s.rd⟩ v ⟨true, 0, zn, yn⟩) := Lib.hid (by
                  unfold doP
                  rw [HU.out, if_neg (by decide), if_neg h1, if_neg h2, if_neg h3, if_pos (.inr h5), hv, hu, show (x.op == 5) = true from by rw [h5]; rfl]
                  simp only [Int.toNat_natCast]
                  rw [← hpc, ← hpt, hl])
                have HOK : Hid (okM ce') := Lib.hid (by have := H2.out.ok.ce.lend pc pt true; rw [hl] at this; exact this)
                have HLE := Lib.hid hl
                have HVE := Lib.hid hv
                obtain ⟨z, hz⟩ : ∃ z : Int, z = (zn : Nat) := ⟨_, rfl⟩
                obtain ⟨y, hy⟩ : ∃ y : Int, y = (yn : Nat) := ⟨_, rfl⟩
                have HZE := Lib.hid hz
                have HYE := Lib.hid hy
                obtain ⟨-, c1, c2, -⟩ := H2.out.c
                obtain ⟨-, -, s2, s3⟩ := H2.out.sl hul
                rw [← hpc] at s2
                rw [← hpt] at s3
                rw [hv] at p1
                rw [hu] at p2
                have hgm9 := H2.out.lt.2.1
                have hgs9 := H2.out.lt.2.2
                have HNC : Hid (∀ wz : World, Below w9.heap.size w9 wz → Calls Tryz.prog 97 #[vc, .agg #[.int .i64 (pc : Nat), .int .i64 (pt : Nat)], .bool true] wz fun e w' => ∃ v, e = .returned (.tuple #[v, .agg #[.int .i64 z, .int .i64 y], .int .i64 code]) ∧ (True → MeS w' base v ce') ∧ Below wz.heap.size wz w') := Lib.hid fun wz hw => (lent_any vc s.ce pc pt base true wz (H2.out.ce.bel hw) H2.out.ok.ce).mono (by
                  rw [hz, hy, hl]
                  rintro e w' ⟨v, rfl, k1, k2⟩
                  exact ⟨v, rfl, fun _ => k1.base (Nat.le_trans H2.out.lt.1 hw.size), k2⟩)
                obtain ⟨Ac, cc, rfl, -⟩ := H2.out.ce.slice
                clear h1 h2 h3 h4 h5 hv hu hpc hpt hl hz hy
                have tok1 : True := trivial
                have hzz : w9.heap.size < (w9.alloc (.cells #[.int .i64 0, .int .i64 0] 77)).drew.heap.size := by show w9.heap.size < (w9.alloc _).heap.size; simp
                go_upto_region 23 with (at_builtin; fail)
                go_cut [11, 12, 13] from 112 to 131 (fun s11 s12 s13 wx => NewCut w9 wx base z y ce' True (.int .i64 code) s11 s12 s13)
                case first =>
                  refine wp_region_held_drew (S := (fun w' => w'.cell? ⟨gm, 1, none⟩ = some (.slice (some ⟨gs, 0, none⟩) ts.length ts.length) ∧ w'.cell? ⟨gm, 2, none⟩ = some (.slice Ac s.ce.length cc) ∧ w'.cell? ⟨gs, u * 4 + 2, none⟩ = some (.int .i64 (pc : Nat)) ∧ w'.cell? ⟨gs, u * 4 + 3, none⟩ = some (.int .i64 (pt : Nat)) ∧ w'.cell? ⟨bx, 0, none⟩ = some (.int .i64 x.op) ∧ w'.cell? ⟨bx, 2, none⟩ = some (.int .i64 (u : Nat)) ∧ Below w9.heap.size w9 w')) (by kernel_rfl) ?_ (fun hHeld => ?_)
                  · exact ⟨c1, c2, s2, s3, p0, p2, (Below.refl _ _).drew⟩
                  refine wpAnyH_take (i := 0) (oi := ⟨some 112, _, _, _, _, _⟩) (v := ?_) rfl (by kernel_rfl) (by kernel_rfl) (by kernel_rfl) (fun _ _ _ h => h) (Or.inl ⟨by rfl, fun w' hSw => ?_⟩) (by assumption) ?_
                  rotate_left
                  · (try dsimp only at hSw); go_simp; (try with_reducible rfl)
                  (try simp only [Act.put, List.setIfInBounds_toArray, List.set_cons_zero, List.set_cons_succ])
                  refine wpAnyH_take (i := 1) (oi := ⟨some 113, _, _, _, _, _⟩) (v := ?_) rfl (by kernel_rfl) (by kernel_rfl) (by kernel_rfl) (fun _ _ _ h => h) (Or.inl ⟨by rfl, fun w' hSw => ?_⟩) (by assumption) ?_
                  rotate_left
                  · (try dsimp only at hSw); go_simp; (try with_reducible rfl)
                  (try simp only [Act.put, List.setIfInBounds_toArray, List.set_cons_zero, List.set_cons_succ])
                  refine wpAnyH_take (i := 2) (oi := ⟨some 114, _, _, _, _, _⟩) (v := ?_) rfl (by kernel_rfl) (by kernel_rfl) (by kernel_rfl) (fun _ _ _ h => h) (Or.inl ⟨by rfl, fun w' hSw => ?_⟩) (by assumption) ?_
                  rotate_left
                  · (try dsimp only at hSw); go_simp; (try with_reducible rfl)
                  (try simp only [Act.put, List.setIfInBounds_toArray, List.set_cons_zero, List.set_cons_succ])
                  refine wpAnyH_take (i := 3) (oi := ⟨some 115, _, _, _, _, _⟩) (v := ?_) rfl (by kernel_rfl) (by kernel_rfl) (by kernel_rfl) (fun _ _ _ h => h) (Or.inl ⟨by rfl, fun w' hSw => ?_⟩) (by assumption) ?_
                  rotate_left
                  · (try dsimp only at hSw); go_simp; (try with_reducible rfl)
                  (try simp only [Act.put, List.setIfInBounds_toArray, List.set_cons_zero, List.set_cons_succ])
                  refine wpAnyH_take (i := 4) (oi := ⟨some 116, _, _, _, _, _⟩) (v := ?_) rfl (by kernel_rfl) (by kernel_rfl) (by kernel_rfl) (fun _ _ _ h => h) (Or.inl ⟨by rfl, fun w' hSw => ?_⟩) (by assumption) ?_
                  rotate_left
                  · (try dsimp only at hSw); go_simp; (try with_reducible rfl)
                  (try simp only [Act.put, List.setIfInBounds_toArray, List.set_cons_zero, List.set_cons_succ])
                  refine wpAnyH_take (i := 5) (oi := ⟨some 117, _, _, _, _, _⟩) (v := ?_) rfl (by kernel_rfl) (by kernel_rfl) (by kernel_rfl) (fun _ _ _ h => h) (Or.inl ⟨by rfl, fun w' hSw => ?_⟩) (by assumption) ?_
                  rotate_left
                  · (try dsimp only at hSw); go_simp; (try with_reducible rfl)
                  (try simp only [Act.put, List.setIfInBounds_toArray, List.set_cons_zero, List.set_cons_succ])
                  refine wpAnyH_take (i := 6) (oi := ⟨some 118, _, _, _, _, _⟩) (v := ?_) rfl (by kernel_rfl) (by kernel_rfl) (by kernel_rfl) (fun _ _ _ h => h) (Or.inl ⟨by rfl, fun w' hSw => ?_⟩) (by assumption) ?_
                  rotate_left
                  · (try dsimp only at hSw); go_simp; (try with_reducible rfl)
                  (try simp only [Act.put, List.setIfInBounds_toArray, List.set_cons_zero, List.set_cons_succ])
                  refine wpAnyH_take (i := 7) (oi := ⟨some 119, _, _, _, _, _⟩) (v := ?_) rfl (by kernel_rfl) (by kernel_rfl) (by kernel_rfl) (fun _ _ _ h => h) (Or.inl ⟨by rfl, fun w' hSw => ?_⟩) (by assumption) ?_
                  rotate_left
                  · (try dsimp only at hSw); go_simp; (try with_reducible rfl)
                  (try simp only [Act.put, List.setIfInBounds_toArray, List.set_cons_zero, List.set_cons_succ])
                  refine wpAnyH_take (i := 8) (oi := ⟨some 120, _, _, _, _, _⟩) (v := ?_) rfl (by kernel_rfl) (by kernel_rfl) (by kernel_rfl) (fun _ _ _ h => h) (Or.inl ⟨by rfl, fun w' hSw => ?_⟩) (by assumption) ?_
                  rotate_left
                  · (try dsimp only at hSw); go_simp; (try with_reducible rfl)
                  (try simp only [Act.put, List.setIfInBounds_toArray, List.set_cons_zero, List.set_cons_succ])
                  refine wpAnyH_take (i := 9) (oi := ⟨some 121, _, _, _, _, _⟩) (v := ?_) rfl (by kernel_rfl) (by kernel_rfl) (by kernel_rfl) (fun _ _ _ h => h) (Or.inl ⟨by rfl, fun w' hSw => ?_⟩) (by assumption) ?_
                  rotate_left
                  · (try dsimp only at hSw); go_simp; (try with_reducible rfl)
                  (try simp only [Act.put, List.setIfInBounds_toArray, List.set_cons_zero, List.set_cons_succ])
                  refine wpAnyH_take (i := 10) (oi := ⟨some 122, _, _, _, _, _⟩) (v := ?_) rfl (by kernel_rfl) (by kernel_rfl) (by kernel_rfl) (fun _ _ _ h => h) (Or.inl ⟨by rfl, fun w' hSw => ?_⟩) (by assumption) ?_
                  rotate_left
                  · (try dsimp only at hSw); go_simp; (try with_reducible rfl)
                  (try simp only [Act.put, List.setIfInBounds_toArray, List.set_cons_zero, List.set_cons_succ])
                  refine wpAnyH_take (i := 11) (oi := ⟨some 123, _, _, _, _, _⟩) (v := ?_) rfl (by kernel_rfl) (by kernel_rfl) (by kernel_rfl) (fun _ _ _ h => h) (Or.inl ⟨by rfl, fun w' hSw => ?_⟩) (by assumption) ?_
                  rotate_left
                  · (try dsimp only at hSw); go_simp; (try with_reducible rfl)
                  (try simp only [Act.put, List.setIfInBounds_toArray, List.set_cons_zero, List.set_cons_succ])
                  refine wpAnyH_take (i := 12) (oi := ⟨some 124, _, _, _, _, _⟩) (v := ?_) rfl (by kernel_rfl) (by kernel_rfl) (by kernel_rfl) (fun _ _ _ h => h) (Or.inl ⟨by rfl, fun w' hSw => ?_⟩) (by assumption) ?_
                  rotate_left
                  · (try dsimp only at hSw); go_simp; (try with_reducible rfl)
                  (try simp only [Act.put, List.setIfInBounds_toArray, List.set_cons_zero, List.set_cons_succ])
                  refine wpAnyH_take (i := 13) (oi := ⟨some 125, _, _, _, _, _⟩) (v := ?_) rfl (by kernel_rfl) (by kernel_rfl) (by kernel_rfl) (fun _ _ _ h => h) (Or.inl ⟨by rfl, fun w' hSw => ?_⟩) (by assumption) ?_
                  rotate_left
                  · (try dsimp only at hSw); go_simp; (try with_reducible rfl)
                  (try simp only [Act.put, List.setIfInBounds_toArray, List.set_cons_zero, List.set_cons_succ])
                  refine wpAnyH_take (i := 14) (oi := ⟨some 126, _, _, _, _, _⟩) (v := ?_) rfl (by kernel_rfl) (by kernel_rfl) (by kernel_rfl) (fun _ _ _ h => h) (Or.inl ⟨by rfl, fun w' hSw => ?_⟩) (by assumption) ?_
                  rotate_left
                  · (try dsimp only at hSw); go_simp; (try with_reducible rfl)
                  (try simp only [Act.put, List.setIfInBounds_toArray, List.set_cons_zero, List.set_cons_succ])
                  refine wpAnyH_take (i := 15) (oi := ⟨some 127, _, _, _, _, _⟩) (v := ?_) rfl (by kernel_rfl) (by kernel_rfl) (by kernel_rfl) (fun _ _ _ h => h) (Or.inl ⟨by rfl, fun w' hSw => ?_⟩) (by assumption) ?_
                  rotate_left
                  · (try dsimp only at hSw); go_simp; (try with_reducible rfl)
                  (try simp only [Act.put, List.setIfInBounds_toArray, List.set_cons_zero, List.set_cons_succ])
                  refine wpAnyH_ready (rs := [16, 21]) (by kernel_rfl) (by simp) ?_
                  refine (AllReadyH.cons (o := ⟨some 128, _, _, _, _, _⟩) rfl (fun K hK => ?_) (AllReadyH.cons (o := ⟨some 12, _, _, _, _, _⟩) rfl (fun K hK => ?_) AllReadyH.nil))
                  · go_simp
                    (refine (HNC.out _ (Below.refl w9.heap.size w9).drew).mono ?_)
                    (rintro e w11 ⟨v11, rfl, hm11, hb11⟩)
                    (have HB11 := Lib.hid ((Below.refl w9.heap.size w9).drew.trans hb11))
                    (have HM11 := Lib.hid (hm11 trivial))
                    clear hm11 hb11
                    go_simp
                    refine hK.out _ _ ?_ (fun hHeld => ?_)
                    · exact ⟨(HB11.out.cell (p := ⟨gm, 1, none⟩) hgm9).trans c1, (HB11.out.cell (p := ⟨gm, 2, none⟩) hgm9).trans c2, (HB11.out.cell (p := ⟨gs, u * 4 + 2, none⟩) hgs9).trans s2, (HB11.out.cell (p := ⟨gs, u * 4 + 3, none⟩) hgs9).trans s3, (HB11.out.cell (p := ⟨bx, 0, none⟩) hx9).trans p0, (HB11.out.cell (p := ⟨bx, 2, none⟩) hx9).trans p2, HB11.out⟩
                    clear hK K
                    (try simp only [Act.put, List.setIfInBounds_toArray, List.set_cons_zero, List.set_cons_succ])
                    refine wpAnyH_take (i := 17) (oi := ⟨some 111, _, _, _, _, _⟩) (v := ?_) rfl (by kernel_rfl) (by kernel_rfl) (by kernel_rfl) (fun _ _ _ h => h) (Or.inl ⟨by rfl, fun w' hSw => ?_⟩) (by assumption) ?_
                    rotate_left
                    · (try dsimp only at hSw); go_simp; (try with_reducible rfl)
                    (try simp only [Act.put, List.setIfInBounds_toArray, List.set_cons_zero, List.set_cons_succ])
                    refine wpAnyH_take (i := 18) (oi := ⟨some 129, _, _, _, _, _⟩) (v := ?_) rfl (by kernel_rfl) (by kernel_rfl) (by kernel_rfl) (fun _ _ _ h => h) (Or.inl ⟨by rfl, fun w' hSw => ?_⟩) (by assumption) ?_
                    rotate_left
                    · (try dsimp only at hSw); go_simp; (try with_reducible rfl)
                    (try simp only [Act.put, List.setIfInBounds_toArray, List.set_cons_zero, List.set_cons_succ])
                    refine wpAnyH_take (i := 19) (oi := ⟨some 130, _, _, _, _, _⟩) (v := ?_) rfl (by kernel_rfl) (by kernel_rfl) (by kernel_rfl) (fun _ _ _ h => h) (Or.inl ⟨by rfl, fun w' hSw => ?_⟩) (by assumption) ?_
                    rotate_left
                    · (try dsimp only at hSw); go_simp; (try with_reducible rfl)
                    (try simp only [Act.put, List.setIfInBounds_toArray, List.set_cons_zero, List.set_cons_succ])
                    refine wpAnyH_take (i := 20) (oi := ⟨some 131, _, _, _, _, _⟩) (v := ?_) rfl (by kernel_rfl) (by kernel_rfl) (by kernel_rfl) (fun _ _ _ h => h) (Or.inl ⟨by rfl, fun w' hSw => ?_⟩) (by assumption) ?_
                    rotate_left
                    · (try dsimp only at hSw); go_simp; (try with_reducible rfl)
                    (try simp only [Act.put, List.setIfInBounds_toArray, List.set_cons_zero, List.set_cons_succ])
                    refine wpAnyH_ready (rs := [21]) (by kernel_rfl) (by simp) ?_
                    refine (AllReadyH.cons (o := ⟨some 12, _, _, _, _, _⟩) rfl (fun K hK => ?_) AllReadyH.nil)
                    go_simp
                    (have HB12 := Lib.hid (HB11.out.alloc HB11.out.size (.cells #[.int .i64 0, .int .i64 0] 77)))
                    (have HZ12 := Lib.hid (RowB.new w11 [.int .i64 0, .int .i64 0] 77))
                    (have HM12 := Lib.hid (HM11.out.bel (bel_a w11 (.cells #[.int .i64 0, .int .i64 0] 77))))
                    (generalize w11.alloc (.cells #[.int .i64 0, .int .i64 0] 77) = w12 at HB12 HZ12 HM12 ⊢)
                    (have hbz := HB11.out.size)
                    (have hzl := HZ12.out.lt)
                    (have r0 := HZ12.out.cell 0)
                    (have r1 := HZ12.out.cell 1)
                    (have rf0 := HZ12.out.frozen 0)
                    (have rf1 := HZ12.out.frozen 1)
                    (simp only [List.getElem?_cons_zero, List.getElem?_cons_succ] at r0 r1)
                    refine hK.out _ _ ?_ (fun hHeld => ?_)
                    · exact ⟨(HB12.out.cell (p := ⟨gm, 1, none⟩) hgm9).trans c1, (HB12.out.cell (p := ⟨gm, 2, none⟩) hgm9).trans c2, (HB12.out.cell (p := ⟨gs, u * 4 + 2, none⟩) hgs9).trans s2, (HB12.out.cell (p := ⟨gs, u * 4 + 3, none⟩) hgs9).trans s3, (HB12.out.cell (p := ⟨bx, 0, none⟩) hx9).trans p0, (HB12.out.cell (p := ⟨bx, 2, none⟩) hx9).trans p2, HB12.out⟩
                    clear hK K
                    (try simp only [Act.put, List.setIfInBounds_toArray, List.set_cons_zero, List.set_cons_succ])
                    refine wpAnyH_take (i := 22) (oi := ⟨some 11, _, _, _, _, _⟩) (v := ?_) rfl (by kernel_rfl) (by kernel_rfl) (by kernel_rfl) (fun _ _ _ h => h) (Or.inl ⟨by rfl, fun w' hSw => ?_⟩) (by assumption) ?_
                    rotate_left
                    · (try dsimp only at hSw); go_simp; (try with_reducible rfl)
                    (try simp only [Act.put, List.setIfInBounds_toArray, List.set_cons_zero, List.set_cons_succ])
                    refine wpAnyH_ready (rs := [23]) (by kernel_rfl) (by simp) ?_
                    refine (AllReadyH.cons (o := ⟨none, _, _, _, _, _⟩) rfl (fun K hK => ?_) AllReadyH.nil)
                    go_simp
                    (have HB13 := Lib.hid (show Below w9.heap.size w9 (w12.setCells w11.heap.size 0 [.int .i64 z, .int .i64 y]) from HB12.out.trans (below_putL (B := w9.heap.size) (g := w11.heap.size) hbz [.int .i64 z, .int .i64 y] 0 w12)))
                    (have HZ13 := Lib.hid (show RowB (w12.setCells w11.heap.size 0 [.int .i64 z, .int .i64 y]) w11.heap.size 77 [.int .i64 z, .int .i64 y] from HZ12.out.putAll [.int .i64 z, .int .i64 y] rfl))
                    (have HM13 := Lib.hid (show MeS (w12.setCells w11.heap.size 0 [.int .i64 z, .int .i64 y]) base v11 ce' from HM12.out.keepT (HZ12.out.kpt 0 [.int .i64 z, .int .i64 y]) (by decide) (by decide)))
                    refine hK.out _ _ ?_ (fun hHeld => ?_)
                    · exact ⟨(HB13.out.cell (p := ⟨gm, 1, none⟩) hgm9).trans c1, (HB13.out.cell (p := ⟨gm, 2, none⟩) hgm9).trans c2, (HB13.out.cell (p := ⟨gs, u * 4 + 2, none⟩) hgs9).trans s2, (HB13.out.cell (p := ⟨gs, u * 4 + 3, none⟩) hgs9).trans s3, (HB13.out.cell (p := ⟨bx, 0, none⟩) hx9).trans p0, (HB13.out.cell (p := ⟨bx, 2, none⟩) hx9).trans p2, HB13.out⟩
                    clear hK K
                    (try simp only [Act.put, List.setIfInBounds_toArray, List.set_cons_zero, List.set_cons_succ])
                    refine wpAnyH_take (i := 24) (oi := ⟨some 13, _, _, _, _, _⟩) (v := ?_) rfl (by kernel_rfl) (by kernel_rfl) (by kernel_rfl) (fun _ _ _ h => h) (Or.inl ⟨by rfl, fun w' hSw => ?_⟩) (by assumption) ?_
                    rotate_left
                    · (try dsimp only at hSw); go_simp; (try with_reducible rfl)
                    (try simp only [Act.put, List.setIfInBounds_toArray, List.set_cons_zero, List.set_cons_succ])
                    refine wpAnyH_done (by kernel_rfl) ?_ _
                    go_wp2_with (at_builtin; fail)
                    go_meet
                    exact ⟨_, rfl, rfl, HB13.out, hbz, HZ13.out, fun _ => HM13.out⟩
                  · go_simp
                    (have HB10 := Lib.hid (bel_a w9 (.cells #[.int .i64 0, .int .i64 0] 77)).drew)
                    (have HZ10 := Lib.hid (show RowB (w9.alloc (.cells #[.int .i64 0, .int .i64 0] 77)).drew w9.heap.size 77 [.int .i64 0, .int .i64 0] from RowB.new w9 _ _))
                    (generalize (w9.alloc (.cells #[.int .i64 0, .int .i64 0] 77)).drew = w10 at HB10 HZ10 ⊢)
                    (have hbz : w9.heap.size ≤ w9.heap.size := Nat.le_refl _)
                    (have hzl := HZ10.out.lt)
                    refine hK.out _ _ ?_ (fun hHeld => ?_)
                    · exact ⟨(HB10.out.cell (p := ⟨gm, 1, none⟩) hgm9).trans c1, (HB10.out.cell (p := ⟨gm, 2, none⟩) hgm9).trans c2, (HB10.out.cell (p := ⟨gs, u * 4 + 2, none⟩) hgs9).trans s2, (HB10.out.cell (p := ⟨gs, u * 4 + 3, none⟩) hgs9).trans s3, (HB10.out.cell (p := ⟨bx, 0, none⟩) hx9).trans p0, (HB10.out.cell (p := ⟨bx, 2, none⟩) hx9).trans p2, HB10.out⟩
                    clear hK K
                    (try simp only [Act.put, List.setIfInBounds_toArray, List.set_cons_zero, List.set_cons_succ])
                    refine wpAnyH_ready (rs := [16]) (by kernel_rfl) (by simp) ?_
                    refine (AllReadyH.cons (o := ⟨some 128, _, _, _, _, _⟩) rfl (fun K hK => ?_) AllReadyH.nil)
                    go_simp
                    (refine (HNC.out _ HB10.out).mono ?_)
                    (rintro e w12 ⟨v11, rfl, hm11, hb11⟩)
                    (have HB12 := Lib.hid (HB10.out.trans (hb11.mono HB10.out.size)))
                    (have HZ12 := Lib.hid (HZ10.out.low hb11 hzl))
                    (have HM12 := Lib.hid (hm11 trivial))
                    clear hm11 hb11
                    (have r0 := HZ12.out.cell 0)
                    (have r1 := HZ12.out.cell 1)
                    (have rf0 := HZ12.out.frozen 0)
                    (have rf1 := HZ12.out.frozen 1)
                    (simp only [List.getElem?_cons_zero, List.getElem?_cons_succ] at r0 r1)
                    go_simp
                    refine hK.out _ _ ?_ (fun hHeld => ?_)
                    · exact ⟨(HB12.out.cell (p := ⟨gm, 1, none⟩) hgm9).trans c1, (HB12.out.cell (p := ⟨gm, 2, none⟩) hgm9).trans c2, (HB12.out.cell (p := ⟨gs, u * 4 + 2, none⟩) hgs9).trans s2, (HB12.out.cell (p := ⟨gs, u * 4 + 3, none⟩) hgs9).trans s3, (HB12.out.cell (p := ⟨bx, 0, none⟩) hx9).trans p0, (HB12.out.cell (p := ⟨bx, 2, none⟩) hx9).trans p2, HB12.out⟩
                    clear hK K
                    (try simp only [Act.put, List.setIfInBounds_toArray, List.set_cons_zero, List.set_cons_succ])
                    refine wpAnyH_take (i := 17) (oi := ⟨some 111, _, _, _, _, _⟩) (v := ?_) rfl (by kernel_rfl) (by kernel_rfl) (by kernel_rfl) (fun _ _ _ h => h) (Or.inl ⟨by rfl, fun w' hSw => ?_⟩) (by assumption) ?_
                    rotate_left
                    · (try dsimp only at hSw); go_simp; (try with_reducible rfl)
                    (try simp only [Act.put, List.setIfInBounds_toArray, List.set_cons_zero, List.set_cons_succ])
                    refine wpAnyH_take (i := 18) (oi := ⟨some 129, _, _, _, _, _⟩) (v := ?_) rfl (by kernel_rfl) (by kernel_rfl) (by kernel_rfl) (fun _ _ _ h => h) (Or.inl ⟨by rfl, fun w' hSw => ?_⟩) (by assumption) ?_
                    rotate_left
                    · (try dsimp only at hSw); go_simp; (try with_reducible rfl)
                    (try simp only [Act.put, List.setIfInBounds_toArray, List.set_cons_zero, List.set_cons_succ])
                    refine wpAnyH_take (i := 19) (oi := ⟨some 130, _, _, _, _, _⟩) (v := ?_) rfl (by kernel_rfl) (by kernel_rfl) (by kernel_rfl) (fun _ _ _ h => h) (Or.inl ⟨by rfl, fun w' hSw => ?_⟩) (by assumption) ?_
                    rotate_left
                    · (try dsimp only at hSw); go_simp; (try with_reducible rfl)
                    (try simp only [Act.put, List.setIfInBounds_toArray, List.set_cons_zero, List.set_cons_succ])
                    refine wpAnyH_take (i := 20) (oi := ⟨some 131, _, _, _, _, _⟩) (v := ?_) rfl (by kernel_rfl) (by kernel_rfl) (by kernel_rfl) (fun _ _ _ h => h) (Or.inl ⟨by rfl, fun w' hSw => ?_⟩) (by assumption) ?_
                    rotate_left
                    · (try dsimp only at hSw); go_simp; (try with_reducible rfl)
                    (try simp only [Act.put, List.setIfInBounds_toArray, List.set_cons_zero, List.set_cons_succ])
                    refine wpAnyH_take (i := 22) (oi := ⟨some 11, _, _, _, _, _⟩) (v := ?_) rfl (by kernel_rfl) (by kernel_rfl) (by kernel_rfl) (fun _ _ _ h => h) (Or.inl ⟨by rfl, fun w' hSw => ?_⟩) (by assumption) ?_
                    rotate_left
                    · (try dsimp only at hSw); go_simp; (try with_reducible rfl)
                    (try simp only [Act.put, List.setIfInBounds_toArray, List.set_cons_zero, List.set_cons_succ])
                    refine wpAnyH_ready (rs := [23]) (by kernel_rfl) (by simp) ?_
                    refine (AllReadyH.cons (o := ⟨none, _, _, _, _, _⟩) rfl (fun K hK => ?_) AllReadyH.nil)
                    go_simp
                    (have HB13 := Lib.hid (show Below w9.heap.size w9 (w12.setCells w9.heap.size 0 [.int .i64 z, .int .i64 y]) from HB12.out.trans (below_putL (B := w9.heap.size) (g := w9.heap.size) hbz [.int .i64 z, .int .i64 y] 0 w12)))
                    (have HZ13 := Lib.hid (show RowB (w12.setCells w9.heap.size 0 [.int .i64 z, .int .i64 y]) w9.heap.size 77 [.int .i64 z, .int .i64 y] from HZ12.out.putAll [.int .i64 z, .int .i64 y] rfl))
                    (have HM13 := Lib.hid (show MeS (w12.setCells w9.heap.size 0 [.int .i64 z, .int .i64 y]) base v11 ce' from HM12.out.keepT (HZ12.out.kpt 0 [.int .i64 z, .int .i64 y]) (by decide) (by decide)))
                    refine hK.out _ _ ?_ (fun hHeld => ?_)
                    · exact ⟨(HB13.out.cell (p := ⟨gm, 1, none⟩) hgm9).trans c1, (HB13.out.cell (p := ⟨gm, 2, none⟩) hgm9).trans c2, (HB13.out.cell (p := ⟨gs, u * 4 + 2, none⟩) hgs9).trans s2, (HB13.out.cell (p := ⟨gs, u * 4 + 3, none⟩) hgs9).trans s3, (HB13.out.cell (p := ⟨bx, 0, none⟩) hx9).trans p0, (HB13.out.cell (p := ⟨bx, 2, none⟩) hx9).trans p2, HB13.out⟩
                    clear hK K
                    (try simp only [Act.put, List.setIfInBounds_toArray, List.set_cons_zero, List.set_cons_succ])
                    refine wpAnyH_take (i := 24) (oi := ⟨some 13, _, _, _, _, _⟩) (v := ?_) rfl (by kernel_rfl) (by kernel_rfl) (by kernel_rfl) (fun _ _ _ h => h) (Or.inl ⟨by rfl, fun w' hSw => ?_⟩) (by assumption) ?_
                    rotate_left
                    · (try dsimp only at hSw); go_simp; (try with_reducible rfl)
                    (try simp only [Act.put, List.setIfInBounds_toArray, List.set_cons_zero, List.set_cons_succ])
                    refine wpAnyH_done (by kernel_rfl) ?_ _
                    go_wp2_with (at_builtin; fail)
                    go_meet
                    exact ⟨_, rfl, rfl, HB13.out, hbz, HZ13.out, fun _ => HM13.out⟩
                case rest =>
                  obtain ⟨bz, rfl, rfl, hb, hbz, hrow, hme⟩ := hcut
                  have H3 := Lib.hid (H2.out.bel hb)
                  have HX3 := Lib.hid (HX2.out.low hb hx9)
                  have HB3 := Lib.hid (Mab.of (gm := gm) (gs := gs) hb hbl9)
                  have HZ := Lib.hid hrow
                  have HME := Lib.hid (hme trivial)
                  clear hb hrow hme c1 c2 s2 s3 p0 p1 p2 p3 HNC tok1 hzz
                  by_cases hcode : code = 0
                  · subst hcode
                    obtain ⟨A7, c7, rfl, -⟩ := HME.out.slice
                    have HR : Hid (doP ts s x = putP ts ⟨s.sl, ce', s.rd⟩ v ⟨true, 0, zn, yn⟩) := Lib.hid (by rw [HR0.out, if_neg (fun h => h rfl)])
                    have hz : z = (zn : Nat) := HZE.out
                    have hy : y = (yn : Nat) := HYE.out
                    subst hz hy
                    have HNC := Lib.hid (H3.out.setCe HME.out HOK.out)
                    have HKT := Lib.hid (KpT.set_ H3.out.mr 2 (.slice A7 ce'.length c7))
                    have y1 := (HX3.out.keepT HKT.out (by decide)).cell 1
                    have z0 := (HZ.out.keepT HKT.out (by decide)).cell 0
                    have z1 := (HZ.out.keepT HKT.out (by decide)).cell 1
                    have f2 := H3.out.mf 2
                    obtain ⟨-, -, m2, -⟩ := H3.out.c
                    simp only [List.getElem?_cons_zero, List.getElem?_cons_succ] at y1 z0 z1
                    rw [HVE.out] at y1
                    have HPUT := Lib.hid (put_any B base gm gs v ⟨true, 0, zn, yn⟩ _ _ vl ts pts _ _ HNC.out.1 hvl h6)
                    go_wp2_with (at_builtin; fail)
                    refine HPUT.out.mono ?_
                    rintro e w' ⟨vc', vl', rfl, hm, hb⟩
                    go_wp2_with (at_builtin; fail)
                    go_ret
                    exact LIFT.out _ _ ⟨_, _, by rw [HR.out]; rfl, by rw [HR.out]; exact hm, (HB3.out.trans HNC.out.2).trans hb⟩
                  · have hcq : (code != 0) = true := by simpa using hcode
                    have HR : Hid (doP ts s x = (s, some (endP code))) := Lib.hid (by rw [HR0.out, if_pos hcode])
                    clear hcode
                    go_wp2_with (at_builtin; fail)
                    refine (endOf_any code _).mono ?_
                    rintro e w' ⟨rfl, rfl⟩
                    go_wp2_with (at_builtin; fail)
                    go_ret
                    exact LIFT.out _ _ ⟨_, _, by rw [HR.out]; rfl, by rw [HR.out]; exact H3.out, HB3.out⟩
              · have q5 : (x.op == 5) = false := by simpa using h5
                by_cases h6' : x.op = 6
                · have q6 : (x.op == 6) = true := by simp [h6']
                  obtain ⟨v, hv, hvl⟩ := HPX.out (by omega)
                  obtain ⟨u, hu, hul⟩ := HPY.out (by omega)
                  obtain ⟨pc, hpc⟩ : ∃ pc, pc = (slAt s.sl u).pc := ⟨_, rfl⟩
                  obtain ⟨pt, hpt⟩ : ∃ pt, pt = (slAt s.sl u).pt := ⟨_, rfl⟩
                  obtain ⟨ce', val, code, hl⟩ : ∃ ce' val code, readP s.ce pc pt = (ce', val, code) := ⟨_, _, _, rfl⟩
                  have HR0 : Hid (doP ts s x = if code ≠ 0 then (s, some (endP code)) else putP ts ⟨s.sl, ce', s.rd ++ [val]⟩ v ⟨true, val, 0, 0⟩) := Lib.hid (by
                    unfold doP
                    rw [HU.out, if_neg (by decide), if_neg h1, if_neg h2, if_neg h3, if_neg (fun h => h.elim h4 h5), if_pos h6', hv, hu]
                    simp only [Int.toNat_natCast]
                    rw [← hpc, ← hpt, hl])
                  have HOK : Hid (okM ce') := Lib.hid (by have := H2.out.ok.ce.read pc pt; rw [hl] at this; exact this)
                  have HVE := Lib.hid hv
                  obtain ⟨-, c1, c2, -⟩ := H2.out.c
                  obtain ⟨-, -, s2, s3⟩ := H2.out.sl hul
                  rw [← hpc] at s2
                  rw [← hpt] at s3
                  rw [hv] at p1
                  rw [hu] at p2
                  have hgm9 := H2.out.lt.2.1
                  have hgs9 := H2.out.lt.2.2
                  have HNC : Hid (∀ wz : World, Below w9.heap.size w9 wz → Calls Tryz.prog 99 #[vc, .agg #[.int .i64 (pc : Nat), .int .i64 (pt : Nat)]] wz fun e w' => ∃ v, e = .returned (.tuple #[v, .int .i64 val, .int .i64 code]) ∧ MeS w' base v ce' ∧ Below wz.heap.size wz w') := Lib.hid fun wz hw => (iReadCell_any vc s.ce pc pt base wz (H2.out.ce.bel hw) H2.out.ok.ce).mono (by
                    rw [hl]
                    rintro e w' ⟨v, rfl, k1, k2⟩
                    exact ⟨v, rfl, k1.base (Nat.le_trans H2.out.lt.1 hw.size), k2⟩)
                  obtain ⟨Ac, cc, rfl, -⟩ := H2.out.ce.slice
                  clear h1 h2 h3 h4 h5 h6' hv hu hpc hpt hl
                  go_wp2_with (at_builtin; fail)
                  refine wp_region_held_drew (S := (fun w' => w'.cell? ⟨gm, 1, none⟩ = some (.slice (some ⟨gs, 0, none⟩) ts.length ts.length) ∧ w'.cell? ⟨gm, 2, none⟩ = some (.slice Ac s.ce.length cc) ∧ w'.cell? ⟨gs, u * 4 + 2, none⟩ = some (.int .i64 (pc : Nat)) ∧ w'.cell? ⟨gs, u * 4 + 3, none⟩ = some (.int .i64 (pt : Nat)) ∧ w'.cell? ⟨bx, 2, none⟩ = some (.int .i64 (u : Nat)) ∧ Below w9.heap.size w9 w')) (by kernel_rfl) ?_ (fun hHeld => ?_)
                  · exact ⟨c1, c2, s2, s3, p2, (Below.refl _ _).drew⟩
                  refine wpAnyH_take (i := 0) (oi := ⟨some 149, _, _, _, _, _⟩) (v := ?_) rfl (by kernel_rfl) (by kernel_rfl) (by kernel_rfl) (fun _ _ _ h => h) (Or.inl ⟨by rfl, fun w' hSw => ?_⟩) (by assumption) ?_
                  rotate_left
                  · (try dsimp only at hSw); go_simp; (try with_reducible rfl)
                  (try simp only [Act.put, List.setIfInBounds_toArray, List.set_cons_zero, List.set_cons_succ])
                  refine wpAnyH_take (i := 1) (oi := ⟨some 150, _, _, _, _, _⟩) (v := ?_) rfl (by kernel_rfl) (by kernel_rfl) (by kernel_rfl) (fun _ _ _ h => h) (Or.inl ⟨by rfl, fun w' hSw => ?_⟩) (by assumption) ?_
                  rotate_left
                  · (try dsimp only at hSw); go_simp; (try with_reducible rfl)
                  (try simp only [Act.put, List.setIfInBounds_toArray, List.set_cons_zero, List.set_cons_succ])
                  refine wpAnyH_take (i := 2) (oi := ⟨some 151, _, _, _, _, _⟩) (v := ?_) rfl (by kernel_rfl) (by kernel_rfl) (by kernel_rfl) (fun _ _ _ h => h) (Or.inl ⟨by rfl, fun w' hSw => ?_⟩) (by assumption) ?_
                  rotate_left
                  · (try dsimp only at hSw); go_simp; (try with_reducible rfl)
                  (try simp only [Act.put, List.setIfInBounds_toArray, List.set_cons_zero, List.set_cons_succ])
                  refine wpAnyH_take (i := 3) (oi := ⟨some 152, _, _, _, _, _⟩) (v := ?_) rfl (by kernel_rfl) (by kernel_rfl) (by kernel_rfl) (fun _ _ _ h => h) (Or.inl ⟨by rfl, fun w' hSw => ?_⟩) (by assumption) ?_
                  rotate_left
                  · (try dsimp only at hSw); go_simp; (try with_reducible rfl)
                  (try simp only [Act.put, List.setIfInBounds_toArray, List.set_cons_zero, List.set_cons_succ])
                  refine wpAnyH_take (i := 4) (oi := ⟨some 153, _, _, _, _, _⟩) (v := ?_) rfl (by kernel_rfl) (by kernel_rfl) (by kernel_rfl) (fun _ _ _ h => h) (Or.inl ⟨by rfl, fun w' hSw => ?_⟩) (by assumption) ?_
                  rotate_left
                  · (try dsimp only at hSw); go_simp; (try with_reducible rfl)
                  (try simp only [Act.put, List.setIfInBounds_toArray, List.set_cons_zero, List.set_cons_succ])
                  refine wpAnyH_take (i := 5) (oi := ⟨some 154, _, _, _, _, _⟩) (v := ?_) rfl (by kernel_rfl) (by kernel_rfl) (by kernel_rfl) (fun _ _ _ h => h) (Or.inl ⟨by rfl, fun w' hSw => ?_⟩) (by assumption) ?_
                  rotate_left
                  · (try dsimp only at hSw); go_simp; (try with_reducible rfl)
                  (try simp only [Act.put, List.setIfInBounds_toArray, List.set_cons_zero, List.set_cons_succ])
                  refine wpAnyH_take (i := 6) (oi := ⟨some 155, _, _, _, _, _⟩) (v := ?_) rfl (by kernel_rfl) (by kernel_rfl) (by kernel_rfl) (fun _ _ _ h => h) (Or.inl ⟨by rfl, fun w' hSw => ?_⟩) (by assumption) ?_
                  rotate_left
                  · (try dsimp only at hSw); go_simp; (try with_reducible rfl)
                  (try simp only [Act.put, List.setIfInBounds_toArray, List.set_cons_zero, List.set_cons_succ])
                  refine wpAnyH_take (i := 7) (oi := ⟨some 156, _, _, _, _, _⟩) (v := ?_) rfl (by kernel_rfl) (by kernel_rfl) (by kernel_rfl) (fun _ _ _ h => h) (Or.inl ⟨by rfl, fun w' hSw => ?_⟩) (by assumption) ?_
                  rotate_left
                  · (try dsimp only at hSw); go_simp; (try with_reducible rfl)
                  (try simp only [Act.put, List.setIfInBounds_toArray, List.set_cons_zero, List.set_cons_succ])
                  refine wpAnyH_take (i := 8) (oi := ⟨some 157, _, _, _, _, _⟩) (v := ?_) rfl (by kernel_rfl) (by kernel_rfl) (by kernel_rfl) (fun _ _ _ h => h) (Or.inl ⟨by rfl, fun w' hSw => ?_⟩) (by assumption) ?_
                  rotate_left
                  · (try dsimp only at hSw); go_simp; (try with_reducible rfl)
                  (try simp only [Act.put, List.setIfInBounds_toArray, List.set_cons_zero, List.set_cons_succ])
                  refine wpAnyH_take (i := 9) (oi := ⟨some 158, _, _, _, _, _⟩) (v := ?_) rfl (by kernel_rfl) (by kernel_rfl) (by kernel_rfl) (fun _ _ _ h => h) (Or.inl ⟨by rfl, fun w' hSw => ?_⟩) (by assumption) ?_
                  rotate_left
                  · (try dsimp only at hSw); go_simp; (try with_reducible rfl)
                  (try simp only [Act.put, List.setIfInBounds_toArray, List.set_cons_zero, List.set_cons_succ])
                  refine wpAnyH_take (i := 10) (oi := ⟨some 159, _, _, _, _, _⟩) (v := ?_) rfl (by kernel_rfl) (by kernel_rfl) (by kernel_rfl) (fun _ _ _ h => h) (Or.inl ⟨by rfl, fun w' hSw => ?_⟩) (by assumption) ?_
                  rotate_left
                  · (try dsimp only at hSw); go_simp; (try with_reducible rfl)
                  (try simp only [Act.put, List.setIfInBounds_toArray, List.set_cons_zero, List.set_cons_succ])
                  refine wpAnyH_take (i := 11) (oi := ⟨some 160, _, _, _, _, _⟩) (v := ?_) rfl (by kernel_rfl) (by kernel_rfl) (by kernel_rfl) (fun _ _ _ h => h) (Or.inl ⟨by rfl, fun w' hSw => ?_⟩) (by assumption) ?_
                  rotate_left
                  · (try dsimp only at hSw); go_simp; (try with_reducible rfl)
                  (try simp only [Act.put, List.setIfInBounds_toArray, List.set_cons_zero, List.set_cons_succ])
                  refine wpAnyH_take (i := 12) (oi := ⟨some 161, _, _, _, _, _⟩) (v := ?_) rfl (by kernel_rfl) (by kernel_rfl) (by kernel_rfl) (fun _ _ _ h => h) (Or.inl ⟨by rfl, fun w' hSw => ?_⟩) (by assumption) ?_
                  rotate_left
                  · (try dsimp only at hSw); go_simp; (try with_reducible rfl)
                  (try simp only [Act.put, List.setIfInBounds_toArray, List.set_cons_zero, List.set_cons_succ])
                  refine wpAnyH_ready (rs := [13]) (by kernel_rfl) (by simp) ?_
                  refine AllReadyH.cons (o := ⟨some 162, _, _, _, _, _⟩) rfl (fun K hK => ?_) AllReadyH.nil
                  go_simp
                  (refine (HNC.out _ (Below.refl w9.heap.size w9).drew).mono ?_)
                  (rintro e w11 ⟨v11, rfl, hm11, hb11⟩)
                  (have HB11 := Lib.hid ((Below.refl w9.heap.size w9).drew.trans hb11))
                  (have HM11 := Lib.hid hm11)
                  clear hm11 hb11
                  go_simp
                  refine hK.out _ _ ?_ (fun hHeld => ?_)
                  · exact ⟨(HB11.out.cell (p := ⟨gm, 1, none⟩) hgm9).trans c1, (HB11.out.cell (p := ⟨gm, 2, none⟩) hgm9).trans c2, (HB11.out.cell (p := ⟨gs, u * 4 + 2, none⟩) hgs9).trans s2, (HB11.out.cell (p := ⟨gs, u * 4 + 3, none⟩) hgs9).trans s3, (HB11.out.cell (p := ⟨bx, 2, none⟩) hx9).trans p2, HB11.out⟩
                  clear hK K
                  (try simp only [Act.put, List.setIfInBounds_toArray, List.set_cons_zero, List.set_cons_succ])
                  refine wpAnyH_take (i := 14) (oi := ⟨some 148, _, _, _, _, _⟩) (v := ?_) rfl (by kernel_rfl) (by kernel_rfl) (by kernel_rfl) (fun _ _ _ h => h) (Or.inl ⟨by rfl, fun w' hSw => ?_⟩) (by assumption) ?_
                  rotate_left
                  · (try dsimp only at hSw); go_simp; (try with_reducible rfl)
                  (try simp only [Act.put, List.setIfInBounds_toArray, List.set_cons_zero, List.set_cons_succ])
                  refine wpAnyH_take (i := 15) (oi := ⟨some 163, _, _, _, _, _⟩) (v := ?_) rfl (by kernel_rfl) (by kernel_rfl) (by kernel_rfl) (fun _ _ _ h => h) (Or.inl ⟨by rfl, fun w' hSw => ?_⟩) (by assumption) ?_
                  rotate_left
                  · (try dsimp only at hSw); go_simp; (try with_reducible rfl)
                  (try simp only [Act.put, List.setIfInBounds_toArray, List.set_cons_zero, List.set_cons_succ])
                  refine wpAnyH_take (i := 16) (oi := ⟨some 164, _, _, _, _, _⟩) (v := ?_) rfl (by kernel_rfl) (by kernel_rfl) (by kernel_rfl) (fun _ _ _ h => h) (Or.inl ⟨by rfl, fun w' hSw => ?_⟩) (by assumption) ?_
                  rotate_left
                  · (try dsimp only at hSw); go_simp; (try with_reducible rfl)
                  (try simp only [Act.put, List.setIfInBounds_toArray, List.set_cons_zero, List.set_cons_succ])
                  refine wpAnyH_take (i := 17) (oi := ⟨some 165, _, _, _, _, _⟩) (v := ?_) rfl (by kernel_rfl) (by kernel_rfl) (by kernel_rfl) (fun _ _ _ h => h) (Or.inl ⟨by rfl, fun w' hSw => ?_⟩) (by assumption) ?_
                  rotate_left
                  · (try dsimp only at hSw); go_simp; (try with_reducible rfl)
                  (try simp only [Act.put, List.setIfInBounds_toArray, List.set_cons_zero, List.set_cons_succ])
                  refine wpAnyH_take (i := 18) (oi := ⟨some 14, _, _, _, _, _⟩) (v := ?_) rfl (by kernel_rfl) (by kernel_rfl) (by kernel_rfl) (fun _ _ _ h => h) (Or.inl ⟨by rfl, fun w' hSw => ?_⟩) (by assumption) ?_
                  rotate_left
                  · (try dsimp only at hSw); go_simp; (try with_reducible rfl)
                  (try simp only [Act.put, List.setIfInBounds_toArray, List.set_cons_zero, List.set_cons_succ])
                  refine wpAnyH_take (i := 19) (oi := ⟨some 15, _, _, _, _, _⟩) (v := ?_) rfl (by kernel_rfl) (by kernel_rfl) (by kernel_rfl) (fun _ _ _ h => h) (Or.inl ⟨by rfl, fun w' hSw => ?_⟩) (by assumption) ?_
                  rotate_left
                  · (try dsimp only at hSw); go_simp; (try with_reducible rfl)
                  (try simp only [Act.put, List.setIfInBounds_toArray, List.set_cons_zero, List.set_cons_succ])
                  refine wpAnyH_take (i := 20) (oi := ⟨some 16, _, _, _, _, _⟩) (v := ?_) rfl (by kernel_rfl) (by kernel_rfl) (by kernel_rfl) (fun _ _ _ h => h) (Or.inl ⟨by rfl, fun w' hSw => ?_⟩) (by assumption) ?_
                  rotate_left
                  · (try dsimp only at hSw); go_simp; (try with_reducible rfl)
                  (try simp only [Act.put, List.setIfInBounds_toArray, List.set_cons_zero, List.set_cons_succ])
                  refine wpAnyH_done (by kernel_rfl) ?_ _
                  have H3 := Lib.hid (H2.out.bel HB11.out)
                  have HX3 := Lib.hid (HX2.out.low HB11.out hx9)
                  have HB3 := Lib.hid (Mab.of (gm := gm) (gs := gs) HB11.out hbl9)
                  clear c1 c2 s2 s3 p0 p1 p2 p3 HNC hHeld
                  by_cases hcode : code = 0
                  · subst hcode
                    obtain ⟨A7, c7, rfl, -⟩ := HM11.out.slice
                    have HR : Hid (doP ts s x = putP ts ⟨s.sl, ce', s.rd ++ [val]⟩ v ⟨true, val, 0, 0⟩) := Lib.hid (by rw [HR0.out, if_neg (fun h => h rfl)])
                    have hsw := H3.out.lt.1
                    have hrl := hr
                    obtain ⟨-, -, m2, m3⟩ := H3.out.c
                    have hgm3 := H3.out.lt.2.1
                    obtain ⟨rd', hrd⟩ : ∃ rd', rd' = s.rd ++ [val] := ⟨_, rfl⟩
                    have HRD := Lib.hid hrd
                    rw [← hrd] at HR
                    clear hrd
                    go_wp2_with (at_builtin; go_must (refine wpList_push_int rfl (.tmp 176) (.tmp 178) rfl H3.out.rd hsw (by omega) val rfl rfl ?_); intro v' w' hP' hE'; (rw [← HRD.out] at hP'); (have HEV := Lib.hid ((Evo.alloc base 3 w11 _).trans hE')); (have HP := Lib.hid hP'); (obtain ⟨A8, c8, rfl, -⟩ := hP'.slice); (have HMR := Lib.hid (H3.out.mr.keepT HEV.out.kpt (by decide))); (have m2 := HMR.out.cell 2); (have m3 := HMR.out.cell 3); (have f2 := HMR.out.frozen 2); (have f3 := HMR.out.frozen 3); (simp only [List.getElem?_cons_zero, List.getElem?_cons_succ] at m2 m3); (have HNW := Lib.hid (H3.out.setCR HEV.out HM11.out HOK.out HP.out)); (have HX8 := Lib.hid (((HX3.out.keepT HEV.out.kpt (by decide)).keepT (KpT.set_ HMR.out 2 (.slice A7 ce'.length c7)) (by decide)).keepT (KpT.set_ (HMR.out.set_ 2 (.slice A7 ce'.length c7)) 3 (.slice A8 rd'.length c8)) (by decide))); (have y1 := HX8.out.cell 1); (simp only [List.getElem?_cons_zero, List.getElem?_cons_succ] at y1); (rw [HVE.out] at y1); clear hP' hE')
                    have HPUT := Lib.hid (put_any B base gm gs v ⟨true, val, 0, 0⟩ _ _ _ ts pts _ _ HNW.out.1 hvl h6)
                    refine HPUT.out.mono ?_
                    rintro e w' ⟨vc', vl', rfl, hm, hb⟩
                    go_wp2_with (at_builtin; fail)
                    go_ret
                    exact LIFT.out _ _ ⟨_, _, by rw [HR.out]; rfl, by rw [HR.out]; exact hm, (HB3.out.trans HNW.out.2).trans hb⟩
                  · have hcq : (code != 0) = true := by simpa using hcode
                    have HR : Hid (doP ts s x = (s, some (endP code))) := Lib.hid (by rw [HR0.out, if_pos hcode])
                    clear hcode
                    go_wp2_with (at_builtin; fail)
                    refine (endOf_any code _).mono ?_
                    rintro e w' ⟨rfl, rfl⟩
                    go_wp2_with (at_builtin; fail)
                    go_ret
                    exact LIFT.out _ _ ⟨_, _, by rw [HR.out]; rfl, by rw [HR.out]; exact H3.out, HB3.out⟩
                · have q6 : (x.op == 6) = false := by simpa using h6'
                  by_cases h7 : x.op = 7
                  · have q7 : (x.op == 7) = true := by simp [h7]
                    obtain ⟨v, hv, hvl⟩ := HPX.out (by omega)
                    obtain ⟨u, hu, hul⟩ := HPY.out (by omega)
                    obtain ⟨pc, hpc⟩ : ∃ pc, pc = (slAt s.sl v).pc := ⟨_, rfl⟩
                    obtain ⟨pt, hpt⟩ : ∃ pt, pt = (slAt s.sl v).pt := ⟨_, rfl⟩
                    obtain ⟨nu, hnu⟩ : ∃ nu, nu = (slAt s.sl u).num := ⟨_, rfl⟩
                    obtain ⟨ce', code, hl⟩ : ∃ ce' code, writeP s.ce pc pt nu = (ce', code) := ⟨_, _, rfl⟩
                    have HR0 : Hid (doP ts s x = (⟨s.sl, ce', s.rd⟩, endO code)) := Lib.hid (by
                      unfold doP
                      rw [HU.out, if_neg (by decide), if_neg h1, if_neg h2, if_neg h3, if_neg (fun h => h.elim h4 h5), if_neg h6', if_pos h7, hv, hu]
                      simp only [Int.toNat_natCast]
                      rw [← hpc, ← hpt, ← hnu, hl])
                    have HOK : Hid (okM ce') := Lib.hid (by have := H2.out.ok.ce.write pc pt nu; rw [hl] at this; exact this)
                    obtain ⟨-, c1, c2, -⟩ := H2.out.c
                    obtain ⟨-, -, s2, s3⟩ := H2.out.sl hvl
                    obtain ⟨-, s1, -, -⟩ := H2.out.sl hul
                    rw [← hpc] at s2
                    rw [← hpt] at s3
                    rw [← hnu] at s1
                    rw [hv] at p1
                    rw [hu] at p2
                    have hgm9 := H2.out.lt.2.1
                    have hgs9 := H2.out.lt.2.2
                    have HNC : Hid (∀ wz : World, Below w9.heap.size w9 wz → Calls Tryz.prog 100 #[vc, .agg #[.int .i64 (pc : Nat), .int .i64 (pt : Nat)], .int .i64 nu] wz fun e w' => ∃ v, e = .returned (.tuple #[v, .int .i64 code]) ∧ MeS w' base v ce' ∧ Below wz.heap.size wz w') := Lib.hid fun wz hw => (iWriteCell_any vc s.ce pc pt base nu wz (H2.out.ce.bel hw) H2.out.ok.ce).mono (by
                      rw [hl]
                      rintro e w' ⟨v, rfl, k1, k2⟩
                      exact ⟨v, rfl, k1.base (Nat.le_trans H2.out.lt.1 hw.size), k2⟩)
                    obtain ⟨Ac, cc, rfl, -⟩ := H2.out.ce.slice
                    clear h1 h2 h3 h4 h5 h6' h7 hv hu hpc hpt hnu hl
                    go_wp2_with (at_builtin; fail)
                    refine wp_region_held_drew (S := (fun w' => w'.cell? ⟨gm, 1, none⟩ = some (.slice (some ⟨gs, 0, none⟩) ts.length ts.length) ∧ w'.cell? ⟨gm, 2, none⟩ = some (.slice Ac s.ce.length cc) ∧ w'.cell? ⟨gs, v * 4 + 2, none⟩ = some (.int .i64 (pc : Nat)) ∧ w'.cell? ⟨gs, v * 4 + 3, none⟩ = some (.int .i64 (pt : Nat)) ∧ w'.cell? ⟨gs, u * 4 + 1, none⟩ = some (.int .i64 nu) ∧ w'.cell? ⟨bx, 1, none⟩ = some (.int .i64 (v : Nat)) ∧ w'.cell? ⟨bx, 2, none⟩ = some (.int .i64 (u : Nat)) ∧ Below w9.heap.size w9 w')) (by kernel_rfl) ?_ (fun hHeld => ?_)
                    · exact ⟨c1, c2, s2, s3, s1, p1, p2, (Below.refl _ _).drew⟩
                    refine wpAnyH_take (i := 0) (oi := ⟨some 193, _, _, _, _, _⟩) (v := ?_) rfl (by kernel_rfl) (by kernel_rfl) (by kernel_rfl) (fun _ _ _ h => h) (Or.inl ⟨by rfl, fun w' hSw => ?_⟩) (by assumption) ?_
                    rotate_left
                    · (try dsimp only at hSw); go_simp; (try with_reducible rfl)
                    (try simp only [Act.put, List.setIfInBounds_toArray, List.set_cons_zero, List.set_cons_succ])
                    refine wpAnyH_take (i := 1) (oi := ⟨some 194, _, _, _, _, _⟩) (v := ?_) rfl (by kernel_rfl) (by kernel_rfl) (by kernel_rfl) (fun _ _ _ h => h) (Or.inl ⟨by rfl, fun w' hSw => ?_⟩) (by assumption) ?_
                    rotate_left
                    · (try dsimp only at hSw); go_simp; (try with_reducible rfl)
                    (try simp only [Act.put, List.setIfInBounds_toArray, List.set_cons_zero, List.set_cons_succ])
                    refine wpAnyH_take (i := 2) (oi := ⟨some 195, _, _, _, _, _⟩) (v := ?_) rfl (by kernel_rfl) (by kernel_rfl) (by kernel_rfl) (fun _ _ _ h => h) (Or.inl ⟨by rfl, fun w' hSw => ?_⟩) (by assumption) ?_
                    rotate_left
                    · (try dsimp only at hSw); go_simp; (try with_reducible rfl)
                    (try simp only [Act.put, List.setIfInBounds_toArray, List.set_cons_zero, List.set_cons_succ])
                    refine wpAnyH_take (i := 3) (oi := ⟨some 196, _, _, _, _, _⟩) (v := ?_) rfl (by kernel_rfl) (by kernel_rfl) (by kernel_rfl) (fun _ _ _ h => h) (Or.inl ⟨by rfl, fun w' hSw => ?_⟩) (by assumption) ?_
                    rotate_left
                    · (try dsimp only at hSw); go_simp; (try with_reducible rfl)
                    (try simp only [Act.put, List.setIfInBounds_toArray, List.set_cons_zero, List.set_cons_succ])
                    refine wpAnyH_take (i := 4) (oi := ⟨some 197, _, _, _, _, _⟩) (v := ?_) rfl (by kernel_rfl) (by kernel_rfl) (by kernel_rfl) (fun _ _ _ h => h) (Or.inl ⟨by rfl, fun w' hSw => ?_⟩) (by assumption) ?_
                    rotate_left
                    · (try dsimp only at hSw); go_simp; (try with_reducible rfl)
                    (try simp only [Act.put, List.setIfInBounds_toArray, List.set_cons_zero, List.set_cons_succ])
                    refine wpAnyH_take (i := 5) (oi := ⟨some 198, _, _, _, _, _⟩) (v := ?_) rfl (by kernel_rfl) (by kernel_rfl) (by kernel_rfl) (fun _ _ _ h => h) (Or.inl ⟨by rfl, fun w' hSw => ?_⟩) (by assumption) ?_
                    rotate_left
                    · (try dsimp only at hSw); go_simp; (try with_reducible rfl)
                    (try simp only [Act.put, List.setIfInBounds_toArray, List.set_cons_zero, List.set_cons_succ])
                    refine wpAnyH_take (i := 6) (oi := ⟨some 199, _, _, _, _, _⟩) (v := ?_) rfl (by kernel_rfl) (by kernel_rfl) (by kernel_rfl) (fun _ _ _ h => h) (Or.inl ⟨by rfl, fun w' hSw => ?_⟩) (by assumption) ?_
                    rotate_left
                    · (try dsimp only at hSw); go_simp; (try with_reducible rfl)
                    (try simp only [Act.put, List.setIfInBounds_toArray, List.set_cons_zero, List.set_cons_succ])
                    refine wpAnyH_take (i := 7) (oi := ⟨some 200, _, _, _, _, _⟩) (v := ?_) rfl (by kernel_rfl) (by kernel_rfl) (by kernel_rfl) (fun _ _ _ h => h) (Or.inl ⟨by rfl, fun w' hSw => ?_⟩) (by assumption) ?_
                    rotate_left
                    · (try dsimp only at hSw); go_simp; (try with_reducible rfl)
                    (try simp only [Act.put, List.setIfInBounds_toArray, List.set_cons_zero, List.set_cons_succ])
                    refine wpAnyH_take (i := 8) (oi := ⟨some 201, _, _, _, _, _⟩) (v := ?_) rfl (by kernel_rfl) (by kernel_rfl) (by kernel_rfl) (fun _ _ _ h => h) (Or.inl ⟨by rfl, fun w' hSw => ?_⟩) (by assumption) ?_
                    rotate_left
                    · (try dsimp only at hSw); go_simp; (try with_reducible rfl)
                    (try simp only [Act.put, List.setIfInBounds_toArray, List.set_cons_zero, List.set_cons_succ])
                    refine wpAnyH_take (i := 9) (oi := ⟨some 202, _, _, _, _, _⟩) (v := ?_) rfl (by kernel_rfl) (by kernel_rfl) (by kernel_rfl) (fun _ _ _ h => h) (Or.inl ⟨by rfl, fun w' hSw => ?_⟩) (by assumption) ?_
                    rotate_left
                    · (try dsimp only at hSw); go_simp; (try with_reducible rfl)
                    (try simp only [Act.put, List.setIfInBounds_toArray, List.set_cons_zero, List.set_cons_succ])
                    refine wpAnyH_take (i := 10) (oi := ⟨some 203, _, _, _, _, _⟩) (v := ?_) rfl (by kernel_rfl) (by kernel_rfl) (by kernel_rfl) (fun _ _ _ h => h) (Or.inl ⟨by rfl, fun w' hSw => ?_⟩) (by assumption) ?_
                    rotate_left
                    · (try dsimp only at hSw); go_simp; (try with_reducible rfl)
                    (try simp only [Act.put, List.setIfInBounds_toArray, List.set_cons_zero, List.set_cons_succ])
                    refine wpAnyH_take (i := 11) (oi := ⟨some 204, _, _, _, _, _⟩) (v := ?_) rfl (by kernel_rfl) (by kernel_rfl) (by kernel_rfl) (fun _ _ _ h => h) (Or.inl ⟨by rfl, fun w' hSw => ?_⟩) (by assumption) ?_
                    rotate_left
                    · (try dsimp only at hSw); go_simp; (try with_reducible rfl)
                    (try simp only [Act.put, List.setIfInBounds_toArray, List.set_cons_zero, List.set_cons_succ])
                    refine wpAnyH_take (i := 12) (oi := ⟨some 205, _, _, _, _, _⟩) (v := ?_) rfl (by kernel_rfl) (by kernel_rfl) (by kernel_rfl) (fun _ _ _ h => h) (Or.inl ⟨by rfl, fun w' hSw => ?_⟩) (by assumption) ?_
                    rotate_left
                    · (try dsimp only at hSw); go_simp; (try with_reducible rfl)
                    (try simp only [Act.put, List.setIfInBounds_toArray, List.set_cons_zero, List.set_cons_succ])
                    refine wpAnyH_take (i := 13) (oi := ⟨some 206, _, _, _, _, _⟩) (v := ?_) rfl (by kernel_rfl) (by kernel_rfl) (by kernel_rfl) (fun _ _ _ h => h) (Or.inl ⟨by rfl, fun w' hSw => ?_⟩) (by assumption) ?_
                    rotate_left
                    · (try dsimp only at hSw); go_simp; (try with_reducible rfl)
                    (try simp only [Act.put, List.setIfInBounds_toArray, List.set_cons_zero, List.set_cons_succ])
                    refine wpAnyH_take (i := 14) (oi := ⟨some 207, _, _, _, _, _⟩) (v := ?_) rfl (by kernel_rfl) (by kernel_rfl) (by kernel_rfl) (fun _ _ _ h => h) (Or.inl ⟨by rfl, fun w' hSw => ?_⟩) (by assumption) ?_
                    rotate_left
                    · (try dsimp only at hSw); go_simp; (try with_reducible rfl)
                    (try simp only [Act.put, List.setIfInBounds_toArray, List.set_cons_zero, List.set_cons_succ])
                    refine wpAnyH_take (i := 15) (oi := ⟨some 208, _, _, _, _, _⟩) (v := ?_) rfl (by kernel_rfl) (by kernel_rfl) (by kernel_rfl) (fun _ _ _ h => h) (Or.inl ⟨by rfl, fun w' hSw => ?_⟩) (by assumption) ?_
                    rotate_left
                    · (try dsimp only at hSw); go_simp; (try with_reducible rfl)
                    (try simp only [Act.put, List.setIfInBounds_toArray, List.set_cons_zero, List.set_cons_succ])
                    refine wpAnyH_take (i := 16) (oi := ⟨some 209, _, _, _, _, _⟩) (v := ?_) rfl (by kernel_rfl) (by kernel_rfl) (by kernel_rfl) (fun _ _ _ h => h) (Or.inl ⟨by rfl, fun w' hSw => ?_⟩) (by assumption) ?_
                    rotate_left
                    · (try dsimp only at hSw); go_simp; (try with_reducible rfl)
                    (try simp only [Act.put, List.setIfInBounds_toArray, List.set_cons_zero, List.set_cons_succ])
                    refine wpAnyH_take (i := 17) (oi := ⟨some 210, _, _, _, _, _⟩) (v := ?_) rfl (by kernel_rfl) (by kernel_rfl) (by kernel_rfl) (fun _ _ _ h => h) (Or.inl ⟨by rfl, fun w' hSw => ?_⟩) (by assumption) ?_
                    rotate_left
                    · (try dsimp only at hSw); go_simp; (try with_reducible rfl)
                    (try simp only [Act.put, List.setIfInBounds_toArray, List.set_cons_zero, List.set_cons_succ])
                    refine wpAnyH_take (i := 18) (oi := ⟨some 211, _, _, _, _, _⟩) (v := ?_) rfl (by kernel_rfl) (by kernel_rfl) (by kernel_rfl) (fun _ _ _ h => h) (Or.inl ⟨by rfl, fun w' hSw => ?_⟩) (by assumption) ?_
                    rotate_left
                    · (try dsimp only at hSw); go_simp; (try with_reducible rfl)
                    (try simp only [Act.put, List.setIfInBounds_toArray, List.set_cons_zero, List.set_cons_succ])
                    refine wpAnyH_take (i := 19) (oi := ⟨some 212, _, _, _, _, _⟩) (v := ?_) rfl (by kernel_rfl) (by kernel_rfl) (by kernel_rfl) (fun _ _ _ h => h) (Or.inl ⟨by rfl, fun w' hSw => ?_⟩) (by assumption) ?_
                    rotate_left
                    · (try dsimp only at hSw); go_simp; (try with_reducible rfl)
                    (try simp only [Act.put, List.setIfInBounds_toArray, List.set_cons_zero, List.set_cons_succ])
                    refine wpAnyH_take (i := 20) (oi := ⟨some 213, _, _, _, _, _⟩) (v := ?_) rfl (by kernel_rfl) (by kernel_rfl) (by kernel_rfl) (fun _ _ _ h => h) (Or.inl ⟨by rfl, fun w' hSw => ?_⟩) (by assumption) ?_
                    rotate_left
                    · (try dsimp only at hSw); go_simp; (try with_reducible rfl)
                    (try simp only [Act.put, List.setIfInBounds_toArray, List.set_cons_zero, List.set_cons_succ])
                    refine wpAnyH_take (i := 21) (oi := ⟨some 214, _, _, _, _, _⟩) (v := ?_) rfl (by kernel_rfl) (by kernel_rfl) (by kernel_rfl) (fun _ _ _ h => h) (Or.inl ⟨by rfl, fun w' hSw => ?_⟩) (by assumption) ?_
                    rotate_left
                    · (try dsimp only at hSw); go_simp; (try with_reducible rfl)
                    (try simp only [Act.put, List.setIfInBounds_toArray, List.set_cons_zero, List.set_cons_succ])
                    refine wpAnyH_ready (rs := [22]) (by kernel_rfl) (by simp) ?_
                    refine AllReadyH.cons (o := ⟨some 215, _, _, _, _, _⟩) rfl (fun K hK => ?_) AllReadyH.nil
                    go_simp
                    (refine (HNC.out _ (Below.refl w9.heap.size w9).drew).mono ?_)
                    (rintro e w11 ⟨v11, rfl, hm11, hb11⟩)
                    (have HB11 := Lib.hid ((Below.refl w9.heap.size w9).drew.trans hb11))
                    (have HM11 := Lib.hid hm11)
                    clear hm11 hb11
                    go_simp
                    refine hK.out _ _ ?_ (fun hHeld => ?_)
                    · exact ⟨(HB11.out.cell (p := ⟨gm, 1, none⟩) hgm9).trans c1, (HB11.out.cell (p := ⟨gm, 2, none⟩) hgm9).trans c2, (HB11.out.cell (p := ⟨gs, v * 4 + 2, none⟩) hgs9).trans s2, (HB11.out.cell (p := ⟨gs, v * 4 + 3, none⟩) hgs9).trans s3, (HB11.out.cell (p := ⟨gs, u * 4 + 1, none⟩) hgs9).trans s1, (HB11.out.cell (p := ⟨bx, 1, none⟩) hx9).trans p1, (HB11.out.cell (p := ⟨bx, 2, none⟩) hx9).trans p2, HB11.out⟩
                    clear hK K
                    (try simp only [Act.put, List.setIfInBounds_toArray, List.set_cons_zero, List.set_cons_succ])
                    refine wpAnyH_take (i := 23) (oi := ⟨some 192, _, _, _, _, _⟩) (v := ?_) rfl (by kernel_rfl) (by kernel_rfl) (by kernel_rfl) (fun _ _ _ h => h) (Or.inl ⟨by rfl, fun w' hSw => ?_⟩) (by assumption) ?_
                    rotate_left
                    · (try dsimp only at hSw); go_simp; (try with_reducible rfl)
                    (try simp only [Act.put, List.setIfInBounds_toArray, List.set_cons_zero, List.set_cons_succ])
                    refine wpAnyH_take (i := 24) (oi := ⟨some 216, _, _, _, _, _⟩) (v := ?_) rfl (by kernel_rfl) (by kernel_rfl) (by kernel_rfl) (fun _ _ _ h => h) (Or.inl ⟨by rfl, fun w' hSw => ?_⟩) (by assumption) ?_
                    rotate_left
                    · (try dsimp only at hSw); go_simp; (try with_reducible rfl)
                    (try simp only [Act.put, List.setIfInBounds_toArray, List.set_cons_zero, List.set_cons_succ])
                    refine wpAnyH_take (i := 25) (oi := ⟨some 217, _, _, _, _, _⟩) (v := ?_) rfl (by kernel_rfl) (by kernel_rfl) (by kernel_rfl) (fun _ _ _ h => h) (Or.inl ⟨by rfl, fun w' hSw => ?_⟩) (by assumption) ?_
                    rotate_left
                    · (try dsimp only at hSw); go_simp; (try with_reducible rfl)
                    (try simp only [Act.put, List.setIfInBounds_toArray, List.set_cons_zero, List.set_cons_succ])
                    refine wpAnyH_take (i := 26) (oi := ⟨some 17, _, _, _, _, _⟩) (v := ?_) rfl (by kernel_rfl) (by kernel_rfl) (by kernel_rfl) (fun _ _ _ h => h) (Or.inl ⟨by rfl, fun w' hSw => ?_⟩) (by assumption) ?_
                    rotate_left
                    · (try dsimp only at hSw); go_simp; (try with_reducible rfl)
                    (try simp only [Act.put, List.setIfInBounds_toArray, List.set_cons_zero, List.set_cons_succ])
                    refine wpAnyH_take (i := 27) (oi := ⟨some 18, _, _, _, _, _⟩) (v := ?_) rfl (by kernel_rfl) (by kernel_rfl) (by kernel_rfl) (fun _ _ _ h => h) (Or.inl ⟨by rfl, fun w' hSw => ?_⟩) (by assumption) ?_
                    rotate_left
                    · (try dsimp only at hSw); go_simp; (try with_reducible rfl)
                    (try simp only [Act.put, List.setIfInBounds_toArray, List.set_cons_zero, List.set_cons_succ])
                    refine wpAnyH_done (by kernel_rfl) ?_ _
                    have H3 := Lib.hid (H2.out.bel HB11.out)
                    have HB3 := Lib.hid (Mab.of (gm := gm) (gs := gs) HB11.out hbl9)
                    clear c1 c2 s1 s2 s3 p0 p1 p2 p3 HNC hHeld
                    obtain ⟨A7, c7, rfl, -⟩ := HM11.out.slice
                    obtain ⟨-, -, m2, -⟩ := H3.out.c
                    have f2 := H3.out.mf 2
                    have HNW := Lib.hid (H3.out.setCe HM11.out HOK.out)
                    by_cases hcode : code = 0
                    · subst hcode
                      go_wp2_with (at_builtin; fail)
                      go_ret
                      exact LIFT.out _ _ ⟨_, _, by rw [HR0.out]; rfl, by rw [HR0.out]; exact HNW.out.1, HB3.out.trans HNW.out.2⟩
                    · have hcq : (code != 0) = true := by simpa using hcode
                      have HEO : Hid (endV (endO code) = endP code) := Lib.hid (by unfold endO; rw [if_neg hcode]; rfl)
                      clear hcode
                      go_wp2_with (at_builtin; fail)
                      refine (endOf_any code _).mono ?_
                      rintro e w' ⟨rfl, rfl⟩
                      go_wp2_with (at_builtin; fail)
                      go_ret
                      exact LIFT.out _ _ ⟨_, _, by rw [HR0.out, HEO.out]; rfl, by rw [HR0.out]; exact HNW.out.1, HB3.out.trans HNW.out.2⟩
                  · have q7 : (x.op == 7) = false := by simpa using h7
                    by_cases h8 : x.op = 8
                    · have q8 : (x.op == 8) = true := by simp [h8]
                      obtain ⟨u, hu, hul⟩ := HPX.out (by omega)
                      obtain ⟨ce', code, hl⟩ : ∃ ce' code, freeP s.ce (slAt s.sl u).pc (slAt s.sl u).pt = (ce', code) := ⟨_, _, rfl⟩
                      have HR : Hid (doP ts s x = (⟨s.sl.set u slD, ce', s.rd⟩, endO code)) := Lib.hid (by
                        unfold doP
                        rw [HU.out, if_neg (by decide), if_neg h1, if_neg h2, if_neg h3, if_neg (fun h => h.elim h4 h5), if_neg h6', if_neg h7, if_pos h8, hu]
                        simp only [Int.toNat_natCast]
                        rw [hl])
                      have HVE := Lib.hid hu
                      have HFR := Lib.hid (free_any B base gm gs u _ vc vl ts pts s w9 H2.out hul h6)
                      rw [hl] at HFR
                      rw [hu] at p1
                      clear h1 h2 h3 h4 h5 h6' h7 h8 hu hl
                      go_wp2_with (at_builtin; fail)
                      refine HFR.out.mono ?_
                      rintro e w8 ⟨vc2, rfl, hm2, hb2, ho2⟩
                      have H4 := Lib.hid hm2
                      have HB4 := Lib.hid hb2
                      have HX4 : Hid (RowB w8 bx 94 [.int .i64 x.op, .int .i64 x.x, .int .i64 x.y, .int .i64 x.n, .slice An x.next.length cn]) := Lib.hid ((ho2 bx hx9 (by have := HNE.out; omega)).trans HX2.out)
                      clear hm2 hb2 ho2 HFR p0 p1 p2 p3
                      have y1 := HX4.out.cell 1
                      simp only [List.getElem?_cons_zero, List.getElem?_cons_succ] at y1
                      rw [HVE.out] at y1
                      have hxl := HX4.out.lt
                      have hsl4 := H4.out.lt.2.2
                      obtain ⟨-, c1, -, -⟩ := H4.out.c
                      obtain ⟨u0, u1, u2, u3⟩ := H4.out.sl hul
                      have f0 := H4.out.sf (u * 4)
                      have f1 := H4.out.sf (u * 4 + 1)
                      have f2 := H4.out.sf (u * 4 + 2)
                      have f3 := H4.out.sf (u * 4 + 3)
                      have HF10 : Hid (MaS (w8.drew.setCells gs (u * 4) [.bool false, .int .i64 0, .int .i64 0, .int .i64 0]) B base gm gs (.pointer (some ⟨gg, 0, none⟩)) vc2 vl ts pts ⟨s.sl.set u slD, ce', s.rd⟩ ∧ Mab base gm gs w8 (w8.drew.setCells gs (u * 4) [.bool false, .int .i64 0, .int .i64 0, .int .i64 0])) := Lib.hid (by
                        have h1 := MaS.setSl (show MaS w8.drew B base gm gs _ _ _ ts pts _ from H4.out.bel (Below.refl w8.heap.size w8).drew) hul slD
                        exact ⟨h1.1, (Mab.refl base gm gs w8).drew.trans h1.2⟩)
                      go_wp2_with (at_builtin; fail)
                      go_region_law (fail)
                      all_goals
                        rw [drew4]
                        generalize (w8.drew.setCells gs (u * 4) [.bool false, .int .i64 0, .int .i64 0, .int .i64 0]) = w10 at HF10 ⊢
                        go_wp2_with (at_builtin; fail)
                        go_ret
                        exact LIFT.out _ _ ⟨_, _, by rw [HR.out]; rfl, by rw [HR.out]; exact HF10.out.1, HB4.out.trans HF10.out.2⟩
                    · have q8 : (x.op == 8) = false := by simpa using h8
                      by_cases h11 : x.op = 11
                      · have q11 : (x.op == 11) = true := by simp [h11]
                        have HR : Hid (doP ts s x = ((finP ts ts.length 0 s).1, some (finP ts ts.length 0 s).2)) := Lib.hid (doP_end h11)
                        have HFI := Lib.hid (finish_any B base gm gs _ vc vl ts pts s w9 H2.out h6)
                        clear h1 h2 h3 h4 h5 h6' h7 h8 h11
                        go_wp2_with (at_builtin; fail)
                        refine HFI.out.mono ?_
                        rintro e w' ⟨vc', vl', rfl, hm, hb⟩
                        go_wp2_with (at_builtin; fail)
                        go_ret
                        exact LIFT.out _ _ ⟨_, _, by rw [HR.out]; rfl, by rw [HR.out]; exact hm, hb⟩
                      · have q11 : (x.op == 11) = false := by simpa using h11
                        have HR : Hid (doP ts s x = (s, none)) := Lib.hid (by unfold doP; rw [HU.out, if_neg (by decide), if_neg h1, if_neg h2, if_neg h3, if_neg (fun h => h.elim h4 h5), if_neg h6', if_neg h7, if_neg h8, if_neg h11])
                        clear h1 h2 h3 h4 h5 h6' h7 h8 h11
                        go_wp2_with (at_builtin; fail)
                        go_ret
                        exact LIFT.out _ _ ⟨_, _, by rw [HR.out]; rfl, by rw [HR.out]; exact H2.out, Mab.refl _ _ _ _⟩

end Go.Proofs.YtfioaohadanjmaaGreat
