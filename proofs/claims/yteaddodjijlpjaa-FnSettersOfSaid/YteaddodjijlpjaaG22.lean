import Derived.Test.YteaddodjijlpjaaG21
set_option linter.unusedVariables false

/- l1One. -/
namespace Go.Proofs.Yteaddodjijlpjaa
open Go.RowKit

theorem box6 {w : World} {b : Nat} {t : TypeId} {v0 v1 v2 v3 v4 v5 : Value} (h : w.heap[b]? = some (.cells #[v0, v1, v2, v3, v4, v5] t (0, 0))) (u0 u1 u2 u3 u4 u5 : Value) :
    ((((((w.setCell ⟨b, 0, none⟩ u0).setCell ⟨b, 1, none⟩ u1).setCell ⟨b, 2, none⟩ u2).setCell ⟨b, 3, none⟩ u3).setCell ⟨b, 4, none⟩ u4).setCell ⟨b, 5, none⟩ u5).heap[b]? = some (.cells #[u0, u1, u2, u3, u4, u5] t (0, 0)) ∧
    w.grownBy ((((((w.setCell ⟨b, 0, none⟩ u0).setCell ⟨b, 1, none⟩ u1).setCell ⟨b, 2, none⟩ u2).setCell ⟨b, 3, none⟩ u3).setCell ⟨b, 4, none⟩ u4).setCell ⟨b, 5, none⟩ u5) (some b) := by
  have h0 := heap_setCell_same w b 0 _ _ u0 h
  have h1 := heap_setCell_same _ b 1 _ _ u1 h0
  have h2 := heap_setCell_same _ b 2 _ _ u2 h1
  have h3 := heap_setCell_same _ b 3 _ _ u3 h2
  have h4 := heap_setCell_same _ b 4 _ _ u4 h3
  have h5 := heap_setCell_same _ b 5 _ _ u5 h4
  exact ⟨by simpa using h5, grown_tr (grown_tr (grown_tr (grown_tr (grown_tr (grown_set _ _ _ _) (grown_set _ _ _ _)) (grown_set _ _ _ _)) (grown_set _ _ _ _)) (grown_set _ _ _ _)) (grown_set _ _ _ _)⟩
theorem one_close {w w3 W : World} {o : Obj} {g p K S q : Nat} {op x y n : Int} {tv ev : Value} {th el : List St} (hW : w3.grownBy W (some w.heap.size)) (hg : (w.alloc o).grownBy w3 (some g)) (hlt : g < w.heap.size) (hd : Dr w3 g q)
    (hT : StX w3 (fun b => w.heap.size + 1 ≤ b) tv th) (hE : StX w3 (fun b => w.heap.size + 1 ≤ b) ev el) (hS : 1 + szL th + szL el ≤ S) (hq : q ≤ p + K) :
    OneRet w g p K S (.returned (.agg #[.int .i64 op, .int .i64 x, .int .i64 y, .int .i64 n, tv, ev])) W := by
  have hs := hg.size
  simp at hs
  have hk : ∀ b, w.heap.size + 1 ≤ b → b < w3.heap.size → w.heap.size ≤ b ∧ W.heap[b]? = w3.heap[b]? := fun b hb hl => ⟨by omega, hW.block b hl (fun e => by injection e with e; omega)⟩
  have hbl : Below w.heap.size w3 W := ⟨hW.os, hW.tape, hW.output, hW.size, fun k hk => hW.block k (by omega) (fun e => by injection e with e; omega)⟩
  refine ⟨op, x, y, n, tv, ev, th, el, q, rfl, hT.frame hW.size hk, hE.frame hW.size hk, hS, hq, hd.low hbl hlt, ?_⟩
  exact grown_base (grown_tr (grown_bel (bel_a w o) (Nat.le_refl _) _) hg) hbl

set_option maxHeartbeats 8000000 in
set_option maxRecDepth 100000 in
theorem oneOk_zero : OneOk 0 := by
  intro g p vt w hd hp
  have hg := hd.lt
  have hpp : p + 6 ≤ 1000000 := hp
  have HD := Lib.hid (hd.low (bel_a w (.cells #[.int .i64 0, .int .i64 0, .int .i64 0, .int .i64 0, .slice none 0 0, .slice none 0 0] 127)) hg)
  clear hd hp
  go_enter Try.func139, Try.ntmps139
  go_wp2_with fail
  refine (pick_any g p _ _ HD.out (by omega) (by omega) (by omega)).mono ?_
  rintro e w1 ⟨bx, rfl, k0, k1, hd1, hg1⟩
  have k2 := k1 (by omega)
  clear k1
  have HD1 := Lib.hid hd1
  have HG1 := Lib.hid hg1
  have hs1 := hg1.size
  clear hd1 hg1
  go_wp2_with fail
  refine (num_any g (p + 1) _ [1, 2, 1, 4, 5] 3 _ (HD1.out.low (bel_a _ _) HD1.out.lt) (by omega) (RowB.new _ _ _) (by have := HD1.out.lt; omega) (by simp) (by simp)).mono ?_
  rintro e w2 ⟨ow, rfl, -, hd2, hg2⟩
  have HD2 := Lib.hid hd2
  have HG2 := Lib.hid (grown_tr HG1.out (grown_tr (grown_bel (bel_a w1 _) (Nat.le_refl _) _) hg2))
  clear hd2 hg2
  go_wp2_with fail
  refine (pick_any g (p + 1 + 1) _ _ HD2.out (by omega) (by omega) (by omega)).mono ?_
  rintro e w3 ⟨k, rfl, m0, m1, hd3, hg3⟩
  have m2 := m1 (by omega)
  have HD3 := Lib.hid hd3
  have HG3 := Lib.hid (grown_tr HG2.out hg3)
  clear m1 hd3 hg3
  have hrow : w3.heap[w.heap.size]? = some (.cells #[.int .i64 0, .int .i64 0, .int .i64 0, .int .i64 0, .slice none 0 0, .slice none 0 0] 127 (0, 0)) := by
    rw [(HG3.out).block _ (by simp) (fun e => by injection e with e; omega)]; exact heap_alloc_new w _
  have HROW := Lib.hid hrow
  have hsz := (HG3.out).size
  simp at hsz
  have fr : ∀ i, w3.frozen? ⟨w.heap.size, i, none⟩ = false := fun i => frozen_of_row w3 _ i _ _ hrow
  have c0 : ∀ i, w3.cell? ⟨w.heap.size, i, none⟩ = (#[.int .i64 0, .int .i64 0, .int .i64 0, .int .i64 0, .slice none 0 0, .slice none 0 0] : Array Value)[i]? := fun i => cell_of_row _ _ _ _ _ _ hrow
  have c00 := c0 0
  have c01 := c0 1
  have c02 := c0 2
  have c03 := c0 3
  have c04 := c0 4
  have c05 := c0 5
  have fr0 := fr 0
  have fr1 := fr 1
  have fr2 := fr 2
  have fr3 := fr 3
  have fr4 := fr 4
  have fr5 := fr 5
  simp at c00 c01 c02 c03 c04 c05
  clear hrow c0 fr
  have hk : k = 0 ∨ k = 1 ∨ k = 2 ∨ k = 3 ∨ k = 4 ∨ k = 5 ∨ k = 6 ∨ k = 7 ∨ k = 8 ∨ k = 9 ∨ k = 10 := by omega
  clear m0 m2
  rcases hk with rfl | rfl | rfl | rfl | rfl | rfl | rfl | rfl | rfl | rfl | rfl
  · go_wp2_with fail
    refine (pick_any g (p + 1 + 1 + 1) _ _ HD3.out (by omega) (by omega) (by omega)).mono ?_
    rintro e w4 ⟨nn, rfl, -, -, hd4, hg4⟩
    have HD4 := Lib.hid hd4
    have HG4 := Lib.hid (grown_tr HG3.out hg4)
    clear hd4 hg4 c00 c01 c02 c03 c04 c05 fr0 fr1 fr2 fr3 fr4 fr5 HROW
    have hrow : w4.heap[w.heap.size]? = some (.cells #[.int .i64 0, .int .i64 0, .int .i64 0, .int .i64 0, .slice none 0 0, .slice none 0 0] 127 (0, 0)) := by
      rw [(HG4.out).block _ (by simp) (fun e => by injection e with e; omega)]; exact heap_alloc_new w _
    have HROW := Lib.hid hrow
    have hsz := (HG4.out).size
    simp at hsz
    have fr : ∀ i, w4.frozen? ⟨w.heap.size, i, none⟩ = false := fun i => frozen_of_row w4 _ i _ _ hrow
    have c0 : ∀ i, w4.cell? ⟨w.heap.size, i, none⟩ = (#[.int .i64 0, .int .i64 0, .int .i64 0, .int .i64 0, .slice none 0 0, .slice none 0 0] : Array Value)[i]? := fun i => cell_of_row _ _ _ _ _ _ hrow
    have c00 := c0 0
    have c01 := c0 1
    have c02 := c0 2
    have c03 := c0 3
    have c04 := c0 4
    have c05 := c0 5
    have fr0 := fr 0
    have fr1 := fr 1
    have fr2 := fr 2
    have fr3 := fr 3
    have fr4 := fr 4
    have fr5 := fr 5
    simp at c00 c01 c02 c03 c04 c05
    clear hrow c0 fr
    go_wp2_with fail
    refine bodyPost_ret (results_cell_row rfl _ _ w.heap.size 127 _ (0, 0) _ rfl (box6 HROW.out _ _ _ _ _ _).1 Try.underlying127 rfl rfl) rfl (one_close (box6 HROW.out _ _ _ _ _ _).2 HG4.out hg HD4.out (StX.nil _ _) (StX.nil _ _) (by simp [szL, ss]) (by simp [kk] <;> omega))
  · go_wp2_with fail
    refine (pick_any g (p + 1 + 1 + 1) _ _ HD3.out (by omega) (by omega) (by omega)).mono ?_
    rintro e w4 ⟨nn, rfl, -, -, hd4, hg4⟩
    have HD4 := Lib.hid hd4
    have HG4 := Lib.hid (grown_tr HG3.out hg4)
    clear hd4 hg4 c00 c01 c02 c03 c04 c05 fr0 fr1 fr2 fr3 fr4 fr5 HROW
    have hrow : w4.heap[w.heap.size]? = some (.cells #[.int .i64 0, .int .i64 0, .int .i64 0, .int .i64 0, .slice none 0 0, .slice none 0 0] 127 (0, 0)) := by
      rw [(HG4.out).block _ (by simp) (fun e => by injection e with e; omega)]; exact heap_alloc_new w _
    have HROW := Lib.hid hrow
    have hsz := (HG4.out).size
    simp at hsz
    have fr : ∀ i, w4.frozen? ⟨w.heap.size, i, none⟩ = false := fun i => frozen_of_row w4 _ i _ _ hrow
    have c0 : ∀ i, w4.cell? ⟨w.heap.size, i, none⟩ = (#[.int .i64 0, .int .i64 0, .int .i64 0, .int .i64 0, .slice none 0 0, .slice none 0 0] : Array Value)[i]? := fun i => cell_of_row _ _ _ _ _ _ hrow
    have c00 := c0 0
    have c01 := c0 1
    have c02 := c0 2
    have c03 := c0 3
    have c04 := c0 4
    have c05 := c0 5
    have fr0 := fr 0
    have fr1 := fr 1
    have fr2 := fr 2
    have fr3 := fr 3
    have fr4 := fr 4
    have fr5 := fr 5
    simp at c00 c01 c02 c03 c04 c05
    clear hrow c0 fr
    go_wp2_with fail
    refine bodyPost_ret (results_cell_row rfl _ _ w.heap.size 127 _ (0, 0) _ rfl (box6 HROW.out _ _ _ _ _ _).1 Try.underlying127 rfl rfl) rfl (one_close (box6 HROW.out _ _ _ _ _ _).2 HG4.out hg HD4.out (StX.nil _ _) (StX.nil _ _) (by simp [szL, ss]) (by simp [kk] <;> omega))
  · go_wp2_with fail
    refine bodyPost_ret (results_cell_row rfl _ _ w.heap.size 127 _ (0, 0) _ rfl (box6 HROW.out _ _ _ _ _ _).1 Try.underlying127 rfl rfl) rfl (one_close (box6 HROW.out _ _ _ _ _ _).2 HG3.out hg HD3.out (StX.nil _ _) (StX.nil _ _) (by simp [szL, ss]) (by simp [kk] <;> omega))
  · go_wp2_with fail
    refine bodyPost_ret (results_cell_row rfl _ _ w.heap.size 127 _ (0, 0) _ rfl (box6 HROW.out _ _ _ _ _ _).1 Try.underlying127 rfl rfl) rfl (one_close (box6 HROW.out _ _ _ _ _ _).2 HG3.out hg HD3.out (StX.nil _ _) (StX.nil _ _) (by simp [szL, ss]) (by simp [kk] <;> omega))
  · go_wp2_with fail
    refine (num_any g (p + 1 + 1 + 1) _ [1, 2, 1, 5] 3 _ (HD3.out.low (bel_a _ _) HD3.out.lt) (by omega) (RowB.new _ _ _) (by have := HD3.out.lt; omega) (by simp) (by simp)).mono ?_
    rintro e w4 ⟨nn, rfl, -, hd4, hg4⟩
    have HD4 := Lib.hid hd4
    have HG4 := Lib.hid (grown_tr HG3.out (grown_tr (grown_bel (bel_a w3 _) (Nat.le_refl _) _) hg4))
    clear hd4 hg4 c00 c01 c02 c03 c04 c05 fr0 fr1 fr2 fr3 fr4 fr5 HROW
    have hrow : w4.heap[w.heap.size]? = some (.cells #[.int .i64 0, .int .i64 0, .int .i64 0, .int .i64 0, .slice none 0 0, .slice none 0 0] 127 (0, 0)) := by
      rw [(HG4.out).block _ (by simp) (fun e => by injection e with e; omega)]; exact heap_alloc_new w _
    have HROW := Lib.hid hrow
    have hsz := (HG4.out).size
    simp at hsz
    have fr : ∀ i, w4.frozen? ⟨w.heap.size, i, none⟩ = false := fun i => frozen_of_row w4 _ i _ _ hrow
    have c0 : ∀ i, w4.cell? ⟨w.heap.size, i, none⟩ = (#[.int .i64 0, .int .i64 0, .int .i64 0, .int .i64 0, .slice none 0 0, .slice none 0 0] : Array Value)[i]? := fun i => cell_of_row _ _ _ _ _ _ hrow
    have c00 := c0 0
    have c01 := c0 1
    have c02 := c0 2
    have c03 := c0 3
    have c04 := c0 4
    have c05 := c0 5
    have fr0 := fr 0
    have fr1 := fr 1
    have fr2 := fr 2
    have fr3 := fr 3
    have fr4 := fr 4
    have fr5 := fr 5
    simp at c00 c01 c02 c03 c04 c05
    clear hrow c0 fr
    go_wp2_with fail
    refine bodyPost_ret (results_cell_row rfl _ _ w.heap.size 127 _ (0, 0) _ rfl (box6 HROW.out _ _ _ _ _ _).1 Try.underlying127 rfl rfl) rfl (one_close (box6 HROW.out _ _ _ _ _ _).2 HG4.out hg HD4.out (StX.nil _ _) (StX.nil _ _) (by simp [szL, ss]) (by simp [kk] <;> omega))
  · go_wp2_with fail
    refine (num_any g (p + 1 + 1 + 1) _ [1, 2, 1, 5] 3 _ (HD3.out.low (bel_a _ _) HD3.out.lt) (by omega) (RowB.new _ _ _) (by have := HD3.out.lt; omega) (by simp) (by simp)).mono ?_
    rintro e w4 ⟨nn, rfl, -, hd4, hg4⟩
    have HD4 := Lib.hid hd4
    have HG4 := Lib.hid (grown_tr HG3.out (grown_tr (grown_bel (bel_a w3 _) (Nat.le_refl _) _) hg4))
    clear hd4 hg4 c00 c01 c02 c03 c04 c05 fr0 fr1 fr2 fr3 fr4 fr5 HROW
    have hrow : w4.heap[w.heap.size]? = some (.cells #[.int .i64 0, .int .i64 0, .int .i64 0, .int .i64 0, .slice none 0 0, .slice none 0 0] 127 (0, 0)) := by
      rw [(HG4.out).block _ (by simp) (fun e => by injection e with e; omega)]; exact heap_alloc_new w _
    have HROW := Lib.hid hrow
    have hsz := (HG4.out).size
    simp at hsz
    have fr : ∀ i, w4.frozen? ⟨w.heap.size, i, none⟩ = false := fun i => frozen_of_row w4 _ i _ _ hrow
    have c0 : ∀ i, w4.cell? ⟨w.heap.size, i, none⟩ = (#[.int .i64 0, .int .i64 0, .int .i64 0, .int .i64 0, .slice none 0 0, .slice none 0 0] : Array Value)[i]? := fun i => cell_of_row _ _ _ _ _ _ hrow
    have c00 := c0 0
    have c01 := c0 1
    have c02 := c0 2
    have c03 := c0 3
    have c04 := c0 4
    have c05 := c0 5
    have fr0 := fr 0
    have fr1 := fr 1
    have fr2 := fr 2
    have fr3 := fr 3
    have fr4 := fr 4
    have fr5 := fr 5
    simp at c00 c01 c02 c03 c04 c05
    clear hrow c0 fr
    go_wp2_with fail
    refine bodyPost_ret (results_cell_row rfl _ _ w.heap.size 127 _ (0, 0) _ rfl (box6 HROW.out _ _ _ _ _ _).1 Try.underlying127 rfl rfl) rfl (one_close (box6 HROW.out _ _ _ _ _ _).2 HG4.out hg HD4.out (StX.nil _ _) (StX.nil _ _) (by simp [szL, ss]) (by simp [kk] <;> omega))
  · go_wp2_with fail
    refine (num_any g (p + 1 + 1 + 1) _ [3, 4, 1, 2, 5] 3 _ (HD3.out.low (bel_a _ _) HD3.out.lt) (by omega) (RowB.new _ _ _) (by have := HD3.out.lt; omega) (by simp) (by simp)).mono ?_
    rintro e w4 ⟨nn, rfl, -, hd4, hg4⟩
    have HD4 := Lib.hid hd4
    have HG4 := Lib.hid (grown_tr HG3.out (grown_tr (grown_bel (bel_a w3 _) (Nat.le_refl _) _) hg4))
    clear hd4 hg4 c00 c01 c02 c03 c04 c05 fr0 fr1 fr2 fr3 fr4 fr5 HROW
    have hrow : w4.heap[w.heap.size]? = some (.cells #[.int .i64 0, .int .i64 0, .int .i64 0, .int .i64 0, .slice none 0 0, .slice none 0 0] 127 (0, 0)) := by
      rw [(HG4.out).block _ (by simp) (fun e => by injection e with e; omega)]; exact heap_alloc_new w _
    have HROW := Lib.hid hrow
    have hsz := (HG4.out).size
    simp at hsz
    have fr : ∀ i, w4.frozen? ⟨w.heap.size, i, none⟩ = false := fun i => frozen_of_row w4 _ i _ _ hrow
    have c0 : ∀ i, w4.cell? ⟨w.heap.size, i, none⟩ = (#[.int .i64 0, .int .i64 0, .int .i64 0, .int .i64 0, .slice none 0 0, .slice none 0 0] : Array Value)[i]? := fun i => cell_of_row _ _ _ _ _ _ hrow
    have c00 := c0 0
    have c01 := c0 1
    have c02 := c0 2
    have c03 := c0 3
    have c04 := c0 4
    have c05 := c0 5
    have fr0 := fr 0
    have fr1 := fr 1
    have fr2 := fr 2
    have fr3 := fr 3
    have fr4 := fr 4
    have fr5 := fr 5
    simp at c00 c01 c02 c03 c04 c05
    clear hrow c0 fr
    go_wp2_with fail
    refine bodyPost_ret (results_cell_row rfl _ _ w.heap.size 127 _ (0, 0) _ rfl (box6 HROW.out _ _ _ _ _ _).1 Try.underlying127 rfl rfl) rfl (one_close (box6 HROW.out _ _ _ _ _ _).2 HG4.out hg HD4.out (StX.nil _ _) (StX.nil _ _) (by simp [szL, ss]) (by simp [kk] <;> omega))
  · go_wp2_with fail
    refine (num_any g (p + 1 + 1 + 1) _ [4, 1, 2, 5] 3 _ (HD3.out.low (bel_a _ _) HD3.out.lt) (by omega) (RowB.new _ _ _) (by have := HD3.out.lt; omega) (by simp) (by simp)).mono ?_
    rintro e w4 ⟨nn, rfl, -, hd4, hg4⟩
    have HD4 := Lib.hid hd4
    have HG4 := Lib.hid (grown_tr HG3.out (grown_tr (grown_bel (bel_a w3 _) (Nat.le_refl _) _) hg4))
    clear hd4 hg4 c00 c01 c02 c03 c04 c05 fr0 fr1 fr2 fr3 fr4 fr5 HROW
    have hrow : w4.heap[w.heap.size]? = some (.cells #[.int .i64 0, .int .i64 0, .int .i64 0, .int .i64 0, .slice none 0 0, .slice none 0 0] 127 (0, 0)) := by
      rw [(HG4.out).block _ (by simp) (fun e => by injection e with e; omega)]; exact heap_alloc_new w _
    have HROW := Lib.hid hrow
    have hsz := (HG4.out).size
    simp at hsz
    have fr : ∀ i, w4.frozen? ⟨w.heap.size, i, none⟩ = false := fun i => frozen_of_row w4 _ i _ _ hrow
    have c0 : ∀ i, w4.cell? ⟨w.heap.size, i, none⟩ = (#[.int .i64 0, .int .i64 0, .int .i64 0, .int .i64 0, .slice none 0 0, .slice none 0 0] : Array Value)[i]? := fun i => cell_of_row _ _ _ _ _ _ hrow
    have c00 := c0 0
    have c01 := c0 1
    have c02 := c0 2
    have c03 := c0 3
    have c04 := c0 4
    have c05 := c0 5
    have fr0 := fr 0
    have fr1 := fr 1
    have fr2 := fr 2
    have fr3 := fr 3
    have fr4 := fr 4
    have fr5 := fr 5
    simp at c00 c01 c02 c03 c04 c05
    clear hrow c0 fr
    go_wp2_with fail
    refine bodyPost_ret (results_cell_row rfl _ _ w.heap.size 127 _ (0, 0) _ rfl (box6 HROW.out _ _ _ _ _ _).1 Try.underlying127 rfl rfl) rfl (one_close (box6 HROW.out _ _ _ _ _ _).2 HG4.out hg HD4.out (StX.nil _ _) (StX.nil _ _) (by simp [szL, ss]) (by simp [kk] <;> omega))
  · go_wp2_with fail
    refine bodyPost_ret (results_cell_row rfl _ _ w.heap.size 127 _ (0, 0) _ rfl (box6 HROW.out _ _ _ _ _ _).1 Try.underlying127 rfl rfl) rfl (one_close (box6 HROW.out _ _ _ _ _ _).2 HG3.out hg HD3.out (StX.nil _ _) (StX.nil _ _) (by simp [szL, ss]) (by simp [kk] <;> omega))
  · go_wp2_with fail
    refine (num_any g (p + 1 + 1 + 1) _ [4, 1, 2] 3 _ (HD3.out.low (bel_a _ _) HD3.out.lt) (by omega) (RowB.new _ _ _) (by have := HD3.out.lt; omega) (by simp) (by simp)).mono ?_
    rintro e w4 ⟨nn, rfl, -, hd4, hg4⟩
    have HD4 := Lib.hid hd4
    have HG4 := Lib.hid (grown_tr HG3.out (grown_tr (grown_bel (bel_a w3 _) (Nat.le_refl _) _) hg4))
    clear hd4 hg4 c00 c01 c02 c03 c04 c05 fr0 fr1 fr2 fr3 fr4 fr5 HROW
    have hrow : w4.heap[w.heap.size]? = some (.cells #[.int .i64 0, .int .i64 0, .int .i64 0, .int .i64 0, .slice none 0 0, .slice none 0 0] 127 (0, 0)) := by
      rw [(HG4.out).block _ (by simp) (fun e => by injection e with e; omega)]; exact heap_alloc_new w _
    have HROW := Lib.hid hrow
    have hsz := (HG4.out).size
    simp at hsz
    have fr : ∀ i, w4.frozen? ⟨w.heap.size, i, none⟩ = false := fun i => frozen_of_row w4 _ i _ _ hrow
    have c0 : ∀ i, w4.cell? ⟨w.heap.size, i, none⟩ = (#[.int .i64 0, .int .i64 0, .int .i64 0, .int .i64 0, .slice none 0 0, .slice none 0 0] : Array Value)[i]? := fun i => cell_of_row _ _ _ _ _ _ hrow
    have c00 := c0 0
    have c01 := c0 1
    have c02 := c0 2
    have c03 := c0 3
    have c04 := c0 4
    have c05 := c0 5
    have fr0 := fr 0
    have fr1 := fr 1
    have fr2 := fr 2
    have fr3 := fr 3
    have fr4 := fr 4
    have fr5 := fr 5
    simp at c00 c01 c02 c03 c04 c05
    clear hrow c0 fr
    go_wp2_with fail
    refine bodyPost_ret (results_cell_row rfl _ _ w.heap.size 127 _ (0, 0) _ rfl (box6 HROW.out _ _ _ _ _ _).1 Try.underlying127 rfl rfl) rfl (one_close (box6 HROW.out _ _ _ _ _ _).2 HG4.out hg HD4.out (StX.nil _ _) (StX.nil _ _) (by simp [szL, ss]) (by simp [kk] <;> omega))
  · go_wp2_with fail
    refine (num_any g (p + 1 + 1 + 1) _ [4, 1, 2] 3 _ (HD3.out.low (bel_a _ _) HD3.out.lt) (by omega) (RowB.new _ _ _) (by have := HD3.out.lt; omega) (by simp) (by simp)).mono ?_
    rintro e w4 ⟨nn, rfl, -, hd4, hg4⟩
    have HD4 := Lib.hid hd4
    have HG4 := Lib.hid (grown_tr HG3.out (grown_tr (grown_bel (bel_a w3 _) (Nat.le_refl _) _) hg4))
    clear hd4 hg4 c00 c01 c02 c03 c04 c05 fr0 fr1 fr2 fr3 fr4 fr5 HROW
    have hrow : w4.heap[w.heap.size]? = some (.cells #[.int .i64 0, .int .i64 0, .int .i64 0, .int .i64 0, .slice none 0 0, .slice none 0 0] 127 (0, 0)) := by
      rw [(HG4.out).block _ (by simp) (fun e => by injection e with e; omega)]; exact heap_alloc_new w _
    have HROW := Lib.hid hrow
    have hsz := (HG4.out).size
    simp at hsz
    have fr : ∀ i, w4.frozen? ⟨w.heap.size, i, none⟩ = false := fun i => frozen_of_row w4 _ i _ _ hrow
    have c0 : ∀ i, w4.cell? ⟨w.heap.size, i, none⟩ = (#[.int .i64 0, .int .i64 0, .int .i64 0, .int .i64 0, .slice none 0 0, .slice none 0 0] : Array Value)[i]? := fun i => cell_of_row _ _ _ _ _ _ hrow
    have c00 := c0 0
    have c01 := c0 1
    have c02 := c0 2
    have c03 := c0 3
    have c04 := c0 4
    have c05 := c0 5
    have fr0 := fr 0
    have fr1 := fr 1
    have fr2 := fr 2
    have fr3 := fr 3
    have fr4 := fr 4
    have fr5 := fr 5
    simp at c00 c01 c02 c03 c04 c05
    clear hrow c0 fr
    go_wp2_with fail
    refine bodyPost_ret (results_cell_row rfl _ _ w.heap.size 127 _ (0, 0) _ rfl (box6 HROW.out _ _ _ _ _ _).1 Try.underlying127 rfl rfl) rfl (one_close (box6 HROW.out _ _ _ _ _ _).2 HG4.out hg HD4.out (StX.nil _ _) (StX.nil _ _) (by simp [szL, ss]) (by simp [kk] <;> omega))

end Go.Proofs.Yteaddodjijlpjaa
