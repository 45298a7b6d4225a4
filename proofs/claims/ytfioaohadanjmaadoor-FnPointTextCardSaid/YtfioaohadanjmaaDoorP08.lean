import Derived.Test.YtfioaohadanjmaaDoorP07
set_option linter.unusedVariables false

/- l1One. -/
namespace Go.Proofs.YtfioaohadanjmaaDoor
open Go.RowKit

theorem box6 {w : World} {b : Nat} {t : TypeId} {v0 v1 v2 v3 v4 v5 : Value} (h : w.heap[b]? = some (.cells #[v0, v1, v2, v3, v4, v5] t (0, 0))) (u0 u1 u2 u3 u4 u5 : Value) :
    ((((((w.setCell ⟨b, 0, none⟩ u0).setCell ⟨b, 1, none⟩ u1).setCell ⟨b, 2, none⟩ u2).setCell ⟨b, 3, none⟩ u3).setCell ⟨b, 4, none⟩ u4).setCell ⟨b, 5, none⟩ u5).heap[b]? = some (.cells #[u0, u1, u2, u3, u4, u5] t (0, 0)) ∧
    w.grownBy ((((((w.setCell ⟨b, 0, none⟩ u0).setCell ⟨b, 1, none⟩ u1).setCell ⟨b, 2, none⟩ u2).setCell ⟨b, 3, none⟩ u3).setCell ⟨b, 4, none⟩ u4).setCell ⟨b, 5, none⟩ u5) (some b) := by
  have h0 := heap_setCell_same w b 0 _ _ u0 h
  have h1 := heap_setCell_same _ b 1 _ _ u1 h0
  have h2 := heap_setCell_same _ b 2 _ _ u2 h1
  have h3 := heap_setCell_same _ b 3 _ _ u3 h2
  have h4 := heap_setCell_same _ b 4 _ _ u4 h3
  have h5 := heap_setCell_same _ b 5 _ _ u5 h4
  exact ⟨by simpa using h5, grown_tr (grown_tr (grown_tr (grown_tr (grown_tr (grown_set _ _ _ _) (grown_set _ _ _ _)) (grown_set _ _ _ _)) (grown_set _ _ _ _)) (grown_set _ _ _ _)) (grown_set _ _ _ _)⟩
theorem one_close {w w3 W : World} {o : Obj} {g p K S q : Nat} {op x y n : Int} {tv ev : Value} {th el : List St} (hW : w3.grownBy W (some w.heap.size)) (hg : (w.alloc o).grownBy w3 (some g)) (hlt : g < w.heap.size) (hd : Dr w3 g q)
    (hT : StX w3 (fun b => w.heap.size + 1 ≤ b) tv th) (hE : StX w3 (fun b => w.heap.size + 1 ≤ b) ev el) (hS : 1 + szL th + szL el ≤ S) (hq : q ≤ p + K) :
    OneRet w g p K S (.returned (.agg #[.int .i64 op, .int .i64 x, .int .i64 y, .int .i64 n, tv, ev])) W := by
  have hs := hg.size
  simp at hs
  have hk : ∀ b, w.heap.size + 1 ≤ b → b < w3.heap.size → w.heap.size ≤ b ∧ W.heap[b]? = w3.heap[b]? := fun b hb hl => ⟨by omega, hW.block b hl (fun e => by injection e with e; omega)⟩
  have hbl : Below w.heap.size w3 W := ⟨hW.os, hW.tape, hW.output, hW.size, fun k hk => hW.block k (by omega) (fun e => by injection e with e; omega)⟩
  refine ⟨op, x, y, n, tv, ev, th, el, q, rfl, hT.frame hW.size hk, hE.frame hW.size hk, hS, hq, hd.low hbl hlt, ?_⟩
  exact grown_base (grown_tr (grown_bel (bel_a w o) (Nat.le_refl _) _) hg) hbl

set_option maxHeartbeats 8000000 in
set_option maxRecDepth 100000 in
theorem oneOk_zero : OneOk 0 := by
  intro g p vt w hd hp
  have hg := hd.lt
  have hpp : p + 6 ≤ 1000000 := hp
  have HD := Lib.hid (hd.low (bel_a w (.cells #[.int .i64 0, .int .i64 0, .int .i64 0, .int .i64 0, .slice none 0 0, .slice none 0 0] 47)) hg)
  clear hd hp
  go_enter Tryd.func40, Tryd.ntmps40
  go_wp2_with fail
  refine (pick_any g p _ _ HD.out (by omega) (by omega) (by omega)).mono ?_
  rintro e w1 ⟨bx, rfl, k0, k1, hd1, hg1⟩
  have k2 := k1 (by omega)
  clear k1
  have HD1 := Lib.hid hd1
  have HG1 := Lib.hid hg1
  have hs1 := hg1.size
  clear hd1 hg1
  go_wp2_with fail
  refine (num_any g (p + 1) _ [1, 2, 1, 4, 5] 3 _ (HD1.out.low (bel_a _ _) HD1.out.lt) (by omega) (RowB.new _ _ _) (by have := HD1.out.lt; omega) (by simp) (by simp)).mono ?_
  rintro e w2 ⟨ow, rfl, -, hd2, hg2⟩
  have HD2 := Lib.hid hd2
  have HG2 := Lib.hid (grown_tr HG1.out (grown_tr (grown_bel (bel_a w1 _) (Nat.le_refl _) _) hg2))
  clear hd2 hg2
  go_wp2_with fail
  refine (pick_any g (p + 1 + 1) _ _ HD2.out (by omega) (by omega) (by omega)).mono ?_
  rintro e w3 ⟨k, rfl, m0, m1, hd3, hg3⟩
  have m2 := m1 (by omega)
  have HD3 := Lib.hid hd3
  have HG3 := Lib.hid (grown_tr HG2.out hg3)
  clear m1 hd3 hg3
  have hrow : w3.heap[w.heap.size]? = some (.cells #[.int .i64 0, .int .i64 0, .int .i64 0, .int .i64 0, .slice none 0 0, .slice none 0 0] 47 (0, 0)) := by
    rw [(HG3.out).block _ (by simp) (fun e => by injection e with e; omega)]; exact heap_alloc_new w _
  have HROW := Lib.hid hrow
  have hsz := (HG3.out).size
  simp at hsz
  have fr : ∀ i, w3.frozen? ⟨w.heap.size, i, none⟩ = false := fun i => frozen_of_row w3 _ i _ _ hrow
  have c0 : ∀ i, w3.cell? ⟨w.heap.size, i, none⟩ = (#[.int .i64 0, .int .i64 0, .int .i64 0, .int .i64 0, .slice none 0 0, .slice none 0 0] : Array Value)[i]? := fun i => cell_of_row _ _ _ _ _ _ hrow
  have c00 := c0 0
  have c01 := c0 1
  have c02 := c0 2
  have c03 := c0 3
  have c04 := c0 4
  have c05 := c0 5
  have fr0 := fr 0
  have fr1 := fr 1
  have fr2 := fr 2
  have fr3 := fr 3
  have fr4 := fr 4
  have fr5 := fr 5
  simp at c00 c01 c02 c03 c04 c05
  clear hrow c0 fr
  have hk : k = 0 ∨ k = 1 ∨ k = 2 ∨ k = 3 ∨ k = 4 ∨ k = 5 ∨ k = 6 ∨ k = 7 ∨ k = 8 ∨ k = 9 ∨ k = 10 := by omega
  clear m0 m2
  rcases hk with rfl | rfl | rfl | rfl | rfl | rfl | rfl | rfl | rfl | rfl | rfl
  · go_wp2_with fail
    refine (pick_any g (p + 1 + 1 + 1) _ _ HD3.out (by omega) (by omega) (by omega)).mono ?_
    rintro e w4 ⟨nn, rfl, -, -, hd4, hg4⟩
    have HD4 := Lib.hid hd4
    have HG4 := Lib.hid (grown_tr HG3.out hg4)
    clear hd4 hg4 c00 c01 c02 c03 c04 c05 fr0 fr1 fr2 fr3 fr4 fr5 HROW
    have hrow : w4.heap[w.heap.size]? = some (.cells #[.int .i64 0, .int .i64 0, .int .i64 0, .int .i64 0, .slice none 0 0, .slice none 0 0] 47 (0, 0)) := by
      rw [(HG4.out).block _ (by simp) (fun e => by injection e with e; omega)]; exact heap_alloc_new w _
    have HROW := Lib.hid hrow
    have hsz := (HG4.out).size
    simp at hsz
    have fr : ∀ i, w4.frozen? ⟨w.heap.size, i, none⟩ = false := fun i => frozen_of_row w4 _ i _ _ hrow
    have c0 : ∀ i, w4.cell? ⟨w.heap.size, i, none⟩ = (#[.int .i64 0, .int .i64 0, .int .i64 0, .int .i64 0, .slice none 0 0, .slice none 0 0] : Array Value)[i]? := fun i => cell_of_row _ _ _ _ _ _ hrow
    have c00 := c0 0
    have c01 := c0 1
    have c02 := c0 2
    have c03 := c0 3
    have c04 := c0 4
    have c05 := c0 5
    have fr0 := fr 0
    have fr1 := fr 1
    have fr2 := fr 2
    have fr3 := fr 3
    have fr4 := fr 4
    have fr5 := fr 5
    simp at c00 c01 c02 c03 c04 c05
    clear hrow c0 fr
    go_wp2_with fail
    refine bodyPost_ret (results_cell_row rfl _ _ w.heap.size 47 _ (0, 0) _ rfl (box6 HROW.out _ _ _ _ _ _).1 Tryd.underlying47 rfl rfl) rfl (one_close (box6 HROW.out _ _ _ _ _ _).2 HG4.out hg HD4.out (StX.nil _ _) (StX.nil _ _) (by simp [szL, ss]) (by simp [kk] <;> omega))
  · go_wp2_with fail
    refine (pick_any g (p + 1 + 1 + 1) _ _ HD3.out (by omega) (by omega) (by omega)).mono ?_
    rintro e w4 ⟨nn, rfl, -, -, hd4, hg4⟩
    have HD4 := Lib.hid hd4
    have HG4 := Lib.hid (grown_tr HG3.out hg4)
    clear hd4 hg4 c00 c01 c02 c03 c04 c05 fr0 fr1 fr2 fr3 fr4 fr5 HROW
    have hrow : w4.heap[w.heap.size]? = some (.cells #[.int .i64 0, .int .i64 0, .int .i64 0, .int .i64 0, .slice none 0 0, .slice none 0 0] 47 (0, 0)) := by
      rw [(HG4.out).block _ (by simp) (fun e => by injection e with e; omega)]; exact heap_alloc_new w _
    have HROW := Lib.hid hrow
    have hsz := (HG4.out).size
    simp at hsz
    have fr : ∀ i, w4.frozen? ⟨w.heap.size, i, none⟩ = false := fun i => frozen_of_row w4 _ i _ _ hrow
    have c0 : ∀ i, w4.cell? ⟨w.heap.size, i, none⟩ = (#[.int .i64 0, .int .i64 0, .int .i64 0, .int .i64 0, .slice none 0 0, .slice none 0 0] : Array Value)[i]? := fun i => cell_of_row _ _ _ _ _ _ hrow
    have c00 := c0 0
    have c01 := c0 1
    have c02 := c0 2
    have c03 := c0 3
    have c04 := c0 4
    have c05 := c0 5
    have fr0 := fr 0
    have fr1 := fr 1
    have fr2 := fr 2
    have fr3 := fr 3
    have fr4 := fr 4
    have fr5 := fr 5
    simp at c00 c01 c02 c03 c04 c05
    clear hrow c0 fr
    go_wp2_with fail
    refine bodyPost_ret (results_cell_row rfl _ _ w.heap.size 47 _ (0, 0) _ rfl (box6 HROW.out _ _ _ _ _ _).1 Tryd.underlying47 rfl rfl) rfl (one_close (box6 HROW.out _ _ _ _ _ _).2 HG4.out hg HD4.out (StX.nil _ _) (StX.nil _ _) (by simp [szL, ss]) (by simp [kk] <;> omega))
  · go_wp2_with fail
    refine bodyPost_ret (results_cell_row rfl _ _ w.heap.size 47 _ (0, 0) _ rfl (box6 HROW.out _ _ _ _ _ _).1 Tryd.underlying47 rfl rfl) rfl (one_close (box6 HROW.out _ _ _ _ _ _).2 HG3.out hg HD3.out (StX.nil _ _) (StX.nil _ _) (by simp [szL, ss]) (by simp [kk] <;> omega))
  · go_wp2_with fail
    refine bodyPost_ret (results_cell_row rfl _ _ w.heap.size 47 _ (0, 0) _ rfl (box6 HROW.out _ _ _ _ _ _).1 Tryd.underlying47 rfl rfl) rfl (one_close (box6 HROW.out _ _ _ _ _ _).2 HG3.out hg HD3.out (StX.nil _ _) (StX.nil _ _) (by simp [szL, ss]) (by simp [kk] <;> omega))
  · go_wp2_with fail
    refine (num_any g (p + 1 + 1 + 1) _ [1, 2, 1, 5] 3 _ (HD3.out.low (bel_a _ _) HD3.out.lt) (by omega) (RowB.new _ _ _) (by have := HD3.out.lt; omega) (by simp) (by simp)).mono ?_
    rintro e w4 ⟨nn, rfl, -, hd4, hg4⟩
    have HD4 := Lib.hid hd4
    have HG4 := Lib.hid (grown_tr HG3.out (grown_tr (grown_bel (bel_a w3 _) (Nat.le_refl _) _) hg4))
    clear hd4 hg4 c00 c01 c02 c03 c04 c05 fr0 fr1 fr2 fr3 fr4 fr5 HROW
    have hrow : w4.heap[w.heap.size]? = some (.cells #[.int .i64 0, .int .i64 0, .int .i64 0, .int .i64 0, .slice none 0 0, .slice none 0 0] 47 (0, 0)) := by
      rw [(HG4.out).block _ (by simp) (fun e => by injection e with e; omega)]; exact heap_alloc_new w _
    have HROW := Lib.hid hrow
    have hsz := (HG4.out).size
    simp at hsz
    have fr : ∀ i, w4.frozen? ⟨w.heap.size, i, none⟩ = false := fun i => frozen_of_row w4 _ i _ _ hrow
    have c0 : ∀ i, w4.cell? ⟨w.heap.size, i, none⟩ = (#[.int .i64 0, .int .i64 0, .int .i64 0, .int .i64 0, .slice none 0 0, .slice none 0 0] : Array Value)[i]? := fun i => cell_of_row _ _ _ _ _ _ hrow
    have c00 := c0 0
    have c01 := c0 1
    have c02 := c0 2
    have c03 := c0 3
    have c04 := c0 4
    have c05 := c0 5
    have fr0 := fr 0
    have fr1 := fr 1
    have fr2 := fr 2
    have fr3 := fr 3
    have fr4 := fr 4
    have fr5 := fr 5
    simp at c00 c01 c02 c03 c04 c05
    clear hrow c0 fr
    go_wp2_with fail
    refine bodyPost_ret (results_cell_row rfl _ _ w.heap.size 47 _ (0, 0) _ rfl (box6 HROW.out _ _ _ _ _ _).1 Tryd.underlying47 rfl rfl) rfl (one_close (box6 HROW.out _ _ _ _ _ _).2 HG4.out hg HD4.out (StX.nil _ _) (StX.nil _ _) (by simp [szL, ss]) (by simp [kk] <;> omega))
  · go_wp2_with fail
    refine (num_any g (p + 1 + 1 + 1) _ [1, 2, 1, 5] 3 _ (HD3.out.low (bel_a _ _) HD3.out.lt) (by omega) (RowB.new _ _ _) (by have := HD3.out.lt; omega) (by simp) (by simp)).mono ?_
    rintro e w4 ⟨nn, rfl, -, hd4, hg4⟩
    have HD4 := Lib.hid hd4
    have HG4 := Lib.hid (grown_tr HG3.out (grown_tr (grown_bel (bel_a w3 _) (Nat.le_refl _) _) hg4))
    clear hd4 hg4 c00 c01 c02 c03 c04 c05 fr0 fr1 fr2 fr3 fr4 fr5 HROW
    have hrow : w4.heap[w.heap.size]? = some (.cells #[.int .i64 0, .int .i64 0, .int .i64 0, .int .i64 0, .slice none 0 0, .slice none 0 0] 47 (0, 0)) := by
      rw [(HG4.out).block _ (by simp) (fun e => by injection e with e; omega)]; exact heap_alloc_new w _
    have HROW := Lib.hid hrow
    have hsz := (HG4.out).size
    simp at hsz
    have fr : ∀ i, w4.frozen? ⟨w.heap.size, i, none⟩ = false := fun i => frozen_of_row w4 _ i _ _ hrow
    have c0 : ∀ i, w4.cell? ⟨w.heap.size, i, none⟩ = (#[.int .i64 0, .int .i64 0, .int .i64 0, .int .i64 0, .slice none 0 0, .slice none 0 0] : Array Value)[i]? := fun i => cell_of_row _ _ _ _ _ _ hrow
    have c00 := c0 0
    have c01 := c0 1
    have c02 := c0 2
    have c03 := c0 3
    have c04 := c0 4
    have c05 := c0 5
    have fr0 := fr 0
    have fr1 := fr 1
    have fr2 := fr 2
    have fr3 := fr 3
    have fr4 := fr 4
    have fr5 := fr 5
    simp at c00 c01 c02 c03 c04 c05
    clear hrow c0 fr
    go_wp2_with fail
    refine bodyPost_ret (results_cell_row rfl _ _ w.heap.size 47 _ (0, 0) _ rfl (box6 HROW.out _ _ _ _ _ _).1 Tryd.underlying47 rfl rfl) rfl (one_close (box6 HROW.out _ _ _ _ _ _).2 HG4.out hg HD4.out (StX.nil _ _) (StX.nil _ _) (by simp [szL, ss]) (by simp [kk] <;> omega))
  · go_wp2_with fail
    refine (num_any g (p + 1 + 1 + 1) _ [3, 4, 1, 2, 5] 3 _ (HD3.out.low (bel_a _ _) HD3.out.lt) (by omega) (RowB.new _ _ _) (by have := HD3.out.lt; omega) (by simp) (by simp)).mono ?_
    rintro e w4 ⟨nn, rfl, -, hd4, hg4⟩
    have HD4 := Lib.hid hd4
    have HG4 := Lib.hid (grown_tr HG3.out (grown_tr (grown_bel (bel_a w3 _) (Nat.le_refl _) _) hg4))
    clear hd4 hg4 c00 c01 c02 c03 c04 c05 fr0 fr1 fr2 fr3 fr4 fr5 HROW
    have hrow : w4.heap[w.heap.size]? = some (.cells #[.int .i64 0, .int .i64 0, .int .i64 0, .int .i64 0, .slice none 0 0, .slice none 0 0] 47 (0, 0)) := by
      rw [(HG4.out).block _ (by simp) (fun e => by injection e with e; omega)]; exact heap_alloc_new w _
    have HROW := Lib.hid hrow
    have hsz := (HG4.out).size
    simp at hsz
    have fr : ∀ i, w4.frozen? ⟨w.heap.size, i, none⟩ = false := fun i => frozen_of_row w4 _ i _ _ hrow
    have c0 : ∀ i, w4.cell? ⟨w.heap.size, i, none⟩ = (#[.int .i64 0, .int .i64 0, .int .i64 0, .int .i64 0, .slice none 0 0, .slice none 0 0] : Array Value)[i]? := fun i => cell_of_row _ _ _ _ _ _ hrow
    have c00 := c0 0
    have c01 := c0 1
    have c02 := c0 2
    have c03 := c0 3
    have c04 := c0 4
    have c05 := c0 5
    have fr0 := fr 0
    have fr1 := fr 1
    have fr2 := fr 2
    have fr3 := fr 3
    have fr4 := fr 4
    have fr5 := fr 5
    simp at c00 c01 c02 c03 c04 c05
    clear hrow c0 fr
    go_wp2_with fail
    refine bodyPost_ret (results_cell_row rfl _ _ w.heap.size 47 _ (0, 0) _ rfl (box6 HROW.out _ _ _ _ _ _).1 Tryd.underlying47 rfl rfl) rfl (one_close (box6 HROW.out _ _ _ _ _ _).2 HG4.out hg HD4.out (StX.nil _ _) (StX.nil _ _) (by simp [szL, ss]) (by simp [kk] <;> omega))
  · go_wp2_with fail
    refine (num_any g (p + 1 + 1 + 1) _ [4, 1, 2, 5] 3 _ (HD3.out.low (bel_a _ _) HD3.out.lt) (by omega) (RowB.new _ _ _) (by have := HD3.out.lt; omega) (by simp) (by simp)).mono ?_
    rintro e w4 ⟨nn, rfl, -, hd4, hg4⟩
    have HD4 := Lib.hid hd4
    have HG4 := Lib.hid (grown_tr HG3.out (grown_tr (grown_bel (bel_a w3 _) (Nat.le_refl _) _) hg4))
    clear hd4 hg4 c00 c01 c02 c03 c04 c05 fr0 fr1 fr2 fr3 fr4 fr5 HROW
    have hrow : w4.heap[w.heap.size]? = some (.cells #[.int .i64 0, .int .i64 0, .int .i64 0, .int .i64 0, .slice none 0 0, .slice none 0 0] 47 (0, 0)) := by
      rw [(HG4.out).block _ (by simp) (fun e => by injection e with e; omega)]; exact heap_alloc_new w _
    have HROW := Lib.hid hrow
    have hsz := (HG4.out).size
    simp at hsz
    have fr : ∀ i, w4.frozen? ⟨w.heap.size, i, none⟩ = false := fun i => frozen_of_row w4 _ i _ _ hrow
    have c0 : ∀ i, w4.cell? ⟨w.heap.size, i, none⟩ = (#[.int .i64 0, .int .i64 0, .int .i64 0, .int .i64 0, .slice none 0 0, .slice none 0 0] : Array Value)[i]? := fun i => cell_of_row _ _ _ _ _ _ hrow
    have c00 := c0 0
    have c01 := c0 1
    have c02 := c0 2
    have c03 := c0 3
    have c04 := c0 4
    have c05 := c0 5
    have fr0 := fr 0
    have fr1 := fr 1
    have fr2 := fr 2
    have fr3 := fr 3
    have fr4 := fr 4
    have fr5 := fr 5
    simp at c00 c01 c02 c03 c04 c05
    clear hrow c0 fr
    go_wp2_with fail
    refine bodyPost_ret (results_cell_row rfl _ _ w.heap.size 47 _ (0, 0) _ rfl (box6 HROW.out _ _ _ _ _ _).1 Tryd.underlying47 rfl rfl) rfl (one_close (box6 HROW.out _ _ _ _ _ _).2 HG4.out hg HD4.out (StX.nil _ _) (StX.nil _ _) (by simp [szL, ss]) (by simp [kk] <;> omega))
  · go_wp2_with fail
    refine bodyPost_ret (results_cell_row rfl _ _ w.heap.size 47 _ (0, 0) _ rfl (box6 HROW.out _ _ _ _ _ _).1 Tryd.underlying47 rfl rfl) rfl (one_close (box6 HROW.out _ _ _ _ _ _).2 HG3.out hg HD3.out (StX.nil _ _) (StX.nil _ _) (by simp [szL, ss]) (by simp [kk] <;> omega))
  · go_wp2_with fail
    refine (num_any g (p + 1 + 1 + 1) _ [4, 1, 2] 3 _ (HD3.out.low (bel_a _ _) HD3.out.lt) (by omega) (RowB.new _ _ _) (by have := HD3.out.lt; omega) (by simp) (by simp)).mono ?_
    rintro e w4 ⟨nn, rfl, -, hd4, hg4⟩
    have HD4 := Lib.hid hd4
    have HG4 := Lib.hid (grown_tr HG3.out (grown_tr (grown_bel (bel_a w3 _) (Nat.le_refl _) _) hg4))
    clear hd4 hg4 c00 c01 c02 c03 c04 c05 fr0 fr1 fr2 fr3 fr4 fr5 HROW
    have hrow : w4.heap[w.heap.size]? = some (.cells #[.int .i64 0, .int .i64 0, .int .i64 0, .int .i64 0, .slice none 0 0, .slice none 0 0] 47 (0, 0)) := by
      rw [(HG4.out).block _ (by simp) (fun e => by injection e with e; omega)]; exact heap_alloc_new w _
    have HROW := Lib.hid hrow
    have hsz := (HG4.out).size
    simp at hsz
    have fr : ∀ i, w4.frozen? ⟨w.heap.size, i, none⟩ = false := fun i => frozen_of_row w4 _ i _ _ hrow
    have c0 : ∀ i, w4.cell? ⟨w.heap.size, i, none⟩ = (#[.int .i64 0, .int .i64 0, .int .i64 0, .int .i64 0, .slice none 0 0, .slice none 0 0] : Array Value)[i]? := fun i => cell_of_row _ _ _ _ _ _ hrow
    have c00 := c0 0
    have c01 := c0 1
    have c02 := c0 2
    have c03 := c0 3
    have c04 := c0 4
    have c05 := c0 5
    have fr0 := fr 0
    have fr1 := fr 1
    have fr2 := fr 2
    have fr3 := fr 3
    have fr4 := fr 4
    have fr5 := fr 5
    simp at c00 c01 c02 c03 c04 c05
    clear hrow c0 fr
    go_wp2_with fail
    refine bodyPost_ret (results_cell_row rfl _ _ w.heap.size 47 _ (0, 0) _ rfl (box6 HROW.out _ _ _ _ _ _).1 Tryd.underlying47 rfl rfl) rfl (one_close (box6 HROW.out _ _ _ _ _ _).2 HG4.out hg HD4.out (StX.nil _ _) (StX.nil _ _) (by simp [szL, ss]) (by simp [kk] <;> omega))
  · go_wp2_with fail
    refine (num_any g (p + 1 + 1 + 1) _ [4, 1, 2] 3 _ (HD3.out.low (bel_a _ _) HD3.out.lt) (by omega) (RowB.new _ _ _) (by have := HD3.out.lt; omega) (by simp) (by simp)).mono ?_
    rintro e w4 ⟨nn, rfl, -, hd4, hg4⟩
    have HD4 := Lib.hid hd4
    have HG4 := Lib.hid (grown_tr HG3.out (grown_tr (grown_bel (bel_a w3 _) (Nat.le_refl _) _) hg4))
    clear hd4 hg4 c00 c01 c02 c03 c04 c05 fr0 fr1 fr2 fr3 fr4 fr5 HROW
    have hrow : w4.heap[w.heap.size]? = some (.cells #[.int .i64 0, .int .i64 0, .int .i64 0, .int .i64 0, .slice none 0 0, .slice none 0 0] 47 (0, 0)) := by
      rw [(HG4.out).block _ (by simp) (fun e => by injection e with e; omega)]; exact heap_alloc_new w _
    have HROW := Lib.hid hrow
    have hsz := (HG4.out).size
    simp at hsz
    have fr : ∀ i, w4.frozen? ⟨w.heap.size, i, none⟩ = false := fun i => frozen_of_row w4 _ i _ _ hrow
    have c0 : ∀ i, w4.cell? ⟨w.heap.size, i, none⟩ = (#[.int .i64 0, .int .i64 0, .int .i64 0, .int .i64 0, .slice none 0 0, .slice none 0 0] : Array Value)[i]? := fun i => cell_of_row _ _ _ _ _ _ hrow
    have c00 := c0 0
    have c01 := c0 1
    have c02 := c0 2
    have c03 := c0 3
    have c04 := c0 4
    have c05 := c0 5
    have fr0 := fr 0
    have fr1 := fr 1
    have fr2 := fr 2
    have fr3 := fr 3
    have fr4 := fr 4
    have fr5 := fr 5
    simp at c00 c01 c02 c03 c04 c05
    clear hrow c0 fr
    go_wp2_with fail
    refine bodyPost_ret (results_cell_row rfl _ _ w.heap.size 47 _ (0, 0) _ rfl (box6 HROW.out _ _ _ _ _ _).1 Tryd.underlying47 rfl rfl) rfl (one_close (box6 HROW.out _ _ _ _ _ _).2 HG4.out hg HD4.out (StX.nil _ _) (StX.nil _ _) (by simp [szL, ss]) (by simp [kk] <;> omega))

end Go.Proofs.YtfioaohadanjmaaDoor

/- l1One with statements inside. -/
namespace Go.Proofs.YtfioaohadanjmaaDoor
open Go.RowKit

set_option maxHeartbeats 8000000 in
set_option maxRecDepth 100000 in
theorem oneOk_succ (d : Nat) (hd2 : d ≤ 100) (h0 : OneOk 0) (h1 : SomeOk d) : OneOk (d + 1) := by
  intro g p vt w hd hp
  have hg := hd.lt
  have hpp : p + (2 * kk d + 20) ≤ 1000000 := hp
  have HD := Lib.hid (hd.low (bel_a w (.cells #[.int .i64 0, .int .i64 0, .int .i64 0, .int .i64 0, .slice none 0 0, .slice none 0 0] 47)) hg)
  clear hd hp
  generalize hKd : kk d = Kd at hpp
  have HK := Lib.hid hKd
  clear hKd
  go_enter Tryd.func40, Tryd.ntmps40
  go_wp2_with fail
  refine (pick_any g p _ _ HD.out (by omega) (by omega) (by omega)).mono ?_
  rintro e w1 ⟨bx, rfl, k0, k1, hd1, hg1⟩
  have k2 := k1 (by omega)
  clear k1
  have HD1 := Lib.hid hd1
  have HG1 := Lib.hid hg1
  have hs1 := hg1.size
  clear hd1 hg1
  go_wp2_with fail
  refine (num_any g (p + 1) _ [1, 2, 1, 4, 5] 3 _ (HD1.out.low (bel_a _ _) HD1.out.lt) (by omega) (RowB.new _ _ _) (by have := HD1.out.lt; omega) (by simp) (by simp)).mono ?_
  rintro e w2 ⟨ow, rfl, -, hd2, hg2⟩
  have HD2 := Lib.hid hd2
  have HG2 := Lib.hid (grown_tr HG1.out (grown_tr (grown_bel (bel_a w1 _) (Nat.le_refl _) _) hg2))
  clear hd2 hg2
  go_wp2_with fail
  refine (pick_any g (p + 1 + 1) _ _ HD2.out (by omega) (by omega) (by omega)).mono ?_
  rintro e w3 ⟨k, rfl, m0, m1, hd3, hg3⟩
  have m2 := m1 (by omega)
  have HD3 := Lib.hid hd3
  have HG3 := Lib.hid (grown_tr HG2.out hg3)
  clear m1 hd3 hg3
  have hrow : w3.heap[w.heap.size]? = some (.cells #[.int .i64 0, .int .i64 0, .int .i64 0, .int .i64 0, .slice none 0 0, .slice none 0 0] 47 (0, 0)) := by
    rw [(HG3.out).block _ (by simp) (fun e => by injection e with e; omega)]; exact heap_alloc_new w _
  have HROW := Lib.hid hrow
  have hsz := (HG3.out).size
  simp at hsz
  have fr : ∀ i, w3.frozen? ⟨w.heap.size, i, none⟩ = false := fun i => frozen_of_row w3 _ i _ _ hrow
  have c0 : ∀ i, w3.cell? ⟨w.heap.size, i, none⟩ = (#[.int .i64 0, .int .i64 0, .int .i64 0, .int .i64 0, .slice none 0 0, .slice none 0 0] : Array Value)[i]? := fun i => cell_of_row _ _ _ _ _ _ hrow
  have c00 := c0 0
  have c01 := c0 1
  have c02 := c0 2
  have c03 := c0 3
  have c04 := c0 4
  have c05 := c0 5
  have fr0 := fr 0
  have fr1 := fr 1
  have fr2 := fr 2
  have fr3 := fr 3
  have fr4 := fr 4
  have fr5 := fr 5
  simp at c00 c01 c02 c03 c04 c05
  clear hrow c0 fr
  have hk : k = 0 ∨ k = 1 ∨ k = 2 ∨ k = 3 ∨ k = 4 ∨ k = 5 ∨ k = 6 ∨ k = 7 ∨ k = 8 ∨ k = 9 ∨ k = 10 := by omega
  clear m0 m2
  rcases hk with rfl | rfl | rfl | rfl | rfl | rfl | rfl | rfl | rfl | rfl | rfl
  · go_wp2_with fail
    refine (pick_any g (p + 1 + 1 + 1) _ _ HD3.out (by omega) (by omega) (by omega)).mono ?_
    rintro e w4 ⟨nn, rfl, -, -, hd4, hg4⟩
    have HD4 := Lib.hid hd4
    have HG4 := Lib.hid (grown_tr HG3.out hg4)
    clear hd4 hg4 c00 c01 c02 c03 c04 c05 fr0 fr1 fr2 fr3 fr4 fr5 HROW
    have hrow : w4.heap[w.heap.size]? = some (.cells #[.int .i64 0, .int .i64 0, .int .i64 0, .int .i64 0, .slice none 0 0, .slice none 0 0] 47 (0, 0)) := by
      rw [(HG4.out).block _ (by simp) (fun e => by injection e with e; omega)]; exact heap_alloc_new w _
    have HROW := Lib.hid hrow
    have hsz := (HG4.out).size
    simp at hsz
    have fr : ∀ i, w4.frozen? ⟨w.heap.size, i, none⟩ = false := fun i => frozen_of_row w4 _ i _ _ hrow
    have c0 : ∀ i, w4.cell? ⟨w.heap.size, i, none⟩ = (#[.int .i64 0, .int .i64 0, .int .i64 0, .int .i64 0, .slice none 0 0, .slice none 0 0] : Array Value)[i]? := fun i => cell_of_row _ _ _ _ _ _ hrow
    have c00 := c0 0
    have c01 := c0 1
    have c02 := c0 2
    have c03 := c0 3
    have c04 := c0 4
    have c05 := c0 5
    have fr0 := fr 0
    have fr1 := fr 1
    have fr2 := fr 2
    have fr3 := fr 3
    have fr4 := fr 4
    have fr5 := fr 5
    simp at c00 c01 c02 c03 c04 c05
    clear hrow c0 fr
    go_wp2_with fail
    refine bodyPost_ret (results_cell_row rfl _ _ w.heap.size 47 _ (0, 0) _ rfl (box6 HROW.out _ _ _ _ _ _).1 Tryd.underlying47 rfl rfl) rfl (one_close (box6 HROW.out _ _ _ _ _ _).2 HG4.out hg HD4.out (StX.nil _ _) (StX.nil _ _) (by simp [szL, ss] <;> omega) (by simp [kk] <;> omega))
  · go_wp2_with fail
    refine (pick_any g (p + 1 + 1 + 1) _ _ HD3.out (by omega) (by omega) (by omega)).mono ?_
    rintro e w4 ⟨nn, rfl, -, -, hd4, hg4⟩
    have HD4 := Lib.hid hd4
    have HG4 := Lib.hid (grown_tr HG3.out hg4)
    clear hd4 hg4 c00 c01 c02 c03 c04 c05 fr0 fr1 fr2 fr3 fr4 fr5 HROW
    have hrow : w4.heap[w.heap.size]? = some (.cells #[.int .i64 0, .int .i64 0, .int .i64 0, .int .i64 0, .slice none 0 0, .slice none 0 0] 47 (0, 0)) := by
      rw [(HG4.out).block _ (by simp) (fun e => by injection e with e; omega)]; exact heap_alloc_new w _
    have HROW := Lib.hid hrow
    have hsz := (HG4.out).size
    simp at hsz
    have fr : ∀ i, w4.frozen? ⟨w.heap.size, i, none⟩ = false := fun i => frozen_of_row w4 _ i _ _ hrow
    have c0 : ∀ i, w4.cell? ⟨w.heap.size, i, none⟩ = (#[.int .i64 0, .int .i64 0, .int .i64 0, .int .i64 0, .slice none 0 0, .slice none 0 0] : Array Value)[i]? := fun i => cell_of_row _ _ _ _ _ _ hrow
    have c00 := c0 0
    have c01 := c0 1
    have c02 := c0 2
    have c03 := c0 3
    have c04 := c0 4
    have c05 := c0 5
    have fr0 := fr 0
    have fr1 := fr 1
    have fr2 := fr 2
    have fr3 := fr 3
    have fr4 := fr 4
    have fr5 := fr 5
    simp at c00 c01 c02 c03 c04 c05
    clear hrow c0 fr
    go_wp2_with fail
    refine bodyPost_ret (results_cell_row rfl _ _ w.heap.size 47 _ (0, 0) _ rfl (box6 HROW.out _ _ _ _ _ _).1 Tryd.underlying47 rfl rfl) rfl (one_close (box6 HROW.out _ _ _ _ _ _).2 HG4.out hg HD4.out (StX.nil _ _) (StX.nil _ _) (by simp [szL, ss] <;> omega) (by simp [kk] <;> omega))
  · go_wp2_with fail
    refine bodyPost_ret (results_cell_row rfl _ _ w.heap.size 47 _ (0, 0) _ rfl (box6 HROW.out _ _ _ _ _ _).1 Tryd.underlying47 rfl rfl) rfl (one_close (box6 HROW.out _ _ _ _ _ _).2 HG3.out hg HD3.out (StX.nil _ _) (StX.nil _ _) (by simp [szL, ss] <;> omega) (by simp [kk] <;> omega))
  · go_wp2_with fail
    refine bodyPost_ret (results_cell_row rfl _ _ w.heap.size 47 _ (0, 0) _ rfl (box6 HROW.out _ _ _ _ _ _).1 Tryd.underlying47 rfl rfl) rfl (one_close (box6 HROW.out _ _ _ _ _ _).2 HG3.out hg HD3.out (StX.nil _ _) (StX.nil _ _) (by simp [szL, ss] <;> omega) (by simp [kk] <;> omega))
  · go_wp2_with fail
    refine (num_any g (p + 1 + 1 + 1) _ [1, 2, 1, 5] 3 _ (HD3.out.low (bel_a _ _) HD3.out.lt) (by omega) (RowB.new _ _ _) (by have := HD3.out.lt; omega) (by simp) (by simp)).mono ?_
    rintro e w4 ⟨nn, rfl, -, hd4, hg4⟩
    have HD4 := Lib.hid hd4
    have HG4 := Lib.hid (grown_tr HG3.out (grown_tr (grown_bel (bel_a w3 _) (Nat.le_refl _) _) hg4))
    clear hd4 hg4 c00 c01 c02 c03 c04 c05 fr0 fr1 fr2 fr3 fr4 fr5 HROW
    have hrow : w4.heap[w.heap.size]? = some (.cells #[.int .i64 0, .int .i64 0, .int .i64 0, .int .i64 0, .slice none 0 0, .slice none 0 0] 47 (0, 0)) := by
      rw [(HG4.out).block _ (by simp) (fun e => by injection e with e; omega)]; exact heap_alloc_new w _
    have HROW := Lib.hid hrow
    have hsz := (HG4.out).size
    simp at hsz
    have fr : ∀ i, w4.frozen? ⟨w.heap.size, i, none⟩ = false := fun i => frozen_of_row w4 _ i _ _ hrow
    have c0 : ∀ i, w4.cell? ⟨w.heap.size, i, none⟩ = (#[.int .i64 0, .int .i64 0, .int .i64 0, .int .i64 0, .slice none 0 0, .slice none 0 0] : Array Value)[i]? := fun i => cell_of_row _ _ _ _ _ _ hrow
    have c00 := c0 0
    have c01 := c0 1
    have c02 := c0 2
    have c03 := c0 3
    have c04 := c0 4
    have c05 := c0 5
    have fr0 := fr 0
    have fr1 := fr 1
    have fr2 := fr 2
    have fr3 := fr 3
    have fr4 := fr 4
    have fr5 := fr 5
    simp at c00 c01 c02 c03 c04 c05
    clear hrow c0 fr
    go_wp2_with fail
    refine bodyPost_ret (results_cell_row rfl _ _ w.heap.size 47 _ (0, 0) _ rfl (box6 HROW.out _ _ _ _ _ _).1 Tryd.underlying47 rfl rfl) rfl (one_close (box6 HROW.out _ _ _ _ _ _).2 HG4.out hg HD4.out (StX.nil _ _) (StX.nil _ _) (by simp [szL, ss] <;> omega) (by simp [kk] <;> omega))
  · go_wp2_with fail
    refine (num_any g (p + 1 + 1 + 1) _ [1, 2, 1, 5] 3 _ (HD3.out.low (bel_a _ _) HD3.out.lt) (by omega) (RowB.new _ _ _) (by have := HD3.out.lt; omega) (by simp) (by simp)).mono ?_
    rintro e w4 ⟨nn, rfl, -, hd4, hg4⟩
    have HD4 := Lib.hid hd4
    have HG4 := Lib.hid (grown_tr HG3.out (grown_tr (grown_bel (bel_a w3 _) (Nat.le_refl _) _) hg4))
    clear hd4 hg4 c00 c01 c02 c03 c04 c05 fr0 fr1 fr2 fr3 fr4 fr5 HROW
    have hrow : w4.heap[w.heap.size]? = some (.cells #[.int .i64 0, .int .i64 0, .int .i64 0, .int .i64 0, .slice none 0 0, .slice none 0 0] 47 (0, 0)) := by
      rw [(HG4.out).block _ (by simp) (fun e => by injection e with e; omega)]; exact heap_alloc_new w _
    have HROW := Lib.hid hrow
    have hsz := (HG4.out).size
    simp at hsz
    have fr : ∀ i, w4.frozen? ⟨w.heap.size, i, none⟩ = false := fun i => frozen_of_row w4 _ i _ _ hrow
    have c0 : ∀ i, w4.cell? ⟨w.heap.size, i, none⟩ = (#[.int .i64 0, .int .i64 0, .int .i64 0, .int .i64 0, .slice none 0 0, .slice none 0 0] : Array Value)[i]? := fun i => cell_of_row _ _ _ _ _ _ hrow
    have c00 := c0 0
    have c01 := c0 1
    have c02 := c0 2
    have c03 := c0 3
    have c04 := c0 4
    have c05 := c0 5
    have fr0 := fr 0
    have fr1 := fr 1
    have fr2 := fr 2
    have fr3 := fr 3
    have fr4 := fr 4
    have fr5 := fr 5
    simp at c00 c01 c02 c03 c04 c05
    clear hrow c0 fr
    go_wp2_with fail
    refine bodyPost_ret (results_cell_row rfl _ _ w.heap.size 47 _ (0, 0) _ rfl (box6 HROW.out _ _ _ _ _ _).1 Tryd.underlying47 rfl rfl) rfl (one_close (box6 HROW.out _ _ _ _ _ _).2 HG4.out hg HD4.out (StX.nil _ _) (StX.nil _ _) (by simp [szL, ss] <;> omega) (by simp [kk] <;> omega))
  · go_wp2_with fail
    refine (num_any g (p + 1 + 1 + 1) _ [3, 4, 1, 2, 5] 3 _ (HD3.out.low (bel_a _ _) HD3.out.lt) (by omega) (RowB.new _ _ _) (by have := HD3.out.lt; omega) (by simp) (by simp)).mono ?_
    rintro e w4 ⟨nn, rfl, -, hd4, hg4⟩
    have HD4 := Lib.hid hd4
    have HG4 := Lib.hid (grown_tr HG3.out (grown_tr (grown_bel (bel_a w3 _) (Nat.le_refl _) _) hg4))
    clear hd4 hg4 c00 c01 c02 c03 c04 c05 fr0 fr1 fr2 fr3 fr4 fr5 HROW
    have hrow : w4.heap[w.heap.size]? = some (.cells #[.int .i64 0, .int .i64 0, .int .i64 0, .int .i64 0, .slice none 0 0, .slice none 0 0] 47 (0, 0)) := by
      rw [(HG4.out).block _ (by simp) (fun e => by injection e with e; omega)]; exact heap_alloc_new w _
    have HROW := Lib.hid hrow
    have hsz := (HG4.out).size
    simp at hsz
    have fr : ∀ i, w4.frozen? ⟨w.heap.size, i, none⟩ = false := fun i => frozen_of_row w4 _ i _ _ hrow
    have c0 : ∀ i, w4.cell? ⟨w.heap.size, i, none⟩ = (#[.int .i64 0, .int .i64 0, .int .i64 0, .int .i64 0, .slice none 0 0, .slice none 0 0] : Array Value)[i]? := fun i => cell_of_row _ _ _ _ _ _ hrow
    have c00 := c0 0
    have c01 := c0 1
    have c02 := c0 2
    have c03 := c0 3
    have c04 := c0 4
    have c05 := c0 5
    have fr0 := fr 0
    have fr1 := fr 1
    have fr2 := fr 2
    have fr3 := fr 3
    have fr4 := fr 4
    have fr5 := fr 5
    simp at c00 c01 c02 c03 c04 c05
    clear hrow c0 fr
    go_wp2_with fail
    refine bodyPost_ret (results_cell_row rfl _ _ w.heap.size 47 _ (0, 0) _ rfl (box6 HROW.out _ _ _ _ _ _).1 Tryd.underlying47 rfl rfl) rfl (one_close (box6 HROW.out _ _ _ _ _ _).2 HG4.out hg HD4.out (StX.nil _ _) (StX.nil _ _) (by simp [szL, ss] <;> omega) (by simp [kk] <;> omega))
  · go_wp2_with fail
    refine (num_any g (p + 1 + 1 + 1) _ [4, 1, 2, 5] 3 _ (HD3.out.low (bel_a _ _) HD3.out.lt) (by omega) (RowB.new _ _ _) (by have := HD3.out.lt; omega) (by simp) (by simp)).mono ?_
    rintro e w4 ⟨nn, rfl, -, hd4, hg4⟩
    have HD4 := Lib.hid hd4
    have HG4 := Lib.hid (grown_tr HG3.out (grown_tr (grown_bel (bel_a w3 _) (Nat.le_refl _) _) hg4))
    clear hd4 hg4 c00 c01 c02 c03 c04 c05 fr0 fr1 fr2 fr3 fr4 fr5 HROW
    have hrow : w4.heap[w.heap.size]? = some (.cells #[.int .i64 0, .int .i64 0, .int .i64 0, .int .i64 0, .slice none 0 0, .slice none 0 0] 47 (0, 0)) := by
      rw [(HG4.out).block _ (by simp) (fun e => by injection e with e; omega)]; exact heap_alloc_new w _
    have HROW := Lib.hid hrow
    have hsz := (HG4.out).size
    simp at hsz
    have fr : ∀ i, w4.frozen? ⟨w.heap.size, i, none⟩ = false := fun i => frozen_of_row w4 _ i _ _ hrow
    have c0 : ∀ i, w4.cell? ⟨w.heap.size, i, none⟩ = (#[.int .i64 0, .int .i64 0, .int .i64 0, .int .i64 0, .slice none 0 0, .slice none 0 0] : Array Value)[i]? := fun i => cell_of_row _ _ _ _ _ _ hrow
    have c00 := c0 0
    have c01 := c0 1
    have c02 := c0 2
    have c03 := c0 3
    have c04 := c0 4
    have c05 := c0 5
    have fr0 := fr 0
    have fr1 := fr 1
    have fr2 := fr 2
    have fr3 := fr 3
    have fr4 := fr 4
    have fr5 := fr 5
    simp at c00 c01 c02 c03 c04 c05
    clear hrow c0 fr
    go_wp2_with fail
    refine bodyPost_ret (results_cell_row rfl _ _ w.heap.size 47 _ (0, 0) _ rfl (box6 HROW.out _ _ _ _ _ _).1 Tryd.underlying47 rfl rfl) rfl (one_close (box6 HROW.out _ _ _ _ _ _).2 HG4.out hg HD4.out (StX.nil _ _) (StX.nil _ _) (by simp [szL, ss] <;> omega) (by simp [kk] <;> omega))
  · go_wp2_with fail
    refine bodyPost_ret (results_cell_row rfl _ _ w.heap.size 47 _ (0, 0) _ rfl (box6 HROW.out _ _ _ _ _ _).1 Tryd.underlying47 rfl rfl) rfl (one_close (box6 HROW.out _ _ _ _ _ _).2 HG3.out hg HD3.out (StX.nil _ _) (StX.nil _ _) (by simp [szL, ss] <;> omega) (by simp [kk] <;> omega))
  · go_wp2_with fail
    refine (pick_any g (p + 1 + 1 + 1) _ _ HD3.out (by omega) (by omega) (by omega)).mono ?_
    rintro e w4 ⟨jn, rfl, j0, j1, hd4, hg4⟩
    have j2 := j1 (by omega)
    obtain ⟨j, rfl⟩ := Int.eq_ofNat_of_zero_le j0
    have HD4 := Lib.hid hd4
    have HG4 := Lib.hid (grown_tr HG3.out hg4)
    have hjk : j * kk d ≤ 2 * Kd := by rw [HK.out]; exact Nat.mul_le_mul_right _ (by omega)
    have HJ : Hid (p + 1 + 1 + 1 + 1 + 1 + j * kk d ≤ 1000000) := Lib.hid (by omega)
    have HJK := Lib.hid hjk
    have hs4 := HG4.out.size
    simp at hs4
    clear j1 hd4 hg4 c00 c01 c02 c03 c04 c05 fr0 fr1 fr2 fr3 fr4 fr5 HROW hjk
    go_wp2_with fail
    refine (h1 g _ j vt _ (by omega) HD4.out HJ.out).mono ?_
    rintro e w5 ⟨v5, l5, q5, rfl, hos5, hsz5, hq5, hd5, hg5⟩
    have HD5 := Lib.hid hd5
    have HG5 := Lib.hid (grown_tr HG4.out hg5)
    have hs5 := hg5.size
    obtain ⟨A5, c5, rfl, -⟩ := hos5.slice
    have HOS5 := Lib.hid hos5
    have HSZ5 := Lib.hid hsz5
    have HQ5 := Lib.hid hq5
    have HP5 : Hid (q5 + kk 0 ≤ 1000000) := Lib.hid (by have := HJK.out; simp only [kk]; omega)
    clear hd5 hg5 hos5 hsz5 hq5
    go_wp2_with fail
    refine (h0 g q5 vt _ HD5.out HP5.out).mono ?_
    rintro e w6 ⟨op, x, y, m, tv, ev, th, el, q6, rfl, hT6, hE6, hS6, hq6, hd6, hg6⟩
    obtain ⟨A6, c6, rfl, -⟩ := hT6.slice
    obtain ⟨A7, c7, rfl, -⟩ := hE6.slice
    have hs6 := hg6.size
    have HG6 := Lib.hid (grown_tr HG5.out hg6)
    have hlit : OSt (w6.alloc (.cells #[.int .i64 op, .int .i64 x, .int .i64 y, .int .i64 m, .slice A6 th.length c6, .slice A7 el.length c7] 47)) (w.heap.size + 1) (.slice (some ⟨w6.heap.size, 0, none⟩) 1 1) [.mk op x y m th el] :=
      OSt.lit w6 (w.heap.size + 1) [⟨op, x, y, m, .slice A6 th.length c6, .slice A7 el.length c7, th, el⟩] (by omega) (by simp) (fun e he => by
        simp at he
        subst he
        exact ⟨hT6.frame (Nat.le_refl _) fun b hb _ => ⟨by omega, rfl⟩, hE6.frame (Nat.le_refl _) fun b hb _ => ⟨by omega, rfl⟩⟩)
    have hl5 := ((HOS5.out.grown hg6 (by omega)).alloc (.cells #[.int .i64 op, .int .i64 x, .int .i64 y, .int .i64 m, .slice A6 th.length c6, .slice A7 el.length c7] 47)).toX
    have HT := Lib.hid (hl5.frame (P' := fun b => w.heap.size + 1 ≤ b) (Nat.le_refl _) fun b hb _ => ⟨by omega, rfl⟩)
    have HE := Lib.hid hlit.toX
    have HS : Hid (1 + szL l5 + szL [.mk op x y m th el] ≤ ss (d + 1)) := Lib.hid (by
      have a1 := HSZ5.out
      have a2 : j * ss d ≤ 2 * ss d := Nat.mul_le_mul_right _ (by omega)
      simp only [ss] at hS6 ⊢
      simp only [szL, St.sz]
      omega)
    have HQ : Hid (q6 ≤ p + kk (d + 1)) := Lib.hid (by
      have a1 := HQ5.out
      have a2 := HJK.out
      have a3 := HK.out
      simp only [kk] at hq6 ⊢
      omega)
    have HDL := Lib.hid (hd6.low (bel_a w6 (.cells #[.int .i64 op, .int .i64 x, .int .i64 y, .int .i64 m, .slice A6 th.length c6, .slice A7 el.length c7] 47)) hd6.lt)
    have HGL := Lib.hid (grown_tr HG6.out (grown_bel (bel_a w6 (.cells #[.int .i64 op, .int .i64 x, .int .i64 y, .int .i64 m, .slice A6 th.length c6, .slice A7 el.length c7] 47)) (Nat.le_refl _) _))
    clear hT6 hE6 hS6 hq6 hd6 hg6 hlit hl5
    have hrow : w6.heap[w.heap.size]? = some (.cells #[.int .i64 0, .int .i64 0, .int .i64 0, .int .i64 0, .slice none 0 0, .slice none 0 0] 47 (0, 0)) := by
      rw [(HG6.out).block _ (by simp) (fun e => by injection e with e; omega)]; exact heap_alloc_new w _
    have HROW := Lib.hid hrow
    have hsz := (HG6.out).size
    simp at hsz
    have fr : ∀ i, w6.frozen? ⟨w.heap.size, i, none⟩ = false := fun i => frozen_of_row w6 _ i _ _ hrow
    have c0 : ∀ i, w6.cell? ⟨w.heap.size, i, none⟩ = (#[.int .i64 0, .int .i64 0, .int .i64 0, .int .i64 0, .slice none 0 0, .slice none 0 0] : Array Value)[i]? := fun i => cell_of_row _ _ _ _ _ _ hrow
    have c00 := c0 0
    have c01 := c0 1
    have c02 := c0 2
    have c03 := c0 3
    have c04 := c0 4
    have c05 := c0 5
    have fr0 := fr 0
    have fr1 := fr 1
    have fr2 := fr 2
    have fr3 := fr 3
    have fr4 := fr 4
    have fr5 := fr 5
    simp at c00 c01 c02 c03 c04 c05
    clear hrow c0 fr
    have HROWL := Lib.hid (((bel_a w6 (.cells #[.int .i64 op, .int .i64 x, .int .i64 y, .int .i64 m, .slice A6 th.length c6, .slice A7 el.length c7] 47)).block w.heap.size (by omega)).trans HROW.out)
    have z0 : (w6.alloc (.cells #[.int .i64 op, .int .i64 x, .int .i64 y, .int .i64 m, .slice A6 th.length c6, .slice A7 el.length c7] 47)).cell? ⟨w.heap.size, 0, none⟩ = some (.int .i64 0) := by rw [cell_of_row _ _ _ _ _ _ HROWL.out]; rfl
    have y0 : (w6.alloc (.cells #[.int .i64 op, .int .i64 x, .int .i64 y, .int .i64 m, .slice A6 th.length c6, .slice A7 el.length c7] 47)).frozen? ⟨w.heap.size, 0, none⟩ = false := frozen_of_row _ _ 0 _ _ HROWL.out
    have z1 : (w6.alloc (.cells #[.int .i64 op, .int .i64 x, .int .i64 y, .int .i64 m, .slice A6 th.length c6, .slice A7 el.length c7] 47)).cell? ⟨w.heap.size, 1, none⟩ = some (.int .i64 0) := by rw [cell_of_row _ _ _ _ _ _ HROWL.out]; rfl
    have y1 : (w6.alloc (.cells #[.int .i64 op, .int .i64 x, .int .i64 y, .int .i64 m, .slice A6 th.length c6, .slice A7 el.length c7] 47)).frozen? ⟨w.heap.size, 1, none⟩ = false := frozen_of_row _ _ 1 _ _ HROWL.out
    have z2 : (w6.alloc (.cells #[.int .i64 op, .int .i64 x, .int .i64 y, .int .i64 m, .slice A6 th.length c6, .slice A7 el.length c7] 47)).cell? ⟨w.heap.size, 2, none⟩ = some (.int .i64 0) := by rw [cell_of_row _ _ _ _ _ _ HROWL.out]; rfl
    have y2 : (w6.alloc (.cells #[.int .i64 op, .int .i64 x, .int .i64 y, .int .i64 m, .slice A6 th.length c6, .slice A7 el.length c7] 47)).frozen? ⟨w.heap.size, 2, none⟩ = false := frozen_of_row _ _ 2 _ _ HROWL.out
    have z3 : (w6.alloc (.cells #[.int .i64 op, .int .i64 x, .int .i64 y, .int .i64 m, .slice A6 th.length c6, .slice A7 el.length c7] 47)).cell? ⟨w.heap.size, 3, none⟩ = some (.int .i64 0) := by rw [cell_of_row _ _ _ _ _ _ HROWL.out]; rfl
    have y3 : (w6.alloc (.cells #[.int .i64 op, .int .i64 x, .int .i64 y, .int .i64 m, .slice A6 th.length c6, .slice A7 el.length c7] 47)).frozen? ⟨w.heap.size, 3, none⟩ = false := frozen_of_row _ _ 3 _ _ HROWL.out
    have z4 : (w6.alloc (.cells #[.int .i64 op, .int .i64 x, .int .i64 y, .int .i64 m, .slice A6 th.length c6, .slice A7 el.length c7] 47)).cell? ⟨w.heap.size, 4, none⟩ = some (.slice none 0 0) := by rw [cell_of_row _ _ _ _ _ _ HROWL.out]; rfl
    have y4 : (w6.alloc (.cells #[.int .i64 op, .int .i64 x, .int .i64 y, .int .i64 m, .slice A6 th.length c6, .slice A7 el.length c7] 47)).frozen? ⟨w.heap.size, 4, none⟩ = false := frozen_of_row _ _ 4 _ _ HROWL.out
    have z5 : (w6.alloc (.cells #[.int .i64 op, .int .i64 x, .int .i64 y, .int .i64 m, .slice A6 th.length c6, .slice A7 el.length c7] 47)).cell? ⟨w.heap.size, 5, none⟩ = some (.slice none 0 0) := by rw [cell_of_row _ _ _ _ _ _ HROWL.out]; rfl
    have y5 : (w6.alloc (.cells #[.int .i64 op, .int .i64 x, .int .i64 y, .int .i64 m, .slice A6 th.length c6, .slice A7 el.length c7] 47)).frozen? ⟨w.heap.size, 5, none⟩ = false := frozen_of_row _ _ 5 _ _ HROWL.out
    go_wp2_with fail
    refine bodyPost_ret (results_cell_row rfl _ _ w.heap.size 47 _ (0, 0) _ rfl (box6 HROWL.out _ _ _ _ _ _).1 Tryd.underlying47 rfl rfl) rfl (one_close (box6 HROWL.out _ _ _ _ _ _).2 HGL.out hg HDL.out HT.out HE.out HS.out HQ.out)
  · go_wp2_with fail
    refine (h0 g (p + 1 + 1 + 1) vt _ HD3.out (by simp only [kk]; omega)).mono ?_
    rintro e w5 ⟨op, x, y, m, tv, ev, th, el, q5, rfl, hT5, hE5, hS5, hq5, hd5, hg5⟩
    have hs3 := HG3.out.size
    simp at hs3
    obtain ⟨A6, c6, rfl, -⟩ := hT5.slice
    obtain ⟨A7, c7, rfl, -⟩ := hE5.slice
    have HT5 := Lib.hid hT5
    have HE5 := Lib.hid hE5
    have HS5 := Lib.hid hS5
    have HQ5 := Lib.hid hq5
    have HD5 := Lib.hid hd5
    have HG5 := Lib.hid (grown_tr HG3.out hg5)
    have hs5 := hg5.size
    have HP5 : Hid (q5 + kk 0 ≤ 1000000) := Lib.hid (by simp only [kk] at hq5 ⊢; omega)
    clear hT5 hE5 hS5 hq5 hd5 hg5 c00 c01 c02 c03 c04 c05 fr0 fr1 fr2 fr3 fr4 fr5 HROW
    go_wp2_with fail
    refine (h0 g q5 vt _ HD5.out HP5.out).mono ?_
    rintro e w6 ⟨op', x', y', m', tv, ev, th', el', q6, rfl, hT6, hE6, hS6, hq6, hd6, hg6⟩
    obtain ⟨A8, c8, rfl, -⟩ := hT6.slice
    obtain ⟨A9, c9, rfl, -⟩ := hE6.slice
    have hs6 := hg6.size
    have HG6 := Lib.hid (grown_tr HG5.out hg6)
    have hk5 : ∀ b, w3.heap.size ≤ b → b < w5.heap.size → w.heap.size + 1 ≤ b ∧ w6.heap[b]? = w5.heap[b]? := fun b hb hl => ⟨by omega, hg6.block b hl (fun e => by injection e with e; omega)⟩
    have hlit : OSt (w6.alloc (.cells #[.int .i64 op, .int .i64 x, .int .i64 y, .int .i64 m, .slice A6 th.length c6, .slice A7 el.length c7, .int .i64 op', .int .i64 x', .int .i64 y', .int .i64 m', .slice A8 th'.length c8, .slice A9 el'.length c9] 47)) (w.heap.size + 1) (.slice (some ⟨w6.heap.size, 0, none⟩) 2 2) [.mk op x y m th el, .mk op' x' y' m' th' el'] :=
      OSt.lit w6 (w.heap.size + 1) [⟨op, x, y, m, .slice A6 th.length c6, .slice A7 el.length c7, th, el⟩, ⟨op', x', y', m', .slice A8 th'.length c8, .slice A9 el'.length c9, th', el'⟩] (by omega) (by simp) (fun e he => by
        simp at he
        rcases he with rfl | rfl
        · exact ⟨HT5.out.frame hs6 hk5, HE5.out.frame hs6 hk5⟩
        · exact ⟨hT6.frame (Nat.le_refl _) fun b hb _ => ⟨by omega, rfl⟩, hE6.frame (Nat.le_refl _) fun b hb _ => ⟨by omega, rfl⟩⟩)
    have HT := Lib.hid hlit.toX
    have HS : Hid (1 + szL [.mk op x y m th el, .mk op' x' y' m' th' el'] + szL [] ≤ ss (d + 1)) := Lib.hid (by
      have a1 := HS5.out
      simp only [ss] at a1 hS6 ⊢
      simp only [szL, St.sz]
      omega)
    have HQ : Hid (q6 ≤ p + kk (d + 1)) := Lib.hid (by
      have a1 := HQ5.out
      simp only [kk] at a1 hq6 ⊢
      omega)
    have HDL := Lib.hid (hd6.low (bel_a w6 (.cells #[.int .i64 op, .int .i64 x, .int .i64 y, .int .i64 m, .slice A6 th.length c6, .slice A7 el.length c7, .int .i64 op', .int .i64 x', .int .i64 y', .int .i64 m', .slice A8 th'.length c8, .slice A9 el'.length c9] 47)) hd6.lt)
    have HGL := Lib.hid (grown_tr HG6.out (grown_bel (bel_a w6 (.cells #[.int .i64 op, .int .i64 x, .int .i64 y, .int .i64 m, .slice A6 th.length c6, .slice A7 el.length c7, .int .i64 op', .int .i64 x', .int .i64 y', .int .i64 m', .slice A8 th'.length c8, .slice A9 el'.length c9] 47)) (Nat.le_refl _) _))
    clear hT6 hE6 hS6 hq6 hd6 hg6 hlit hk5
    have hrow : w6.heap[w.heap.size]? = some (.cells #[.int .i64 0, .int .i64 0, .int .i64 0, .int .i64 0, .slice none 0 0, .slice none 0 0] 47 (0, 0)) := by
      rw [(HG6.out).block _ (by simp) (fun e => by injection e with e; omega)]; exact heap_alloc_new w _
    have HROW := Lib.hid hrow
    have hsz := (HG6.out).size
    simp at hsz
    have fr : ∀ i, w6.frozen? ⟨w.heap.size, i, none⟩ = false := fun i => frozen_of_row w6 _ i _ _ hrow
    have c0 : ∀ i, w6.cell? ⟨w.heap.size, i, none⟩ = (#[.int .i64 0, .int .i64 0, .int .i64 0, .int .i64 0, .slice none 0 0, .slice none 0 0] : Array Value)[i]? := fun i => cell_of_row _ _ _ _ _ _ hrow
    have c00 := c0 0
    have c01 := c0 1
    have c02 := c0 2
    have c03 := c0 3
    have c04 := c0 4
    have c05 := c0 5
    have fr0 := fr 0
    have fr1 := fr 1
    have fr2 := fr 2
    have fr3 := fr 3
    have fr4 := fr 4
    have fr5 := fr 5
    simp at c00 c01 c02 c03 c04 c05
    clear hrow c0 fr
    have HROWL := Lib.hid (((bel_a w6 (.cells #[.int .i64 op, .int .i64 x, .int .i64 y, .int .i64 m, .slice A6 th.length c6, .slice A7 el.length c7, .int .i64 op', .int .i64 x', .int .i64 y', .int .i64 m', .slice A8 th'.length c8, .slice A9 el'.length c9] 47)).block w.heap.size (by omega)).trans HROW.out)
    have z0 : (w6.alloc (.cells #[.int .i64 op, .int .i64 x, .int .i64 y, .int .i64 m, .slice A6 th.length c6, .slice A7 el.length c7, .int .i64 op', .int .i64 x', .int .i64 y', .int .i64 m', .slice A8 th'.length c8, .slice A9 el'.length c9] 47)).cell? ⟨w.heap.size, 0, none⟩ = some (.int .i64 0) := by rw [cell_of_row _ _ _ _ _ _ HROWL.out]; rfl
    have y0 : (w6.alloc (.cells #[.int .i64 op, .int .i64 x, .int .i64 y, .int .i64 m, .slice A6 th.length c6, .slice A7 el.length c7, .int .i64 op', .int .i64 x', .int .i64 y', .int .i64 m', .slice A8 th'.length c8, .slice A9 el'.length c9] 47)).frozen? ⟨w.heap.size, 0, none⟩ = false := frozen_of_row _ _ 0 _ _ HROWL.out
    have z1 : (w6.alloc (.cells #[.int .i64 op, .int .i64 x, .int .i64 y, .int .i64 m, .slice A6 th.length c6, .slice A7 el.length c7, .int .i64 op', .int .i64 x', .int .i64 y', .int .i64 m', .slice A8 th'.length c8, .slice A9 el'.length c9] 47)).cell? ⟨w.heap.size, 1, none⟩ = some (.int .i64 0) := by rw [cell_of_row _ _ _ _ _ _ HROWL.out]; rfl
    have y1 : (w6.alloc (.cells #[.int .i64 op, .int .i64 x, .int .i64 y, .int .i64 m, .slice A6 th.length c6, .slice A7 el.length c7, .int .i64 op', .int .i64 x', .int .i64 y', .int .i64 m', .slice A8 th'.length c8, .slice A9 el'.length c9] 47)).frozen? ⟨w.heap.size, 1, none⟩ = false := frozen_of_row _ _ 1 _ _ HROWL.out
    have z2 : (w6.alloc (.cells #[.int .i64 op, .int .i64 x, .int .i64 y, .int .i64 m, .slice A6 th.length c6, .slice A7 el.length c7, .int .i64 op', .int .i64 x', .int .i64 y', .int .i64 m', .slice A8 th'.length c8, .slice A9 el'.length c9] 47)).cell? ⟨w.heap.size, 2, none⟩ = some (.int .i64 0) := by rw [cell_of_row _ _ _ _ _ _ HROWL.out]; rfl
    have y2 : (w6.alloc (.cells #[.int .i64 op, .int .i64 x, .int .i64 y, .int .i64 m, .slice A6 th.length c6, .slice A7 el.length c7, .int .i64 op', .int .i64 x', .int .i64 y', .int .i64 m', .slice A8 th'.length c8, .slice A9 el'.length c9] 47)).frozen? ⟨w.heap.size, 2, none⟩ = false := frozen_of_row _ _ 2 _ _ HROWL.out
    have z3 : (w6.alloc (.cells #[.int .i64 op, .int .i64 x, .int .i64 y, .int .i64 m, .slice A6 th.length c6, .slice A7 el.length c7, .int .i64 op', .int .i64 x', .int .i64 y', .int .i64 m', .slice A8 th'.length c8, .slice A9 el'.length c9] 47)).cell? ⟨w.heap.size, 3, none⟩ = some (.int .i64 0) := by rw [cell_of_row _ _ _ _ _ _ HROWL.out]; rfl
    have y3 : (w6.alloc (.cells #[.int .i64 op, .int .i64 x, .int .i64 y, .int .i64 m, .slice A6 th.length c6, .slice A7 el.length c7, .int .i64 op', .int .i64 x', .int .i64 y', .int .i64 m', .slice A8 th'.length c8, .slice A9 el'.length c9] 47)).frozen? ⟨w.heap.size, 3, none⟩ = false := frozen_of_row _ _ 3 _ _ HROWL.out
    have z4 : (w6.alloc (.cells #[.int .i64 op, .int .i64 x, .int .i64 y, .int .i64 m, .slice A6 th.length c6, .slice A7 el.length c7, .int .i64 op', .int .i64 x', .int .i64 y', .int .i64 m', .slice A8 th'.length c8, .slice A9 el'.length c9] 47)).cell? ⟨w.heap.size, 4, none⟩ = some (.slice none 0 0) := by rw [cell_of_row _ _ _ _ _ _ HROWL.out]; rfl
    have y4 : (w6.alloc (.cells #[.int .i64 op, .int .i64 x, .int .i64 y, .int .i64 m, .slice A6 th.length c6, .slice A7 el.length c7, .int .i64 op', .int .i64 x', .int .i64 y', .int .i64 m', .slice A8 th'.length c8, .slice A9 el'.length c9] 47)).frozen? ⟨w.heap.size, 4, none⟩ = false := frozen_of_row _ _ 4 _ _ HROWL.out
    have z5 : (w6.alloc (.cells #[.int .i64 op, .int .i64 x, .int .i64 y, .int .i64 m, .slice A6 th.length c6, .slice A7 el.length c7, .int .i64 op', .int .i64 x', .int .i64 y', .int .i64 m', .slice A8 th'.length c8, .slice A9 el'.length c9] 47)).cell? ⟨w.heap.size, 5, none⟩ = some (.slice none 0 0) := by rw [cell_of_row _ _ _ _ _ _ HROWL.out]; rfl
    have y5 : (w6.alloc (.cells #[.int .i64 op, .int .i64 x, .int .i64 y, .int .i64 m, .slice A6 th.length c6, .slice A7 el.length c7, .int .i64 op', .int .i64 x', .int .i64 y', .int .i64 m', .slice A8 th'.length c8, .slice A9 el'.length c9] 47)).frozen? ⟨w.heap.size, 5, none⟩ = false := frozen_of_row _ _ 5 _ _ HROWL.out
    go_wp2_with fail
    refine bodyPost_ret (results_cell_row rfl _ _ w.heap.size 47 _ (0, 0) _ rfl (box6 HROWL.out _ _ _ _ _ _).1 Tryd.underlying47 rfl rfl) rfl (one_close (box6 HROWL.out _ _ _ _ _ _).2 HGL.out hg HDL.out HT.out (StX.nil _ _) HS.out HQ.out)

theorem some_two : SomeOk 2 := by
  have o0 := oneOk_zero
  have o1 := oneOk_succ 0 (by omega) o0 (someOk_of 0 (by omega) o0)
  have o2 := oneOk_succ 1 (by omega) o0 (someOk_of 1 (by omega) o1)
  exact someOk_of 2 (by omega) o2

end Go.Proofs.YtfioaohadanjmaaDoor
