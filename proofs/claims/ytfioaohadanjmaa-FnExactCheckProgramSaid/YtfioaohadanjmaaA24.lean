import Derived.Test.YtfioaohadanjmaaA21
import Derived.Test.YtfioaohadanjmaaA22
import Derived.Test.YtfioaohadanjmaaA23
set_option linter.unusedVariables false

/- Loans: impl.graph.cameFrom, loansIn; impl.LoansIn. -/
namespace Go.Proofs.Ytfioaohadanjmaa
open Go.RowKit

/-- a row of six numbers is stored over another one -/
theorem set6 {w : World} {b : Nat} {t : TypeId} {l : List Nat} {a0 a1 a2 a3 a4 a5 : Nat} (h : RowB w b t (uv l)) (hl : l.length = 6) :
    ((((((w.setCell ⟨b, 0, none⟩ (.int .u64 (a0 : Nat))).setCell ⟨b, 1, none⟩ (.int .u64 (a1 : Nat))).setCell ⟨b, 2, none⟩ (.int .u64 (a2 : Nat))).setCell ⟨b, 3, none⟩ (.int .u64 (a3 : Nat))).setCell ⟨b, 4, none⟩ (.int .u64 (a4 : Nat))).setCell ⟨b, 5, none⟩ (.int .u64 (a5 : Nat))).heap[b]? = some (.cells #[.int .u64 (a0 : Nat), .int .u64 (a1 : Nat), .int .u64 (a2 : Nat), .int .u64 (a3 : Nat), .int .u64 (a4 : Nat), .int .u64 (a5 : Nat)] t (0, 0)) ∧
    w.grownBy ((((((w.setCell ⟨b, 0, none⟩ (.int .u64 (a0 : Nat))).setCell ⟨b, 1, none⟩ (.int .u64 (a1 : Nat))).setCell ⟨b, 2, none⟩ (.int .u64 (a2 : Nat))).setCell ⟨b, 3, none⟩ (.int .u64 (a3 : Nat))).setCell ⟨b, 4, none⟩ (.int .u64 (a4 : Nat))).setCell ⟨b, 5, none⟩ (.int .u64 (a5 : Nat))) (some b) := by
  obtain ⟨b0, b1, b2, b3, b4, b5, rfl⟩ := list6 hl
  exact box6 h _ _ _ _ _ _
theorem OInts.base {w : World} {base base' : Nat} {v : Value} {l : List Int} (h : OInts w base v l) (hb : base' ≤ base) : OInts w base' v l := by
  refine ⟨h.1, ?_⟩
  rcases h.2 with h' | ⟨g, cap, cur, rfl, hbg, rest⟩
  · exact .inl h'
  · exact .inr ⟨g, cap, cur, rfl, by omega, rest⟩
/-- what is shifted or taken over at a loan, a move -/
theorem gl_new {ts : List Int} {p : Pt} {k s : Nat} {f : Nat → Bool} (ho : p.op = 4 ∨ p.op = 5) (hc : isRefP (typeOfP ts p.y) = true) (hs : ∀ e, s.testBit e = (e == k || f e)) (e : Nat) : s.testBit e = (Gloan k p e || (Cloan ts p && f e)) := by
  rw [hs e]; unfold Gloan Cloan; rw [hc]
  rcases ho with h | h <;> simp [h]
theorem gl_one {ts : List Int} {p : Pt} {k s : Nat} {f : Nat → Bool} (ho : p.op = 4 ∨ p.op = 5) (hc : isRefP (typeOfP ts p.y) = false) (hs : ∀ e, s.testBit e = (e == k)) (e : Nat) : s.testBit e = (Gloan k p e || (Cloan ts p && f e)) := by
  rw [hs e]; unfold Gloan Cloan; rw [hc]
  rcases ho with h | h <;> simp [h]
theorem gl_move {ts : List Int} {p : Pt} {k s : Nat} {f : Nat → Bool} (ho : p.op = 3) (hs : ∀ e, s.testBit e = f e) (e : Nat) : s.testBit e = (Gloan k p e || (Cloan ts p && f e)) := by
  rw [hs e]; unfold Gloan Cloan; simp [ho]
theorem gl_none {ts : List Int} {p : Pt} {k : Nat} {f : Nat → Bool} (h3 : ¬ p.op = 3) (h4 : ¬ p.op = 4) (h5 : ¬ p.op = 5) (e : Nat) : (0 : Nat).testBit e = (Gloan k p e || (Cloan ts p && f e)) := by
  unfold Gloan Cloan; simp [h3, h4, h5]

set_option maxHeartbeats 4000000 in
set_option maxRecDepth 100000 in
theorem cameFrom_any (vg : Value) (ts : List Int) (pts : List Pt) (B : Nat) (w : World) (hg : GrS w B vg ts pts) (hB : B ≤ w.heap.size) (gd : Good ts pts) (k : Nat) (hk : k < pts.length) (ns : List Nat) (hT : TrI ts pts Gloan (Cloan ts) ns) (a0 a1 a2 a3 a4 a5 : Nat) (hA : ∀ u, u < 6 → ([a0, a1, a2, a3, a4, a5] : List Nat).getD u 0 = ns.getD (k * 6 + u) 0) :
    Calls Try.prog 84 #[vg, .int .i64 (k : Nat), .agg #[.int .u64 (a0 : Nat), .int .u64 (a1 : Nat), .int .u64 (a2 : Nat), .int .u64 (a3 : Nat), .int .u64 (a4 : Nat), .int .u64 (a5 : Nat)]] w fun e w' => ∃ b0 b1 b2 b3 b4 b5 : Nat, e = .returned (.agg #[.int .u64 (b0 : Nat), .int .u64 (b1 : Nat), .int .u64 (b2 : Nat), .int .u64 (b3 : Nat), .int .u64 (b4 : Nat), .int .u64 (b5 : Nat)]) ∧ AfL ts Gloan (Cloan ts) k pts[k] (stF ns k) [b0, b1, b2, b3, b4, b5] ∧ Below w.heap.size w w' := by
  have HG := Lib.hid hg
  have GD := Lib.hid gd
  have HFX := Lib.hid hT
  have HA := Lib.hid hA
  have h6 := gd.h6
  have hpl := gd.len
  have HSK := Lib.hid ((gd.ok _ (List.getElem_mem hk)).sets)
  have HPK := Lib.hid (gd.ok _ (List.getElem_mem hk))
  have HPG := Lib.hid (List.getElem?_eq_getElem hk)
  clear hT hA gd
  obtain ⟨g, At, ct, vb, Al, cl, rfl, hgB, g0, g1, g2, ht, hp, htl, hpl'⟩ := hg.open_
  obtain ⟨b, off, c, nv, e, hb, hc, hl, hnx, z0, z1, z2, z3, z4⟩ := hp.get hk
  injection e with e1 e9 e2
  subst e1 e2
  clear e9
  have hbB : b < w.heap.size := by omega
  have hgw : g < w.heap.size := by omega
  obtain ⟨An, cn, rfl, hcn, hln, -⟩ := hnx
  simp only [List.length_map] at hcn hln z4
  have HY := Lib.hid (fun ho => GD.out.y (List.getElem?_eq_getElem hk) ho)
  generalize pts[k] = P at *
  have HA0 : Hid (∀ u, u < 6 → ([a0, a1, a2, a3, a4, a5] : List Nat).getD u 0 < top64) := Lib.hid fun u hu => by rw [HA.out u hu]; exact getD_small HFX.out.small _
  have HF0 := Lib.hid (RowB.new w (uv [a0, a1, a2, a3, a4, a5]) 74)
  have q0 : ∀ o o', (((w.alloc (.cells #[.int .u64 (a0 : Nat), .int .u64 (a1 : Nat), .int .u64 (a2 : Nat), .int .u64 (a3 : Nat), .int .u64 (a4 : Nat), .int .u64 (a5 : Nat)] 74)).alloc o).alloc o').cell? ⟨w.heap.size, 0, none⟩ = some (.int .u64 (a0 : Nat)) := fun o o' => ((HF0.out.alloc o).alloc o').cell 0
  have q1 : ∀ o o', (((w.alloc (.cells #[.int .u64 (a0 : Nat), .int .u64 (a1 : Nat), .int .u64 (a2 : Nat), .int .u64 (a3 : Nat), .int .u64 (a4 : Nat), .int .u64 (a5 : Nat)] 74)).alloc o).alloc o').cell? ⟨w.heap.size, 1, none⟩ = some (.int .u64 (a1 : Nat)) := fun o o' => ((HF0.out.alloc o).alloc o').cell 1
  have q2 : ∀ o o', (((w.alloc (.cells #[.int .u64 (a0 : Nat), .int .u64 (a1 : Nat), .int .u64 (a2 : Nat), .int .u64 (a3 : Nat), .int .u64 (a4 : Nat), .int .u64 (a5 : Nat)] 74)).alloc o).alloc o').cell? ⟨w.heap.size, 2, none⟩ = some (.int .u64 (a2 : Nat)) := fun o o' => ((HF0.out.alloc o).alloc o').cell 2
  have q3 : ∀ o o', (((w.alloc (.cells #[.int .u64 (a0 : Nat), .int .u64 (a1 : Nat), .int .u64 (a2 : Nat), .int .u64 (a3 : Nat), .int .u64 (a4 : Nat), .int .u64 (a5 : Nat)] 74)).alloc o).alloc o').cell? ⟨w.heap.size, 3, none⟩ = some (.int .u64 (a3 : Nat)) := fun o o' => ((HF0.out.alloc o).alloc o').cell 3
  have q4 : ∀ o o', (((w.alloc (.cells #[.int .u64 (a0 : Nat), .int .u64 (a1 : Nat), .int .u64 (a2 : Nat), .int .u64 (a3 : Nat), .int .u64 (a4 : Nat), .int .u64 (a5 : Nat)] 74)).alloc o).alloc o').cell? ⟨w.heap.size, 4, none⟩ = some (.int .u64 (a4 : Nat)) := fun o o' => ((HF0.out.alloc o).alloc o').cell 4
  have q5 : ∀ o o', (((w.alloc (.cells #[.int .u64 (a0 : Nat), .int .u64 (a1 : Nat), .int .u64 (a2 : Nat), .int .u64 (a3 : Nat), .int .u64 (a4 : Nat), .int .u64 (a5 : Nat)] 74)).alloc o).alloc o').cell? ⟨w.heap.size, 5, none⟩ = some (.int .u64 (a5 : Nat)) := fun o o' => ((HF0.out.alloc o).alloc o').cell 5
  go_enter Try.func84, Try.ntmps84
  go_wp2_with fail
  have HS4 : Hid (((((w.alloc (.cells #[.int .u64 (a0 : Nat), .int .u64 (a1 : Nat), .int .u64 (a2 : Nat), .int .u64 (a3 : Nat), .int .u64 (a4 : Nat), .int .u64 (a5 : Nat)] 74)).alloc (.cells #[.int .u64 0, .int .u64 0, .int .u64 0, .int .u64 0, .int .u64 0, .int .u64 0] 74)).alloc (.cells #[.int .i64 P.op, .int .i64 P.x, .int .i64 P.y, .int .i64 P.n, .slice An P.next.length cn] 62)).alloc (.cells #[.int .u64 (a0 : Nat), .int .u64 (a1 : Nat), .int .u64 (a2 : Nat), .int .u64 (a3 : Nat), .int .u64 (a4 : Nat), .int .u64 (a5 : Nat)] 74)).heap.size = w.heap.size + 4) := Lib.hid (by simp)
  have HB4 : Hid (Below w.heap.size w ((((w.alloc (.cells #[.int .u64 (a0 : Nat), .int .u64 (a1 : Nat), .int .u64 (a2 : Nat), .int .u64 (a3 : Nat), .int .u64 (a4 : Nat), .int .u64 (a5 : Nat)] 74)).alloc (.cells #[.int .u64 0, .int .u64 0, .int .u64 0, .int .u64 0, .int .u64 0, .int .u64 0] 74)).alloc (.cells #[.int .i64 P.op, .int .i64 P.x, .int .i64 P.y, .int .i64 P.n, .slice An P.next.length cn] 62)).alloc (.cells #[.int .u64 (a0 : Nat), .int .u64 (a1 : Nat), .int .u64 (a2 : Nat), .int .u64 (a3 : Nat), .int .u64 (a4 : Nat), .int .u64 (a5 : Nat)] 74))) := Lib.hid ((((bel_a w _).alloc (by simp) _).alloc (by simp <;> omega) _).alloc (by simp <;> omega) _)
  have HRF : Hid (RowB ((((w.alloc (.cells #[.int .u64 (a0 : Nat), .int .u64 (a1 : Nat), .int .u64 (a2 : Nat), .int .u64 (a3 : Nat), .int .u64 (a4 : Nat), .int .u64 (a5 : Nat)] 74)).alloc (.cells #[.int .u64 0, .int .u64 0, .int .u64 0, .int .u64 0, .int .u64 0, .int .u64 0] 74)).alloc (.cells #[.int .i64 P.op, .int .i64 P.x, .int .i64 P.y, .int .i64 P.n, .slice An P.next.length cn] 62)).alloc (.cells #[.int .u64 (a0 : Nat), .int .u64 (a1 : Nat), .int .u64 (a2 : Nat), .int .u64 (a3 : Nat), .int .u64 (a4 : Nat), .int .u64 (a5 : Nat)] 74)) w.heap.size 74 (uv [a0, a1, a2, a3, a4, a5])) := Lib.hid (((HF0.out.alloc _).alloc _).alloc _)
  have HRZ : Hid (RowB ((((w.alloc (.cells #[.int .u64 (a0 : Nat), .int .u64 (a1 : Nat), .int .u64 (a2 : Nat), .int .u64 (a3 : Nat), .int .u64 (a4 : Nat), .int .u64 (a5 : Nat)] 74)).alloc (.cells #[.int .u64 0, .int .u64 0, .int .u64 0, .int .u64 0, .int .u64 0, .int .u64 0] 74)).alloc (.cells #[.int .i64 P.op, .int .i64 P.x, .int .i64 P.y, .int .i64 P.n, .slice An P.next.length cn] 62)).alloc (.cells #[.int .u64 (a0 : Nat), .int .u64 (a1 : Nat), .int .u64 (a2 : Nat), .int .u64 (a3 : Nat), .int .u64 (a4 : Nat), .int .u64 (a5 : Nat)] 74)) (w.heap.size + 1) 74 (uv [0, 0, 0, 0, 0, 0])) := Lib.hid (by
    have h := ((RowB.new (w.alloc (.cells #[.int .u64 (a0 : Nat), .int .u64 (a1 : Nat), .int .u64 (a2 : Nat), .int .u64 (a3 : Nat), .int .u64 (a4 : Nat), .int .u64 (a5 : Nat)] 74)) (uv [0, 0, 0, 0, 0, 0]) 74).alloc (.cells #[.int .i64 P.op, .int .i64 P.x, .int .i64 P.y, .int .i64 P.n, .slice An P.next.length cn] 62)).alloc (.cells #[.int .u64 (a0 : Nat), .int .u64 (a1 : Nat), .int .u64 (a2 : Nat), .int .u64 (a3 : Nat), .int .u64 (a4 : Nat), .int .u64 (a5 : Nat)] 74)
    rw [show (w.alloc (.cells #[.int .u64 (a0 : Nat), .int .u64 (a1 : Nat), .int .u64 (a2 : Nat), .int .u64 (a3 : Nat), .int .u64 (a4 : Nat), .int .u64 (a5 : Nat)] 74)).heap.size = w.heap.size + 1 by simp] at h
    exact h)
  have HRX : Hid (RowB ((((w.alloc (.cells #[.int .u64 (a0 : Nat), .int .u64 (a1 : Nat), .int .u64 (a2 : Nat), .int .u64 (a3 : Nat), .int .u64 (a4 : Nat), .int .u64 (a5 : Nat)] 74)).alloc (.cells #[.int .u64 0, .int .u64 0, .int .u64 0, .int .u64 0, .int .u64 0, .int .u64 0] 74)).alloc (.cells #[.int .i64 P.op, .int .i64 P.x, .int .i64 P.y, .int .i64 P.n, .slice An P.next.length cn] 62)).alloc (.cells #[.int .u64 (a0 : Nat), .int .u64 (a1 : Nat), .int .u64 (a2 : Nat), .int .u64 (a3 : Nat), .int .u64 (a4 : Nat), .int .u64 (a5 : Nat)] 74)) (w.heap.size + 2) 62 [.int .i64 P.op, .int .i64 P.x, .int .i64 P.y, .int .i64 P.n, .slice An P.next.length cn]) := Lib.hid (by
    have h := (RowB.new ((w.alloc (.cells #[.int .u64 (a0 : Nat), .int .u64 (a1 : Nat), .int .u64 (a2 : Nat), .int .u64 (a3 : Nat), .int .u64 (a4 : Nat), .int .u64 (a5 : Nat)] 74)).alloc (.cells #[.int .u64 0, .int .u64 0, .int .u64 0, .int .u64 0, .int .u64 0, .int .u64 0] 74)) [.int .i64 P.op, .int .i64 P.x, .int .i64 P.y, .int .i64 P.n, .slice An P.next.length cn] 62).alloc (.cells #[.int .u64 (a0 : Nat), .int .u64 (a1 : Nat), .int .u64 (a2 : Nat), .int .u64 (a3 : Nat), .int .u64 (a4 : Nat), .int .u64 (a5 : Nat)] 74)
    rw [show ((w.alloc (.cells #[.int .u64 (a0 : Nat), .int .u64 (a1 : Nat), .int .u64 (a2 : Nat), .int .u64 (a3 : Nat), .int .u64 (a4 : Nat), .int .u64 (a5 : Nat)] 74)).alloc (.cells #[.int .u64 0, .int .u64 0, .int .u64 0, .int .u64 0, .int .u64 0, .int .u64 0] 74)).heap.size = w.heap.size + 2 by simp] at h
    exact h)
  have HRO : Hid (RowB ((((w.alloc (.cells #[.int .u64 (a0 : Nat), .int .u64 (a1 : Nat), .int .u64 (a2 : Nat), .int .u64 (a3 : Nat), .int .u64 (a4 : Nat), .int .u64 (a5 : Nat)] 74)).alloc (.cells #[.int .u64 0, .int .u64 0, .int .u64 0, .int .u64 0, .int .u64 0, .int .u64 0] 74)).alloc (.cells #[.int .i64 P.op, .int .i64 P.x, .int .i64 P.y, .int .i64 P.n, .slice An P.next.length cn] 62)).alloc (.cells #[.int .u64 (a0 : Nat), .int .u64 (a1 : Nat), .int .u64 (a2 : Nat), .int .u64 (a3 : Nat), .int .u64 (a4 : Nat), .int .u64 (a5 : Nat)] 74)) (w.heap.size + 3) 74 (uv [a0, a1, a2, a3, a4, a5])) := Lib.hid (by
    have h := RowB.new (((w.alloc (.cells #[.int .u64 (a0 : Nat), .int .u64 (a1 : Nat), .int .u64 (a2 : Nat), .int .u64 (a3 : Nat), .int .u64 (a4 : Nat), .int .u64 (a5 : Nat)] 74)).alloc (.cells #[.int .u64 0, .int .u64 0, .int .u64 0, .int .u64 0, .int .u64 0, .int .u64 0] 74)).alloc (.cells #[.int .i64 P.op, .int .i64 P.x, .int .i64 P.y, .int .i64 P.n, .slice An P.next.length cn] 62)) (uv [a0, a1, a2, a3, a4, a5]) 74
    rw [show (((w.alloc (.cells #[.int .u64 (a0 : Nat), .int .u64 (a1 : Nat), .int .u64 (a2 : Nat), .int .u64 (a3 : Nat), .int .u64 (a4 : Nat), .int .u64 (a5 : Nat)] 74)).alloc (.cells #[.int .u64 0, .int .u64 0, .int .u64 0, .int .u64 0, .int .u64 0, .int .u64 0] 74)).alloc (.cells #[.int .i64 P.op, .int .i64 P.x, .int .i64 P.y, .int .i64 P.n, .slice An P.next.length cn] 62)).heap.size = w.heap.size + 3 by simp] at h
    exact h)
  generalize ((((w.alloc (.cells #[.int .u64 (a0 : Nat), .int .u64 (a1 : Nat), .int .u64 (a2 : Nat), .int .u64 (a3 : Nat), .int .u64 (a4 : Nat), .int .u64 (a5 : Nat)] 74)).alloc (.cells #[.int .u64 0, .int .u64 0, .int .u64 0, .int .u64 0, .int .u64 0, .int .u64 0] 74)).alloc (.cells #[.int .i64 P.op, .int .i64 P.x, .int .i64 P.y, .int .i64 P.n, .slice An P.next.length cn] 62)).alloc (.cells #[.int .u64 (a0 : Nat), .int .u64 (a1 : Nat), .int .u64 (a2 : Nat), .int .u64 (a3 : Nat), .int .u64 (a4 : Nat), .int .u64 (a5 : Nat)] 74)) = w4 at *
  clear q0 q1 q2 q3 q4 q5 z0 z1 z2 z3 z4 g0 g1 g2 HF0
  have HGW := Lib.hid (HG.out.low HB4.out hB)
  refine (taken_any _ ts pts B _ _ _ _ _ _ HGW.out (by have := HS4.out; omega) h6).mono ?_
  rintro e w5 ⟨rfl, hb5⟩
  have HB5 := Lib.hid (HB4.out.trans (hb5.mono HB4.out.size))
  have hs5 : w.heap.size + 4 ≤ w5.heap.size := by have := hb5.size; have := HS4.out; omega
  have HRF5 := Lib.hid (HRF.out.low hb5 HRF.out.lt)
  have HRZ5 := Lib.hid (HRZ.out.low hb5 HRZ.out.lt)
  have HRX5 := Lib.hid (HRX.out.low hb5 HRX.out.lt)
  have HRO5 := Lib.hid (HRO.out.low hb5 HRO.out.lt)
  have htk := takenP_lt h6 P.op P.x P.y
  have HTB : Hid (∀ u : Nat, u < 6 → (takenP ts P.op P.x P.y).testBit u = (decide (u < ts.length) && (useP ts P.op P.x P.y (u : Nat) == 2))) := Lib.hid fun u hu => by unfold takenP; rw [bm_bit]
  generalize takenP ts P.op P.x P.y = tk at *
  clear HRF HRZ HRX HRO HB4 HS4 hb5 HGW
  go_wp2_with fail
  refine (bits_own tk htk _).mono ?_
  rintro e w6 ⟨v6, rfl, ho6, hb6⟩
  have HB6 := Lib.hid (HB5.out.trans (hb6.mono HB5.out.size))
  have hs6 : w.heap.size + 4 ≤ w6.heap.size := by have := hb6.size; omega
  have HRF6 := Lib.hid (HRF5.out.low hb6 HRF5.out.lt)
  have HRZ6 := Lib.hid (HRZ5.out.low hb6 HRZ5.out.lt)
  have HRX6 := Lib.hid (HRX5.out.low hb6 HRX5.out.lt)
  have HRO6 := Lib.hid (HRO5.out.low hb6 HRO5.out.lt)
  have HO6 := Lib.hid (ho6.base (base' := w.heap.size + 4) hs5)
  obtain ⟨A6, c6, rfl, hc6⟩ := ho6.slice
  have HL6 : Hid (∀ j, j < (lst 6 tk.testBit).length → ∃ e : Nat, e < 6 ∧ (lst 6 tk.testBit).getD j 0 = (e : Nat)) := Lib.hid fun j hj => by
    have := List.getElem_mem hj
    obtain ⟨e, he, _, h2⟩ := lst_mem.1 this
    exact ⟨e, he, by rw [getD_lt hj]; exact h2⟩
  have HM6 : Hid (∀ u : Nat, u < 6 → (((u : Nat) : Int) ∈ lst 6 tk.testBit ↔ tk.testBit u = true)) := Lib.hid fun u hu => by
    rw [lst_mem]
    exact ⟨fun ⟨e, _, h2, h3⟩ => by have : e = u := by omega
                                    subst this; exact h2, fun h => ⟨u, hu, h, rfl⟩⟩
  have hll6 := lst_len 6 tk.testBit
  generalize lst 6 tk.testBit = bl at *
  clear HRF5 HRZ5 HRX5 HRO5 HB5 hb6 ho6
  go_wp2_with fail
  go_loopw [25] (fun i wy => ∃ (j : Nat) (af : List Nat), j ≤ bl.length ∧ i = .int .i64 j ∧ af.length = 6 ∧ (∀ u, u < 6 → af.getD u 0 = if ((u : Nat) : Int) ∈ bl.take j then 0 else ([a0, a1, a2, a3, a4, a5] : List Nat).getD u 0) ∧ RowB wy (w.heap.size + 3) 74 (uv af) ∧ w6.grownBy wy (some (w.heap.size + 3))) (fun i _ => bl.length - (intOf i).toNat)
  case atStart => exact ⟨0, [a0, a1, a2, a3, a4, a5], by omega, rfl, rfl, fun u hu => by simp, HRO6.out, World.grownBy.refl _ _⟩
  case round =>
    obtain ⟨j, af, hj, rfl, hal, haf, hra, hgy⟩ := hrel
    have HAL := Lib.hid hal
    have HAF := Lib.hid haf
    have HRA := Lib.hid hra
    have HGY := Lib.hid hgy
    have hsy := hgy.size
    clear hal haf hra hgy
    by_cases hjl : j < bl.length
    · have HOY := HO6.out.oth (g := w.heap.size + 3) (by omega) HGY.out
      obtain ⟨gb, rfl, hgb1, hgb2, e9, hcj⟩ := HOY.at_ hjl
      clear e9 HOY
      obtain ⟨e, he6, hee⟩ := HL6.out j hjl
      rw [hee] at hcj
      have hfr := HRA.out.frozen e
      have hcur : wr.cell? ⟨w.heap.size + 3, e, none⟩ = some (.int .u64 (af.getD e 0 : Nat)) := by rw [HRA.out.cell, uv_get (by rw [HAL.out]; exact he6)]
      have HE := Lib.hid hee
      have HT := Lib.hid (take_succ_get bl j hjl)
      have HBJ : Hid (bl[j] = (e : Nat)) := Lib.hid (by rw [getD_lt hjl] at hee; exact hee)
      clear hee
      go_wp2_with fail
      refine ⟨⟨j + 1, af.set e 0, by omega, by go_num, by simp [HAL.out], fun u hu => ?_, by rw [← uv_set]; exact HRA.out.set_ e _, grown_tr HGY.out (grown_set _ _ _ _)⟩, by simp [intOf]; omega⟩
      rw [getD_setT (by rw [HAL.out]; exact he6), HT.out, HAF.out u hu, HBJ.out]
      by_cases hue : u = e
      · subst hue; simp
      · rw [if_neg hue]
        have : ¬ ((u : Nat) : Int) = (e : Nat) := by omega
        simp [this]
    · have hje : j = bl.length := by omega
      have HAF2 : Hid (∀ u, u < 6 → af.getD u 0 = if tk.testBit u = true then 0 else ns.getD (k * 6 + u) 0) := Lib.hid fun u hu => by
        have := HAF.out u hu
        rw [hje, List.take_length] at this
        rw [this, HA.out u hu]
        simp only [HM6.out u hu]
      clear HAF hje
      have HRX7 := Lib.hid (HRX6.out.grown HGY.out (by omega))
      have HRZ7 := Lib.hid (HRZ6.out.grown HGY.out (by omega))
      have HRF7 := Lib.hid (HRF6.out.grown HGY.out (by omega))
      have HB7 := Lib.hid (HB6.out.trans ((grown_below HGY.out (by omega)).mono (show w.heap.size ≤ w.heap.size + 3 by omega)))
      have p0 := HRX7.out.cell 0
      have p1 := HRX7.out.cell 1
      have p2 := HRX7.out.cell 2
      have p3 := HRX7.out.cell 3
      have p4 := HRX7.out.cell 4
      simp only [List.getElem?_cons_zero, List.getElem?_cons_succ] at p0 p1 p2 p3 p4
      obtain ⟨wo, rfl⟩ : ∃ wo : World, wo = wr := ⟨_, rfl⟩
      go_wp2_with fail
      refine (sets_any _ _ _ _ _ _).mono ?_
      rintro e w8 ⟨rfl, hb8⟩
      have hs8 := hb8.size
      have HRX8 := Lib.hid (HRX7.out.low hb8 HRX7.out.lt)
      have HRF8 := Lib.hid (HRF7.out.low hb8 HRF7.out.lt)
      have HRZ8 := Lib.hid (HRZ7.out.low hb8 HRZ7.out.lt)
      have HRO8 := Lib.hid (HRA.out.low hb8 HRA.out.lt)
      have HB8 := Lib.hid (HB7.out.trans (hb8.mono HB7.out.size))
      clear HRX7 HRF7 HRZ7 HRA HB7 HGY hb8 p0 p1 p2 p3 p4 HRX6 HRF6 HRZ6 HRO6 HB6 HO6
      by_cases hs0 : 0 ≤ setsP P.op P.x
      · obtain ⟨x, hx⟩ : ∃ x : Nat, setsP P.op P.x = x := ⟨(setsP P.op P.x).toNat, by omega⟩
        have hx6 : x < 6 := by have := HSK.out; omega
        have HXE := Lib.hid hx
        rw [hx]
        clear hs0 hx
        have p0 := HRX8.out.cell 0
        have p1 := HRX8.out.cell 1
        have p2 := HRX8.out.cell 2
        have p3 := HRX8.out.cell 3
        have p4 := HRX8.out.cell 4
        simp only [List.getElem?_cons_zero, List.getElem?_cons_succ] at p0 p1 p2 p3 p4
        have hfr := HRO8.out.frozen x
        have hcur : w8.cell? ⟨w.heap.size + 3, x, none⟩ = some (.int .u64 (af.getD x 0 : Nat)) := by rw [HRO8.out.cell, uv_get (by rw [HAL.out]; exact hx6)]
        go_wp2_with fail
        have HRO9 := Lib.hid (HRO8.out.set_ x (.int .u64 (0 : Nat)))
        rw [uv_set] at HRO9
        have HRX9 := Lib.hid (HRX8.out.other (g' := w.heap.size + 3) (by omega) x (.int .u64 (0 : Nat)))
        have HRZ9 := Lib.hid (HRZ8.out.other (g' := w.heap.size + 3) (by omega) x (.int .u64 (0 : Nat)))
        have HRF9 := Lib.hid (HRF8.out.other (g' := w.heap.size + 3) (by omega) x (.int .u64 (0 : Nat)))
        have HB9 := Lib.hid (HB8.out.setCell (p := ⟨w.heap.size + 3, x, none⟩) (by show w.heap.size ≤ w.heap.size + 3; omega) (.int .u64 (0 : Nat)))
        have hs9 : (w8.setCell ⟨w.heap.size + 3, x, none⟩ (.int .u64 (0 : Nat))).heap.size = w8.heap.size := by simp [World.setCell]
        change Calls _ _ _ (w8.setCell ⟨w.heap.size + 3, x, none⟩ (.int .u64 (0 : Nat))) _
        generalize w8.setCell ⟨w.heap.size + 3, x, none⟩ (.int .u64 (0 : Nat)) = w9 at *
        clear HRO8 HRX8 HRZ8 HRF8 HB8 p0 p1 p2 p3 p4 hfr hcur
        refine (isLoan_any _ _ _ _ _ _).mono ?_
        rintro e w10 ⟨rfl, hb10⟩
        have HRO10 := Lib.hid (HRO9.out.low hb10 HRO9.out.lt)
        have HRX10 := Lib.hid (HRX9.out.low hb10 HRX9.out.lt)
        have HRZ10 := Lib.hid (HRZ9.out.low hb10 HRZ9.out.lt)
        have HRF10 := Lib.hid (HRF9.out.low hb10 HRF9.out.lt)
        have HB10 := Lib.hid (HB9.out.trans (hb10.mono HB9.out.size))
        have hs10 := hb10.size
        clear HRO9 HRX9 HRZ9 HRF9 HB9 hb10
        have HAL0 : Hid ((af.set x 0).length = 6) := Lib.hid (by simp [HAL.out])
        have HGE : Hid ((af.set x 0).getD x 0 = 0) := Lib.hid (by rw [getD_setT (by rw [HAL.out]; exact hx6), if_pos rfl])
        have HEND : Hid (∀ s : Nat, s < top64 → (∀ e, s.testBit e = (Gloan k P e || (Cloan ts P && (([a0, a1, a2, a3, a4, a5] : List Nat).getD P.y.toNat 0).testBit e))) → AfL ts Gloan (Cloan ts) k P (stF ns k) ((af.set x 0).set x s)) := Lib.hid fun s hs hb => by
          rw [List.set_set]
          exact AfL.pos HFX.out HAL.out HAF2.out HTB.out HXE.out hx6 hs rfl HA.out hb
        generalize af.set x 0 = ag at *
        by_cases hl : P.op = 4 ∨ P.op = 5
        · have hlb : loanB P.op = true := by rcases hl with h | h <;> rw [h] <;> rfl
          rw [hlb]
          have hfr := HRO10.out.frozen x
          have hcur : w10.cell? ⟨w.heap.size + 3, x, none⟩ = some (.int .u64 (0 : Nat)) := by rw [HRO10.out.cell, uv_get (by rw [HAL0.out]; exact hx6), HGE.out]
          obtain ⟨pk, hpk⟩ : ∃ m : Nat, m = 2 ^ k := ⟨_, rfl⟩
          have hpk64 : pk < top64 := by rw [hpk]; exact one_shl (by omega)
          have HPB : Hid (∀ e, pk.testBit e = (e == k)) := Lib.hid (by rw [hpk]; exact pow_bit k)
          have HPW : Hid (IntKind.u64.wrap (2 ^ k) = (pk : Int)) := Lib.hid (by rw [hpk]; exact pow_u64 (k := k) (by omega))
          clear hpk
          go_wp2_with fail
          have HRO11 := Lib.hid (HRO10.out.set_ x (.int .u64 (pk : Nat)))
          rw [uv_set] at HRO11
          have HRX11 := Lib.hid (HRX10.out.other (g' := w.heap.size + 3) (by omega) x (.int .u64 (pk : Nat)))
          have HRZ11 := Lib.hid (HRZ10.out.other (g' := w.heap.size + 3) (by omega) x (.int .u64 (pk : Nat)))
          have HRF11 := Lib.hid (HRF10.out.other (g' := w.heap.size + 3) (by omega) x (.int .u64 (pk : Nat)))
          have HB11 := Lib.hid (HB10.out.setCell (p := ⟨w.heap.size + 3, x, none⟩) (by show w.heap.size ≤ w.heap.size + 3; omega) (.int .u64 (pk : Nat)))
          have hs11 : (w10.setCell ⟨w.heap.size + 3, x, none⟩ (.int .u64 (pk : Nat))).heap.size = w10.heap.size := by simp [World.setCell]
          rw [HPW.out]
          change Code.wp _ _ _ _ (w10.setCell ⟨w.heap.size + 3, x, none⟩ (.int .u64 (pk : Nat)))
          generalize w10.setCell ⟨w.heap.size + 3, x, none⟩ (.int .u64 (pk : Nat)) = w11 at *
          have p0 := HRX11.out.cell 0
          have p1 := HRX11.out.cell 1
          have p2 := HRX11.out.cell 2
          have p3 := HRX11.out.cell 3
          have p4 := HRX11.out.cell 4
          simp only [List.getElem?_cons_zero, List.getElem?_cons_succ] at p0 p1 p2 p3 p4
          have hy := HY.out (by rcases hl with h | h <;> rw [h] <;> decide)
          have hy0 := hy.1
          have hy1 := hy.2
          have hy6 : P.y.toNat < 6 := by omega
          obtain ⟨g', At', ct', vb', Al', cl', eg, -, g0, g1, -, ht, -, -, -⟩ := (HG.out.low HB11.out hB).open_
          injection eg with eg
          injection eg with eg
          injection eg with eg
          subst eg
          obtain ⟨bt, ot, ct2, et, hbt, -, -, hct⟩ := ht.get hy0 hy1
          injection et with e1 e9 e2
          subst e1 e2
          have hgl : g < w11.heap.size := by omega
          have hbtl : bt < w11.heap.size := by omega
          have hxl : w.heap.size + 2 < w11.heap.size := by omega
          have BEL : Hid (∀ w', w'.cell? ⟨w.heap.size + 2, 0, none⟩ = some (.int .i64 P.op) ∧ w'.cell? ⟨w.heap.size + 2, 1, none⟩ = some (.int .i64 P.x) ∧ w'.cell? ⟨w.heap.size + 2, 2, none⟩ = some (.int .i64 P.y) ∧ w'.cell? ⟨w.heap.size + 2, 3, none⟩ = some (.int .i64 P.n) ∧ w'.cell? ⟨w.heap.size + 2, 4, none⟩ = some (.slice An P.next.length cn) ∧ w'.cell? ⟨g, 0, none⟩ = some (.slice (some ⟨bt, ot, none⟩) ts.length ct') ∧ w'.cell? ⟨bt, ot + P.y.toNat, none⟩ = some (.int .i64 (typeOfP ts P.y)) ∧ Below w11.heap.size w11 w' → Below w11.heap.size w11 w') := Lib.hid fun _ h => h.2.2.2.2.2.2.2
          clear HRO10 HRX10 HRZ10 HRF10 HB10 hy e9 hfr hcur
          cases hrf : isRefP (typeOfP ts P.y)
          · have HRF9 := Lib.hid hrf
            have ho3 : (P.op == 3) = false := by rcases hl with h | h <;> rw [h] <;> rfl
            refine wp_region_held_drew (S := (fun w' => w'.cell? ⟨w.heap.size + 2, 0, none⟩ = some (.int .i64 P.op) ∧ w'.cell? ⟨w.heap.size + 2, 1, none⟩ = some (.int .i64 P.x) ∧ w'.cell? ⟨w.heap.size + 2, 2, none⟩ = some (.int .i64 P.y) ∧ w'.cell? ⟨w.heap.size + 2, 3, none⟩ = some (.int .i64 P.n) ∧ w'.cell? ⟨w.heap.size + 2, 4, none⟩ = some (.slice An P.next.length cn) ∧ w'.cell? ⟨g, 0, none⟩ = some (.slice (some ⟨bt, ot, none⟩) ts.length ct') ∧ w'.cell? ⟨bt, ot + P.y.toNat, none⟩ = some (.int .i64 (typeOfP ts P.y)) ∧ Below w11.heap.size w11 w')) (by kernel_rfl) ?_ (fun hHeld => ?_)
            · exact ⟨p0, p1, p2, p3, p4, g0, hct, (Below.refl _ _).drew⟩
            refine wpAnyH_take (i := 0) (oi := ⟨some 45, _, _, _, _, _⟩) (v := ?_) rfl (by kernel_rfl) (by kernel_rfl) (by kernel_rfl) (fun _ _ _ h => h) (Or.inl ⟨by rfl, fun w' hSw => ?_⟩) (by assumption) ?_
            rotate_left
            · (try dsimp only at hSw); go_simp; (try with_reducible rfl)
            (try simp only [Act.put, List.setIfInBounds_toArray, List.set_cons_zero, List.set_cons_succ])
            refine wpAnyH_ready (rs := [1]) (by kernel_rfl) (by simp) ?_
            refine AllReadyH.cons (o := ⟨some 46, _, _, _, _, _⟩) rfl (fun K hK => ?_) AllReadyH.nil
            go_simp
            (refine (isLoan_any _ _ _ _ _ _).mono ?_)
            (rintro e w12 ⟨rfl, hb12⟩)
            (have BX7 := Lib.hid ((BEL.out _ (by assumption)).trans (hb12.mono (BEL.out _ (by assumption)).size)))
            clear hb12
            (rw [hlb])
            go_simp
            refine hK.out _ _ ?_ (fun hHeld => ?_)
            · exact ⟨belC BX7.out p0 hxl, belC BX7.out p1 hxl, belC BX7.out p2 hxl, belC BX7.out p3 hxl, belC BX7.out p4 hxl, belC BX7.out g0 hgl, belC BX7.out hct hbtl, BX7.out⟩
            clear hK K
            (try simp only [Act.put, List.setIfInBounds_toArray, List.set_cons_zero, List.set_cons_succ])
            refine wpAnyH_take (i := 2) (oi := ⟨some 47, _, _, _, _, _⟩) (v := ?_) rfl (by kernel_rfl) (by kernel_rfl) (by kernel_rfl) (fun _ _ _ h => h) (Or.inl ⟨by rfl, fun w' hSw => ?_⟩) (by assumption) ?_
            rotate_left
            · (try dsimp only at hSw); go_simp; (try with_reducible rfl)
            (try simp only [Act.put, List.setIfInBounds_toArray, List.set_cons_zero, List.set_cons_succ])
            refine wpAnyH_take (i := 3) (oi := ⟨some 48, _, _, _, _, _⟩) (v := ?_) rfl (by kernel_rfl) (by kernel_rfl) (by kernel_rfl) (fun _ _ _ h => h) (Or.inl ⟨by rfl, fun w' hSw => ?_⟩) (by assumption) ?_
            rotate_left
            · (try dsimp only at hSw); go_simp; (try with_reducible rfl)
            (try simp only [Act.put, List.setIfInBounds_toArray, List.set_cons_zero, List.set_cons_succ])
            refine wpAnyH_take (i := 4) (oi := ⟨some 49, _, _, _, _, _⟩) (v := ?_) rfl (by kernel_rfl) (by kernel_rfl) (by kernel_rfl) (fun _ _ _ h => h) (Or.inl ⟨by rfl, fun w' hSw => ?_⟩) (by assumption) ?_
            rotate_left
            · (try dsimp only at hSw); go_simp; (try with_reducible rfl)
            (try simp only [Act.put, List.setIfInBounds_toArray, List.set_cons_zero, List.set_cons_succ])
            refine wpAnyH_take (i := 5) (oi := ⟨some 50, _, _, _, _, _⟩) (v := ?_) rfl (by kernel_rfl) (by kernel_rfl) (by kernel_rfl) (fun _ _ _ h => h) (Or.inl ⟨by rfl, fun w' hSw => ?_⟩) (by assumption) ?_
            rotate_left
            · (try dsimp only at hSw); go_simp; (try with_reducible rfl)
            (try simp only [Act.put, List.setIfInBounds_toArray, List.set_cons_zero, List.set_cons_succ])
            refine wpAnyH_take (i := 6) (oi := ⟨some 51, _, _, _, _, _⟩) (v := ?_) rfl (by kernel_rfl) (by kernel_rfl) (by kernel_rfl) (fun _ _ _ h => h) (Or.inl ⟨by rfl, fun w' hSw => ?_⟩) (by assumption) ?_
            rotate_left
            · (try dsimp only at hSw); go_simp; (try with_reducible rfl)
            (try simp only [Act.put, List.setIfInBounds_toArray, List.set_cons_zero, List.set_cons_succ])
            refine wpAnyH_take (i := 7) (oi := ⟨some 52, _, _, _, _, _⟩) (v := ?_) rfl (by kernel_rfl) (by kernel_rfl) (by kernel_rfl) (fun _ _ _ h => h) (Or.inl ⟨by rfl, fun w' hSw => ?_⟩) (by assumption) ?_
            rotate_left
            · (try dsimp only at hSw); go_simp; (try with_reducible rfl)
            (try simp only [Act.put, List.setIfInBounds_toArray, List.set_cons_zero, List.set_cons_succ])
            refine wpAnyH_take (i := 8) (oi := ⟨some 53, _, _, _, _, _⟩) (v := ?_) rfl (by kernel_rfl) (by kernel_rfl) (by kernel_rfl) (fun _ _ _ h => h) (Or.inl ⟨by rfl, fun w' hSw => ?_⟩) (by assumption) ?_
            rotate_left
            · (try dsimp only at hSw); go_simp; (try with_reducible rfl)
            (try simp only [Act.put, List.setIfInBounds_toArray, List.set_cons_zero, List.set_cons_succ])
            refine wpAnyH_take (i := 9) (oi := ⟨some 54, _, _, _, _, _⟩) (v := ?_) rfl (by kernel_rfl) (by kernel_rfl) (by kernel_rfl) (fun _ _ _ h => h) (Or.inl ⟨by rfl, fun w' hSw => ?_⟩) (by assumption) ?_
            rotate_left
            · (try dsimp only at hSw); go_simp; (try with_reducible rfl)
            (try simp only [Act.put, List.setIfInBounds_toArray, List.set_cons_zero, List.set_cons_succ])
            refine wpAnyH_take (i := 10) (oi := ⟨some 55, _, _, _, _, _⟩) (v := ?_) rfl (by kernel_rfl) (by kernel_rfl) (by kernel_rfl) (fun _ _ _ h => h) (Or.inl ⟨by rfl, fun w' hSw => ?_⟩) (by assumption) ?_
            rotate_left
            · (try dsimp only at hSw); go_simp; (try with_reducible rfl)
            (try simp only [Act.put, List.setIfInBounds_toArray, List.set_cons_zero, List.set_cons_succ])
            refine wpAnyH_take (i := 11) (oi := ⟨some 56, _, _, _, _, _⟩) (v := ?_) rfl (by kernel_rfl) (by kernel_rfl) (by kernel_rfl) (fun _ _ _ h => h) (Or.inl ⟨by rfl, fun w' hSw => ?_⟩) (by assumption) ?_
            rotate_left
            · (try dsimp only at hSw); go_simp; (try with_reducible rfl)
            (try simp only [Act.put, List.setIfInBounds_toArray, List.set_cons_zero, List.set_cons_succ])
            refine wpAnyH_ready (rs := [12]) (by kernel_rfl) (by simp) ?_
            refine AllReadyH.cons (o := ⟨some 57, _, _, _, _, _⟩) rfl (fun K hK => ?_) AllReadyH.nil
            go_simp
            (refine (isRef_any _ _).mono ?_)
            (rintro e w13 ⟨rfl, rfl⟩)
            (rw [HRF9.out])
            go_simp
            refine hK.out _ _ ?_ (fun hHeld => ?_)
            · exact ⟨belC BX7.out p0 hxl, belC BX7.out p1 hxl, belC BX7.out p2 hxl, belC BX7.out p3 hxl, belC BX7.out p4 hxl, belC BX7.out g0 hgl, belC BX7.out hct hbtl, BX7.out⟩
            clear hK K
            (try simp only [Act.put, List.setIfInBounds_toArray, List.set_cons_zero, List.set_cons_succ])
            refine wpAnyH_take (i := 13) (oi := ⟨some 58, _, _, _, _, _⟩) (v := ?_) rfl (by kernel_rfl) (by kernel_rfl) (by kernel_rfl) (fun _ _ _ h => h) (Or.inl ⟨by rfl, fun w' hSw => ?_⟩) (by assumption) ?_
            rotate_left
            · (try dsimp only at hSw); go_simp; (try with_reducible rfl)
            (try simp only [Act.put, List.setIfInBounds_toArray, List.set_cons_zero, List.set_cons_succ])
            refine wpAnyH_take (i := 14) (oi := ⟨some 59, _, _, _, _, _⟩) (v := ?_) rfl (by kernel_rfl) (by kernel_rfl) (by kernel_rfl) (fun _ _ _ h => h) (Or.inl ⟨by rfl, fun w' hSw => ?_⟩) (by assumption) ?_
            rotate_left
            · (try dsimp only at hSw); go_simp; (try with_reducible rfl)
            (try simp only [Act.put, List.setIfInBounds_toArray, List.set_cons_zero, List.set_cons_succ])
            refine wpAnyH_take (i := 15) (oi := ⟨some 60, _, _, _, _, _⟩) (v := ?_) rfl (by kernel_rfl) (by kernel_rfl) (by kernel_rfl) (fun _ _ _ h => h) (Or.inl ⟨by rfl, fun w' hSw => ?_⟩) (by assumption) ?_
            rotate_left
            · (try dsimp only at hSw); go_simp; (try with_reducible rfl)
            (try simp only [Act.put, List.setIfInBounds_toArray, List.set_cons_zero, List.set_cons_succ])
            refine wpAnyH_take (i := 16) (oi := ⟨some 61, _, _, _, _, _⟩) (v := ?_) rfl (by kernel_rfl) (by kernel_rfl) (by kernel_rfl) (fun _ _ _ h => h) (Or.inl ⟨by rfl, fun w' hSw => ?_⟩) (by assumption) ?_
            rotate_left
            · (try dsimp only at hSw); go_simp; (try with_reducible rfl)
            (try simp only [Act.put, List.setIfInBounds_toArray, List.set_cons_zero, List.set_cons_succ])
            refine wpAnyH_take (i := 17) (oi := ⟨some 62, _, _, _, _, _⟩) (v := ?_) rfl (by kernel_rfl) (by kernel_rfl) (by kernel_rfl) (fun _ _ _ h => h) (Or.inl ⟨by rfl, fun w' hSw => ?_⟩) (by assumption) ?_
            rotate_left
            · (try dsimp only at hSw); go_simp; (try with_reducible rfl)
            (try simp only [Act.put, List.setIfInBounds_toArray, List.set_cons_zero, List.set_cons_succ])
            refine wpAnyH_take (i := 18) (oi := ⟨some 63, _, _, _, _, _⟩) (v := ?_) rfl (by kernel_rfl) (by kernel_rfl) (by kernel_rfl) (fun _ _ _ h => h) (Or.inl ⟨by rfl, fun w' hSw => ?_⟩) (by assumption) ?_
            rotate_left
            · (try dsimp only at hSw); go_simp; (try with_reducible rfl)
            (try simp only [Act.put, List.setIfInBounds_toArray, List.set_cons_zero, List.set_cons_succ])
            refine wpAnyH_done (by kernel_rfl) ?_ _
            have HRO12 := Lib.hid (HRO11.out.low BX7.out HRO11.out.lt)
            have HRZ12 := Lib.hid (HRZ11.out.low BX7.out HRZ11.out.lt)
            have HB12 := Lib.hid (HB11.out.trans (BX7.out.mono HB11.out.size))
            have hs12 := BX7.out.size
            have HAF12 := Lib.hid (HEND.out pk hpk64 (gl_one hl HRF9.out HPB.out))
            obtain ⟨b0, b1, b2, b3, b4, b5, hb6⟩ := list6 (show (ag.set x pk).length = 6 by rw [List.length_set]; exact HAL0.out)
            rw [hb6] at HRO12 HAF12
            clear hb6
            have c0 := HRO12.out.cell 0
            have c1 := HRO12.out.cell 1
            have c2 := HRO12.out.cell 2
            have c3 := HRO12.out.cell 3
            have c4 := HRO12.out.cell 4
            have c5 := HRO12.out.cell 5
            have d0 := HRZ12.out.cell 0
            have fr0 := HRZ12.out.frozen 0
            have d1 := HRZ12.out.cell 1
            have fr1 := HRZ12.out.frozen 1
            have d2 := HRZ12.out.cell 2
            have fr2 := HRZ12.out.frozen 2
            have d3 := HRZ12.out.cell 3
            have fr3 := HRZ12.out.frozen 3
            have d4 := HRZ12.out.cell 4
            have fr4 := HRZ12.out.frozen 4
            have d5 := HRZ12.out.cell 5
            have fr5 := HRZ12.out.frozen 5
            simp only [uv, List.map_cons, List.map_nil, List.getElem?_cons_zero, List.getElem?_cons_succ] at c0 c1 c2 c3 c4 c5 d0 d1 d2 d3 d4 d5
            go_wp2_with fail
            have HS6 := Lib.hid (set6 (a0 := b0) (a1 := b1) (a2 := b2) (a3 := b3) (a4 := b4) (a5 := b5) HRZ12.out rfl)
            refine bodyPost_ret (results_cell_row rfl _ _ (w.heap.size + 1) 74 _ (0, 0) _ rfl HS6.out.1 Try.underlying74 rfl rfl) rfl ⟨b0, b1, b2, b3, b4, b5, rfl, HAF12.out, HB12.out.trans ((grown_below HS6.out.2 (show w.heap.size + 1 < _ by omega)).mono (by omega))⟩
          · have HRF9 := Lib.hid hrf
            refine wp_region_held_drew (S := (fun w' => w'.cell? ⟨w.heap.size + 2, 0, none⟩ = some (.int .i64 P.op) ∧ w'.cell? ⟨w.heap.size + 2, 1, none⟩ = some (.int .i64 P.x) ∧ w'.cell? ⟨w.heap.size + 2, 2, none⟩ = some (.int .i64 P.y) ∧ w'.cell? ⟨w.heap.size + 2, 3, none⟩ = some (.int .i64 P.n) ∧ w'.cell? ⟨w.heap.size + 2, 4, none⟩ = some (.slice An P.next.length cn) ∧ w'.cell? ⟨g, 0, none⟩ = some (.slice (some ⟨bt, ot, none⟩) ts.length ct') ∧ w'.cell? ⟨bt, ot + P.y.toNat, none⟩ = some (.int .i64 (typeOfP ts P.y)) ∧ Below w11.heap.size w11 w')) (by kernel_rfl) ?_ (fun hHeld => ?_)
            · exact ⟨p0, p1, p2, p3, p4, g0, hct, (Below.refl _ _).drew⟩
            refine wpAnyH_take (i := 0) (oi := ⟨some 45, _, _, _, _, _⟩) (v := ?_) rfl (by kernel_rfl) (by kernel_rfl) (by kernel_rfl) (fun _ _ _ h => h) (Or.inl ⟨by rfl, fun w' hSw => ?_⟩) (by assumption) ?_
            rotate_left
            · (try dsimp only at hSw); go_simp; (try with_reducible rfl)
            (try simp only [Act.put, List.setIfInBounds_toArray, List.set_cons_zero, List.set_cons_succ])
            refine wpAnyH_ready (rs := [1]) (by kernel_rfl) (by simp) ?_
            refine AllReadyH.cons (o := ⟨some 46, _, _, _, _, _⟩) rfl (fun K hK => ?_) AllReadyH.nil
            go_simp
            (refine (isLoan_any _ _ _ _ _ _).mono ?_)
            (rintro e w12 ⟨rfl, hb12⟩)
            (have BX7 := Lib.hid ((BEL.out _ (by assumption)).trans (hb12.mono (BEL.out _ (by assumption)).size)))
            clear hb12
            (rw [hlb])
            go_simp
            refine hK.out _ _ ?_ (fun hHeld => ?_)
            · exact ⟨belC BX7.out p0 hxl, belC BX7.out p1 hxl, belC BX7.out p2 hxl, belC BX7.out p3 hxl, belC BX7.out p4 hxl, belC BX7.out g0 hgl, belC BX7.out hct hbtl, BX7.out⟩
            clear hK K
            (try simp only [Act.put, List.setIfInBounds_toArray, List.set_cons_zero, List.set_cons_succ])
            refine wpAnyH_take (i := 2) (oi := ⟨some 47, _, _, _, _, _⟩) (v := ?_) rfl (by kernel_rfl) (by kernel_rfl) (by kernel_rfl) (fun _ _ _ h => h) (Or.inl ⟨by rfl, fun w' hSw => ?_⟩) (by assumption) ?_
            rotate_left
            · (try dsimp only at hSw); go_simp; (try with_reducible rfl)
            (try simp only [Act.put, List.setIfInBounds_toArray, List.set_cons_zero, List.set_cons_succ])
            refine wpAnyH_take (i := 3) (oi := ⟨some 48, _, _, _, _, _⟩) (v := ?_) rfl (by kernel_rfl) (by kernel_rfl) (by kernel_rfl) (fun _ _ _ h => h) (Or.inl ⟨by rfl, fun w' hSw => ?_⟩) (by assumption) ?_
            rotate_left
            · (try dsimp only at hSw); go_simp; (try with_reducible rfl)
            (try simp only [Act.put, List.setIfInBounds_toArray, List.set_cons_zero, List.set_cons_succ])
            refine wpAnyH_take (i := 4) (oi := ⟨some 49, _, _, _, _, _⟩) (v := ?_) rfl (by kernel_rfl) (by kernel_rfl) (by kernel_rfl) (fun _ _ _ h => h) (Or.inl ⟨by rfl, fun w' hSw => ?_⟩) (by assumption) ?_
            rotate_left
            · (try dsimp only at hSw); go_simp; (try with_reducible rfl)
            (try simp only [Act.put, List.setIfInBounds_toArray, List.set_cons_zero, List.set_cons_succ])
            refine wpAnyH_take (i := 5) (oi := ⟨some 50, _, _, _, _, _⟩) (v := ?_) rfl (by kernel_rfl) (by kernel_rfl) (by kernel_rfl) (fun _ _ _ h => h) (Or.inl ⟨by rfl, fun w' hSw => ?_⟩) (by assumption) ?_
            rotate_left
            · (try dsimp only at hSw); go_simp; (try with_reducible rfl)
            (try simp only [Act.put, List.setIfInBounds_toArray, List.set_cons_zero, List.set_cons_succ])
            refine wpAnyH_take (i := 6) (oi := ⟨some 51, _, _, _, _, _⟩) (v := ?_) rfl (by kernel_rfl) (by kernel_rfl) (by kernel_rfl) (fun _ _ _ h => h) (Or.inl ⟨by rfl, fun w' hSw => ?_⟩) (by assumption) ?_
            rotate_left
            · (try dsimp only at hSw); go_simp; (try with_reducible rfl)
            (try simp only [Act.put, List.setIfInBounds_toArray, List.set_cons_zero, List.set_cons_succ])
            refine wpAnyH_take (i := 7) (oi := ⟨some 52, _, _, _, _, _⟩) (v := ?_) rfl (by kernel_rfl) (by kernel_rfl) (by kernel_rfl) (fun _ _ _ h => h) (Or.inl ⟨by rfl, fun w' hSw => ?_⟩) (by assumption) ?_
            rotate_left
            · (try dsimp only at hSw); go_simp; (try with_reducible rfl)
            (try simp only [Act.put, List.setIfInBounds_toArray, List.set_cons_zero, List.set_cons_succ])
            refine wpAnyH_take (i := 8) (oi := ⟨some 53, _, _, _, _, _⟩) (v := ?_) rfl (by kernel_rfl) (by kernel_rfl) (by kernel_rfl) (fun _ _ _ h => h) (Or.inl ⟨by rfl, fun w' hSw => ?_⟩) (by assumption) ?_
            rotate_left
            · (try dsimp only at hSw); go_simp; (try with_reducible rfl)
            (try simp only [Act.put, List.setIfInBounds_toArray, List.set_cons_zero, List.set_cons_succ])
            refine wpAnyH_take (i := 9) (oi := ⟨some 54, _, _, _, _, _⟩) (v := ?_) rfl (by kernel_rfl) (by kernel_rfl) (by kernel_rfl) (fun _ _ _ h => h) (Or.inl ⟨by rfl, fun w' hSw => ?_⟩) (by assumption) ?_
            rotate_left
            · (try dsimp only at hSw); go_simp; (try with_reducible rfl)
            (try simp only [Act.put, List.setIfInBounds_toArray, List.set_cons_zero, List.set_cons_succ])
            refine wpAnyH_take (i := 10) (oi := ⟨some 55, _, _, _, _, _⟩) (v := ?_) rfl (by kernel_rfl) (by kernel_rfl) (by kernel_rfl) (fun _ _ _ h => h) (Or.inl ⟨by rfl, fun w' hSw => ?_⟩) (by assumption) ?_
            rotate_left
            · (try dsimp only at hSw); go_simp; (try with_reducible rfl)
            (try simp only [Act.put, List.setIfInBounds_toArray, List.set_cons_zero, List.set_cons_succ])
            refine wpAnyH_take (i := 11) (oi := ⟨some 56, _, _, _, _, _⟩) (v := ?_) rfl (by kernel_rfl) (by kernel_rfl) (by kernel_rfl) (fun _ _ _ h => h) (Or.inl ⟨by rfl, fun w' hSw => ?_⟩) (by assumption) ?_
            rotate_left
            · (try dsimp only at hSw); go_simp; (try with_reducible rfl)
            (try simp only [Act.put, List.setIfInBounds_toArray, List.set_cons_zero, List.set_cons_succ])
            refine wpAnyH_ready (rs := [12]) (by kernel_rfl) (by simp) ?_
            refine AllReadyH.cons (o := ⟨some 57, _, _, _, _, _⟩) rfl (fun K hK => ?_) AllReadyH.nil
            go_simp
            (refine (isRef_any _ _).mono ?_)
            (rintro e w13 ⟨rfl, rfl⟩)
            (rw [HRF9.out])
            go_simp
            refine hK.out _ _ ?_ (fun hHeld => ?_)
            · exact ⟨belC BX7.out p0 hxl, belC BX7.out p1 hxl, belC BX7.out p2 hxl, belC BX7.out p3 hxl, belC BX7.out p4 hxl, belC BX7.out g0 hgl, belC BX7.out hct hbtl, BX7.out⟩
            clear hK K
            (try simp only [Act.put, List.setIfInBounds_toArray, List.set_cons_zero, List.set_cons_succ])
            refine wpAnyH_take (i := 13) (oi := ⟨some 58, _, _, _, _, _⟩) (v := ?_) rfl (by kernel_rfl) (by kernel_rfl) (by kernel_rfl) (fun _ _ _ h => h) (Or.inl ⟨by rfl, fun w' hSw => ?_⟩) (by assumption) ?_
            rotate_left
            · (try dsimp only at hSw); go_simp; (try with_reducible rfl)
            (try simp only [Act.put, List.setIfInBounds_toArray, List.set_cons_zero, List.set_cons_succ])
            refine wpAnyH_take (i := 14) (oi := ⟨some 59, _, _, _, _, _⟩) (v := ?_) rfl (by kernel_rfl) (by kernel_rfl) (by kernel_rfl) (fun _ _ _ h => h) (Or.inl ⟨by rfl, fun w' hSw => ?_⟩) (by assumption) ?_
            rotate_left
            · (try dsimp only at hSw); go_simp; (try with_reducible rfl)
            (try simp only [Act.put, List.setIfInBounds_toArray, List.set_cons_zero, List.set_cons_succ])
            refine wpAnyH_take (i := 15) (oi := ⟨some 60, _, _, _, _, _⟩) (v := undef) rfl (by kernel_rfl) (by kernel_rfl) (by kernel_rfl) (fun _ _ _ h => h) (Or.inr ⟨by rfl, rfl⟩) (by assumption) ?_
            (try simp only [Act.put, List.setIfInBounds_toArray, List.set_cons_zero, List.set_cons_succ])
            refine wpAnyH_take (i := 16) (oi := ⟨some 61, _, _, _, _, _⟩) (v := undef) rfl (by kernel_rfl) (by kernel_rfl) (by kernel_rfl) (fun _ _ _ h => h) (Or.inr ⟨by rfl, rfl⟩) (by assumption) ?_
            (try simp only [Act.put, List.setIfInBounds_toArray, List.set_cons_zero, List.set_cons_succ])
            refine wpAnyH_take (i := 17) (oi := ⟨some 62, _, _, _, _, _⟩) (v := undef) rfl (by kernel_rfl) (by kernel_rfl) (by kernel_rfl) (fun _ _ _ h => h) (Or.inr ⟨by rfl, rfl⟩) (by assumption) ?_
            (try simp only [Act.put, List.setIfInBounds_toArray, List.set_cons_zero, List.set_cons_succ])
            refine wpAnyH_take (i := 18) (oi := ⟨some 63, _, _, _, _, _⟩) (v := ?_) rfl (by kernel_rfl) (by kernel_rfl) (by kernel_rfl) (fun _ _ _ h => h) (Or.inl ⟨by rfl, fun w' hSw => ?_⟩) (by assumption) ?_
            rotate_left
            · (try dsimp only at hSw); go_simp; (try with_reducible rfl)
            (try simp only [Act.put, List.setIfInBounds_toArray, List.set_cons_zero, List.set_cons_succ])
            refine wpAnyH_done (by kernel_rfl) ?_ _
            have HRO12 := Lib.hid (HRO11.out.low BX7.out HRO11.out.lt)
            have HRZ12 := Lib.hid (HRZ11.out.low BX7.out HRZ11.out.lt)
            have HRF12 := Lib.hid (HRF11.out.low BX7.out HRF11.out.lt)
            have HRX12 := Lib.hid (HRX11.out.low BX7.out HRX11.out.lt)
            have HB12 := Lib.hid (HB11.out.trans (BX7.out.mono HB11.out.size))
            have hs12 := BX7.out.size
            obtain ⟨fy, hfy⟩ : ∃ fy, fy = ([a0, a1, a2, a3, a4, a5] : List Nat).getD P.y.toNat 0 := ⟨_, rfl⟩
            have hfy64 : fy < top64 := by rw [hfy]; exact HA0.out _ hy6
            have hcf := HRF12.out.cell P.y.toNat
            rw [uv_get (by simpa using hy6), ← hfy] at hcf
            have hcur := HRO12.out.cell x
            rw [uv_get (by rw [List.length_set, HAL0.out]; exact hx6), getD_setT (by rw [HAL0.out]; exact hx6), if_pos rfl] at hcur
            have hfr := HRO12.out.frozen x
            have hcy := HRX12.out.cell 2
            simp only [List.getElem?_cons_zero, List.getElem?_cons_succ] at hcy
            obtain ⟨r, hr⟩ : ∃ r, r = pk ||| fy := ⟨_, rfl⟩
            have hor : bits .or .u64 (pk : Int) (fy : Int) = ((r : Nat) : Int) := by rw [hr]; exact or_u64 hpk64 hfy64
            have HR := Lib.hid hr
            have HFY := Lib.hid hfy
            clear hr hfy
            go_wp2_with fail
            go_region
            have hr64 : r < top64 := by rw [HR.out]; exact or_top hpk64 hfy64
            have HRO13 := HRO12.out.set_ x (.int .u64 (r : Nat))
            have hdr := fun W : World => (Below.refl W.heap.size W).drew
            have HRO14 := Lib.hid (HRO13.low (hdr _) HRO13.lt)
            rw [uv_set, List.set_set] at HRO14
            have HRZ13 := HRZ12.out.other (g' := w.heap.size + 3) (by omega) x (.int .u64 (r : Nat))
            have HRZ14 := Lib.hid (HRZ13.low (hdr _) HRZ13.lt)
            have HB14 := Lib.hid ((HB12.out.setCell (p := ⟨w.heap.size + 3, x, none⟩) (by show w.heap.size ≤ w.heap.size + 3; omega) (.int .u64 (r : Nat))).drew)
            have hs14 := HRO14.out.lt
            have HAF14 := Lib.hid (HEND.out r hr64 (gl_new hl HRF9.out (f := fun e => (([a0, a1, a2, a3, a4, a5] : List Nat).getD P.y.toNat 0).testBit e) (fun e => by rw [HR.out, Nat.testBit_or, HPB.out, HFY.out])))
            obtain ⟨b0, b1, b2, b3, b4, b5, hb6⟩ := list6 (show (ag.set x r).length = 6 by rw [List.length_set]; exact HAL0.out)
            rw [hb6] at HRO14 HAF14
            clear hb6 HRO13 HRZ13 hdr hfr hcur hcf hcy
            change Exit.then _ _ _ _ (w12.setCell ⟨w.heap.size + 3, x, none⟩ (.int .u64 (r : Nat))).drew
            generalize (w12.setCell ⟨w.heap.size + 3, x, none⟩ (.int .u64 (r : Nat))).drew = w14 at *
            have c0 := HRO14.out.cell 0
            have c1 := HRO14.out.cell 1
            have c2 := HRO14.out.cell 2
            have c3 := HRO14.out.cell 3
            have c4 := HRO14.out.cell 4
            have c5 := HRO14.out.cell 5
            have d0 := HRZ14.out.cell 0
            have fr0 := HRZ14.out.frozen 0
            have d1 := HRZ14.out.cell 1
            have fr1 := HRZ14.out.frozen 1
            have d2 := HRZ14.out.cell 2
            have fr2 := HRZ14.out.frozen 2
            have d3 := HRZ14.out.cell 3
            have fr3 := HRZ14.out.frozen 3
            have d4 := HRZ14.out.cell 4
            have fr4 := HRZ14.out.frozen 4
            have d5 := HRZ14.out.cell 5
            have fr5 := HRZ14.out.frozen 5
            simp only [uv, List.map_cons, List.map_nil, List.getElem?_cons_zero, List.getElem?_cons_succ] at c0 c1 c2 c3 c4 c5 d0 d1 d2 d3 d4 d5
            go_wp2_with fail
            have HS6 := Lib.hid (set6 (a0 := b0) (a1 := b1) (a2 := b2) (a3 := b3) (a4 := b4) (a5 := b5) HRZ14.out rfl)
            refine bodyPost_ret (results_cell_row rfl _ _ (w.heap.size + 1) 74 _ (0, 0) _ rfl HS6.out.1 Try.underlying74 rfl rfl) rfl ⟨b0, b1, b2, b3, b4, b5, rfl, HAF14.out, HB14.out.trans ((grown_below HS6.out.2 (show w.heap.size + 1 < _ by omega)).mono (by omega))⟩
        · have hlb : loanB P.op = false := by
            have h1 : ¬ P.op = 4 := fun h => hl (.inl h)
            have h2 : ¬ P.op = 5 := fun h => hl (.inr h)
            simp [loanB, h1, h2]
          rw [hlb]
          have p0 := HRX10.out.cell 0
          have p1 := HRX10.out.cell 1
          have p2 := HRX10.out.cell 2
          have p3 := HRX10.out.cell 3
          have p4 := HRX10.out.cell 4
          simp only [List.getElem?_cons_zero, List.getElem?_cons_succ] at p0 p1 p2 p3 p4
          have hxl : w.heap.size + 2 < w10.heap.size := by omega
          have BEL : Hid (∀ w', w'.cell? ⟨w.heap.size + 2, 0, none⟩ = some (.int .i64 P.op) ∧ w'.cell? ⟨w.heap.size + 2, 1, none⟩ = some (.int .i64 P.x) ∧ w'.cell? ⟨w.heap.size + 2, 2, none⟩ = some (.int .i64 P.y) ∧ w'.cell? ⟨w.heap.size + 2, 3, none⟩ = some (.int .i64 P.n) ∧ w'.cell? ⟨w.heap.size + 2, 4, none⟩ = some (.slice An P.next.length cn) ∧ Below w10.heap.size w10 w' → Below w10.heap.size w10 w') := Lib.hid fun _ h => h.2.2.2.2.2
          by_cases h3 : P.op = 3
          · have ho3 : (P.op == 3) = true := by rw [h3]; rfl
            have hy := HY.out (by rw [h3]; decide)
            have hy0 := hy.1
            have hy1 := hy.2
            have hy6 : P.y.toNat < 6 := by omega
            have H3 := Lib.hid h3
            clear h3 hy
            go_wp2_with fail
            refine wp_region_held_drew (S := (fun w' => w'.cell? ⟨w.heap.size + 2, 0, none⟩ = some (.int .i64 P.op) ∧ w'.cell? ⟨w.heap.size + 2, 1, none⟩ = some (.int .i64 P.x) ∧ w'.cell? ⟨w.heap.size + 2, 2, none⟩ = some (.int .i64 P.y) ∧ w'.cell? ⟨w.heap.size + 2, 3, none⟩ = some (.int .i64 P.n) ∧ w'.cell? ⟨w.heap.size + 2, 4, none⟩ = some (.slice An P.next.length cn) ∧ Below w10.heap.size w10 w')) (by kernel_rfl) ?_ (fun hHeld => ?_)
            · exact ⟨p0, p1, p2, p3, p4, (Below.refl _ _).drew⟩
            refine wpAnyH_take (i := 0) (oi := ⟨some 45, _, _, _, _, _⟩) (v := ?_) rfl (by kernel_rfl) (by kernel_rfl) (by kernel_rfl) (fun _ _ _ h => h) (Or.inl ⟨by rfl, fun w' hSw => ?_⟩) (by assumption) ?_
            rotate_left
            · (try dsimp only at hSw); go_simp; (try with_reducible rfl)
            (try simp only [Act.put, List.setIfInBounds_toArray, List.set_cons_zero, List.set_cons_succ])
            refine wpAnyH_ready (rs := [1]) (by kernel_rfl) (by simp) ?_
            refine AllReadyH.cons (o := ⟨some 46, _, _, _, _, _⟩) rfl (fun K hK => ?_) AllReadyH.nil
            go_simp
            (refine (isLoan_any _ _ _ _ _ _).mono ?_)
            (rintro e w12 ⟨rfl, hb12⟩)
            (have BX7 := Lib.hid ((BEL.out _ (by assumption)).trans (hb12.mono (BEL.out _ (by assumption)).size)))
            clear hb12
            (rw [hlb])
            go_simp
            refine hK.out _ _ ?_ (fun hHeld => ?_)
            · exact ⟨belC BX7.out p0 hxl, belC BX7.out p1 hxl, belC BX7.out p2 hxl, belC BX7.out p3 hxl, belC BX7.out p4 hxl, BX7.out⟩
            clear hK K
            (try simp only [Act.put, List.setIfInBounds_toArray, List.set_cons_zero, List.set_cons_succ])
            refine wpAnyH_take (i := 2) (oi := ⟨some 47, _, _, _, _, _⟩) (v := ?_) rfl (by kernel_rfl) (by kernel_rfl) (by kernel_rfl) (fun _ _ _ h => h) (Or.inl ⟨by rfl, fun w' hSw => ?_⟩) (by assumption) ?_
            rotate_left
            · (try dsimp only at hSw); go_simp; (try with_reducible rfl)
            (try simp only [Act.put, List.setIfInBounds_toArray, List.set_cons_zero, List.set_cons_succ])
            refine wpAnyH_take (i := 3) (oi := ⟨some 48, _, _, _, _, _⟩) (v := undef) rfl (by kernel_rfl) (by kernel_rfl) (by kernel_rfl) (fun _ _ _ h => h) (Or.inr ⟨by rfl, rfl⟩) (by assumption) ?_
            (try simp only [Act.put, List.setIfInBounds_toArray, List.set_cons_zero, List.set_cons_succ])
            refine wpAnyH_take (i := 4) (oi := ⟨some 49, _, _, _, _, _⟩) (v := undef) rfl (by kernel_rfl) (by kernel_rfl) (by kernel_rfl) (fun _ _ _ h => h) (Or.inr ⟨by rfl, rfl⟩) (by assumption) ?_
            (try simp only [Act.put, List.setIfInBounds_toArray, List.set_cons_zero, List.set_cons_succ])
            refine wpAnyH_take (i := 5) (oi := ⟨some 50, _, _, _, _, _⟩) (v := undef) rfl (by kernel_rfl) (by kernel_rfl) (by kernel_rfl) (fun _ _ _ h => h) (Or.inr ⟨by rfl, rfl⟩) (by assumption) ?_
            (try simp only [Act.put, List.setIfInBounds_toArray, List.set_cons_zero, List.set_cons_succ])
            refine wpAnyH_take (i := 6) (oi := ⟨some 51, _, _, _, _, _⟩) (v := undef) rfl (by kernel_rfl) (by kernel_rfl) (by kernel_rfl) (fun _ _ _ h => h) (Or.inr ⟨by rfl, rfl⟩) (by assumption) ?_
            (try simp only [Act.put, List.setIfInBounds_toArray, List.set_cons_zero, List.set_cons_succ])
            refine wpAnyH_take (i := 7) (oi := ⟨some 52, _, _, _, _, _⟩) (v := undef) rfl (by kernel_rfl) (by kernel_rfl) (by kernel_rfl) (fun _ _ _ h => h) (Or.inr ⟨by rfl, rfl⟩) (by assumption) ?_
            (try simp only [Act.put, List.setIfInBounds_toArray, List.set_cons_zero, List.set_cons_succ])
            refine wpAnyH_take (i := 8) (oi := ⟨some 53, _, _, _, _, _⟩) (v := undef) rfl (by kernel_rfl) (by kernel_rfl) (by kernel_rfl) (fun _ _ _ h => h) (Or.inr ⟨by rfl, rfl⟩) (by assumption) ?_
            (try simp only [Act.put, List.setIfInBounds_toArray, List.set_cons_zero, List.set_cons_succ])
            refine wpAnyH_take (i := 9) (oi := ⟨some 54, _, _, _, _, _⟩) (v := undef) rfl (by kernel_rfl) (by kernel_rfl) (by kernel_rfl) (fun _ _ _ h => h) (Or.inr ⟨by rfl, rfl⟩) (by assumption) ?_
            (try simp only [Act.put, List.setIfInBounds_toArray, List.set_cons_zero, List.set_cons_succ])
            refine wpAnyH_take (i := 10) (oi := ⟨some 55, _, _, _, _, _⟩) (v := undef) rfl (by kernel_rfl) (by kernel_rfl) (by kernel_rfl) (fun _ _ _ h => h) (Or.inr ⟨by rfl, rfl⟩) (by assumption) ?_
            (try simp only [Act.put, List.setIfInBounds_toArray, List.set_cons_zero, List.set_cons_succ])
            refine wpAnyH_take (i := 11) (oi := ⟨some 56, _, _, _, _, _⟩) (v := undef) rfl (by kernel_rfl) (by kernel_rfl) (by kernel_rfl) (fun _ _ _ h => h) (Or.inr ⟨by rfl, rfl⟩) (by assumption) ?_
            (try simp only [Act.put, List.setIfInBounds_toArray, List.set_cons_zero, List.set_cons_succ])
            refine wpAnyH_take (i := 12) (oi := ⟨some 57, _, _, _, _, _⟩) (v := undef) rfl (by kernel_rfl) (by kernel_rfl) (by kernel_rfl) (fun _ _ _ h => h) (Or.inr ⟨by rfl, rfl⟩) (by assumption) ?_
            (try simp only [Act.put, List.setIfInBounds_toArray, List.set_cons_zero, List.set_cons_succ])
            refine wpAnyH_take (i := 13) (oi := ⟨some 58, _, _, _, _, _⟩) (v := ?_) rfl (by kernel_rfl) (by kernel_rfl) (by kernel_rfl) (fun _ _ _ h => h) (Or.inl ⟨by rfl, fun w' hSw => ?_⟩) (by assumption) ?_
            rotate_left
            · (try dsimp only at hSw); go_simp; (try with_reducible rfl)
            (try simp only [Act.put, List.setIfInBounds_toArray, List.set_cons_zero, List.set_cons_succ])
            refine wpAnyH_take (i := 14) (oi := ⟨some 59, _, _, _, _, _⟩) (v := ?_) rfl (by kernel_rfl) (by kernel_rfl) (by kernel_rfl) (fun _ _ _ h => h) (Or.inl ⟨by rfl, fun w' hSw => ?_⟩) (by assumption) ?_
            rotate_left
            · (try dsimp only at hSw); go_simp; (try with_reducible rfl)
            (try simp only [Act.put, List.setIfInBounds_toArray, List.set_cons_zero, List.set_cons_succ])
            refine wpAnyH_take (i := 15) (oi := ⟨some 60, _, _, _, _, _⟩) (v := ?_) rfl (by kernel_rfl) (by kernel_rfl) (by kernel_rfl) (fun _ _ _ h => h) (Or.inl ⟨by rfl, fun w' hSw => ?_⟩) (by assumption) ?_
            rotate_left
            · (try dsimp only at hSw); go_simp; (try with_reducible rfl)
            (try simp only [Act.put, List.setIfInBounds_toArray, List.set_cons_zero, List.set_cons_succ])
            refine wpAnyH_take (i := 16) (oi := ⟨some 61, _, _, _, _, _⟩) (v := ?_) rfl (by kernel_rfl) (by kernel_rfl) (by kernel_rfl) (fun _ _ _ h => h) (Or.inl ⟨by rfl, fun w' hSw => ?_⟩) (by assumption) ?_
            rotate_left
            · (try dsimp only at hSw); go_simp; (try with_reducible rfl)
            (try simp only [Act.put, List.setIfInBounds_toArray, List.set_cons_zero, List.set_cons_succ])
            refine wpAnyH_take (i := 17) (oi := ⟨some 62, _, _, _, _, _⟩) (v := ?_) rfl (by kernel_rfl) (by kernel_rfl) (by kernel_rfl) (fun _ _ _ h => h) (Or.inl ⟨by rfl, fun w' hSw => ?_⟩) (by assumption) ?_
            rotate_left
            · (try dsimp only at hSw); go_simp; (try with_reducible rfl)
            (try simp only [Act.put, List.setIfInBounds_toArray, List.set_cons_zero, List.set_cons_succ])
            refine wpAnyH_take (i := 18) (oi := ⟨some 63, _, _, _, _, _⟩) (v := ?_) rfl (by kernel_rfl) (by kernel_rfl) (by kernel_rfl) (fun _ _ _ h => h) (Or.inl ⟨by rfl, fun w' hSw => ?_⟩) (by assumption) ?_
            rotate_left
            · (try dsimp only at hSw); go_simp; (try with_reducible rfl)
            (try simp only [Act.put, List.setIfInBounds_toArray, List.set_cons_zero, List.set_cons_succ])
            refine wpAnyH_done (by kernel_rfl) ?_ _
            have HRO12 := Lib.hid (HRO10.out.low BX7.out HRO10.out.lt)
            have HRZ12 := Lib.hid (HRZ10.out.low BX7.out HRZ10.out.lt)
            have HRF12 := Lib.hid (HRF10.out.low BX7.out HRF10.out.lt)
            have HRX12 := Lib.hid (HRX10.out.low BX7.out HRX10.out.lt)
            have HB12 := Lib.hid (HB10.out.trans (BX7.out.mono HB10.out.size))
            have hs12 := BX7.out.size
            obtain ⟨fy, hfy⟩ : ∃ fy, fy = ([a0, a1, a2, a3, a4, a5] : List Nat).getD P.y.toNat 0 := ⟨_, rfl⟩
            have hfy64 : fy < top64 := by rw [hfy]; exact HA0.out _ hy6
            have hcf := HRF12.out.cell P.y.toNat
            rw [uv_get (by simpa using hy6), ← hfy] at hcf
            have hcur := HRO12.out.cell x
            rw [uv_get (by rw [HAL0.out]; exact hx6), HGE.out] at hcur
            have hfr := HRO12.out.frozen x
            have hcy := HRX12.out.cell 2
            simp only [List.getElem?_cons_zero, List.getElem?_cons_succ] at hcy
            have hor : bits .or .u64 0 (fy : Int) = ((fy : Nat) : Int) := by
              have := or_u64 (a := 0) (Nat.two_pow_pos _) hfy64
              simpa using this
            have HFY := Lib.hid hfy
            clear hfy
            go_wp2_with fail
            go_region
            have HRO13 := HRO12.out.set_ x (.int .u64 (fy : Nat))
            have hdr := fun W : World => (Below.refl W.heap.size W).drew
            have HRO14 := Lib.hid (HRO13.low (hdr _) HRO13.lt)
            rw [uv_set] at HRO14
            have HRZ13 := HRZ12.out.other (g' := w.heap.size + 3) (by omega) x (.int .u64 (fy : Nat))
            have HRZ14 := Lib.hid (HRZ13.low (hdr _) HRZ13.lt)
            have HB14 := Lib.hid ((HB12.out.setCell (p := ⟨w.heap.size + 3, x, none⟩) (by show w.heap.size ≤ w.heap.size + 3; omega) (.int .u64 (fy : Nat))).drew)
            have hs14 := HRO14.out.lt
            have HAF14 := Lib.hid (HEND.out fy hfy64 (gl_move H3.out (f := fun e => (([a0, a1, a2, a3, a4, a5] : List Nat).getD P.y.toNat 0).testBit e) (fun e => by rw [HFY.out])))
            obtain ⟨b0, b1, b2, b3, b4, b5, hb6⟩ := list6 (show (ag.set x fy).length = 6 by rw [List.length_set]; exact HAL0.out)
            rw [hb6] at HRO14 HAF14
            clear hb6 HRO13 HRZ13 hdr hfr hcur hcf hcy
            change Exit.then _ _ _ _ (w12.setCell ⟨w.heap.size + 3, x, none⟩ (.int .u64 (fy : Nat))).drew
            generalize (w12.setCell ⟨w.heap.size + 3, x, none⟩ (.int .u64 (fy : Nat))).drew = w14 at *
            have c0 := HRO14.out.cell 0
            have c1 := HRO14.out.cell 1
            have c2 := HRO14.out.cell 2
            have c3 := HRO14.out.cell 3
            have c4 := HRO14.out.cell 4
            have c5 := HRO14.out.cell 5
            have d0 := HRZ14.out.cell 0
            have fr0 := HRZ14.out.frozen 0
            have d1 := HRZ14.out.cell 1
            have fr1 := HRZ14.out.frozen 1
            have d2 := HRZ14.out.cell 2
            have fr2 := HRZ14.out.frozen 2
            have d3 := HRZ14.out.cell 3
            have fr3 := HRZ14.out.frozen 3
            have d4 := HRZ14.out.cell 4
            have fr4 := HRZ14.out.frozen 4
            have d5 := HRZ14.out.cell 5
            have fr5 := HRZ14.out.frozen 5
            simp only [uv, List.map_cons, List.map_nil, List.getElem?_cons_zero, List.getElem?_cons_succ] at c0 c1 c2 c3 c4 c5 d0 d1 d2 d3 d4 d5
            go_wp2_with fail
            have HS6 := Lib.hid (set6 (a0 := b0) (a1 := b1) (a2 := b2) (a3 := b3) (a4 := b4) (a5 := b5) HRZ14.out rfl)
            refine bodyPost_ret (results_cell_row rfl _ _ (w.heap.size + 1) 74 _ (0, 0) _ rfl HS6.out.1 Try.underlying74 rfl rfl) rfl ⟨b0, b1, b2, b3, b4, b5, rfl, HAF14.out, HB14.out.trans ((grown_below HS6.out.2 (show w.heap.size + 1 < _ by omega)).mono (by omega))⟩
          · have ho3 : (P.op == 3) = false := by simpa using h3
            have HAF12 := Lib.hid (HEND.out 0 (Nat.two_pow_pos _) (gl_none h3 (fun h => hl (.inl h)) (fun h => hl (.inr h))))
            have hag : ag.set x 0 = ag := by
              have hxl : x < ag.length := by rw [HAL0.out]; exact hx6
              have := HGE.out
              rw [getD_lt hxl] at this
              rw [← this]; exact List.set_getElem_self hxl
            rw [hag] at HAF12
            clear hag h3
            go_wp2_with fail
            refine wp_region_held_drew (S := (fun w' => w'.cell? ⟨w.heap.size + 2, 0, none⟩ = some (.int .i64 P.op) ∧ w'.cell? ⟨w.heap.size + 2, 1, none⟩ = some (.int .i64 P.x) ∧ w'.cell? ⟨w.heap.size + 2, 2, none⟩ = some (.int .i64 P.y) ∧ w'.cell? ⟨w.heap.size + 2, 3, none⟩ = some (.int .i64 P.n) ∧ w'.cell? ⟨w.heap.size + 2, 4, none⟩ = some (.slice An P.next.length cn) ∧ Below w10.heap.size w10 w')) (by kernel_rfl) ?_ (fun hHeld => ?_)
            · exact ⟨p0, p1, p2, p3, p4, (Below.refl _ _).drew⟩
            refine wpAnyH_take (i := 0) (oi := ⟨some 45, _, _, _, _, _⟩) (v := ?_) rfl (by kernel_rfl) (by kernel_rfl) (by kernel_rfl) (fun _ _ _ h => h) (Or.inl ⟨by rfl, fun w' hSw => ?_⟩) (by assumption) ?_
            rotate_left
            · (try dsimp only at hSw); go_simp; (try with_reducible rfl)
            (try simp only [Act.put, List.setIfInBounds_toArray, List.set_cons_zero, List.set_cons_succ])
            refine wpAnyH_ready (rs := [1]) (by kernel_rfl) (by simp) ?_
            refine AllReadyH.cons (o := ⟨some 46, _, _, _, _, _⟩) rfl (fun K hK => ?_) AllReadyH.nil
            go_simp
            (refine (isLoan_any _ _ _ _ _ _).mono ?_)
            (rintro e w12 ⟨rfl, hb12⟩)
            (have BX7 := Lib.hid ((BEL.out _ (by assumption)).trans (hb12.mono (BEL.out _ (by assumption)).size)))
            clear hb12
            (rw [hlb])
            go_simp
            refine hK.out _ _ ?_ (fun hHeld => ?_)
            · exact ⟨belC BX7.out p0 hxl, belC BX7.out p1 hxl, belC BX7.out p2 hxl, belC BX7.out p3 hxl, belC BX7.out p4 hxl, BX7.out⟩
            clear hK K
            (try simp only [Act.put, List.setIfInBounds_toArray, List.set_cons_zero, List.set_cons_succ])
            refine wpAnyH_take (i := 2) (oi := ⟨some 47, _, _, _, _, _⟩) (v := ?_) rfl (by kernel_rfl) (by kernel_rfl) (by kernel_rfl) (fun _ _ _ h => h) (Or.inl ⟨by rfl, fun w' hSw => ?_⟩) (by assumption) ?_
            rotate_left
            · (try dsimp only at hSw); go_simp; (try with_reducible rfl)
            (try simp only [Act.put, List.setIfInBounds_toArray, List.set_cons_zero, List.set_cons_succ])
            refine wpAnyH_take (i := 3) (oi := ⟨some 48, _, _, _, _, _⟩) (v := undef) rfl (by kernel_rfl) (by kernel_rfl) (by kernel_rfl) (fun _ _ _ h => h) (Or.inr ⟨by rfl, rfl⟩) (by assumption) ?_
            (try simp only [Act.put, List.setIfInBounds_toArray, List.set_cons_zero, List.set_cons_succ])
            refine wpAnyH_take (i := 4) (oi := ⟨some 49, _, _, _, _, _⟩) (v := undef) rfl (by kernel_rfl) (by kernel_rfl) (by kernel_rfl) (fun _ _ _ h => h) (Or.inr ⟨by rfl, rfl⟩) (by assumption) ?_
            (try simp only [Act.put, List.setIfInBounds_toArray, List.set_cons_zero, List.set_cons_succ])
            refine wpAnyH_take (i := 5) (oi := ⟨some 50, _, _, _, _, _⟩) (v := undef) rfl (by kernel_rfl) (by kernel_rfl) (by kernel_rfl) (fun _ _ _ h => h) (Or.inr ⟨by rfl, rfl⟩) (by assumption) ?_
            (try simp only [Act.put, List.setIfInBounds_toArray, List.set_cons_zero, List.set_cons_succ])
            refine wpAnyH_take (i := 6) (oi := ⟨some 51, _, _, _, _, _⟩) (v := undef) rfl (by kernel_rfl) (by kernel_rfl) (by kernel_rfl) (fun _ _ _ h => h) (Or.inr ⟨by rfl, rfl⟩) (by assumption) ?_
            (try simp only [Act.put, List.setIfInBounds_toArray, List.set_cons_zero, List.set_cons_succ])
            refine wpAnyH_take (i := 7) (oi := ⟨some 52, _, _, _, _, _⟩) (v := undef) rfl (by kernel_rfl) (by kernel_rfl) (by kernel_rfl) (fun _ _ _ h => h) (Or.inr ⟨by rfl, rfl⟩) (by assumption) ?_
            (try simp only [Act.put, List.setIfInBounds_toArray, List.set_cons_zero, List.set_cons_succ])
            refine wpAnyH_take (i := 8) (oi := ⟨some 53, _, _, _, _, _⟩) (v := undef) rfl (by kernel_rfl) (by kernel_rfl) (by kernel_rfl) (fun _ _ _ h => h) (Or.inr ⟨by rfl, rfl⟩) (by assumption) ?_
            (try simp only [Act.put, List.setIfInBounds_toArray, List.set_cons_zero, List.set_cons_succ])
            refine wpAnyH_take (i := 9) (oi := ⟨some 54, _, _, _, _, _⟩) (v := undef) rfl (by kernel_rfl) (by kernel_rfl) (by kernel_rfl) (fun _ _ _ h => h) (Or.inr ⟨by rfl, rfl⟩) (by assumption) ?_
            (try simp only [Act.put, List.setIfInBounds_toArray, List.set_cons_zero, List.set_cons_succ])
            refine wpAnyH_take (i := 10) (oi := ⟨some 55, _, _, _, _, _⟩) (v := undef) rfl (by kernel_rfl) (by kernel_rfl) (by kernel_rfl) (fun _ _ _ h => h) (Or.inr ⟨by rfl, rfl⟩) (by assumption) ?_
            (try simp only [Act.put, List.setIfInBounds_toArray, List.set_cons_zero, List.set_cons_succ])
            refine wpAnyH_take (i := 11) (oi := ⟨some 56, _, _, _, _, _⟩) (v := undef) rfl (by kernel_rfl) (by kernel_rfl) (by kernel_rfl) (fun _ _ _ h => h) (Or.inr ⟨by rfl, rfl⟩) (by assumption) ?_
            (try simp only [Act.put, List.setIfInBounds_toArray, List.set_cons_zero, List.set_cons_succ])
            refine wpAnyH_take (i := 12) (oi := ⟨some 57, _, _, _, _, _⟩) (v := undef) rfl (by kernel_rfl) (by kernel_rfl) (by kernel_rfl) (fun _ _ _ h => h) (Or.inr ⟨by rfl, rfl⟩) (by assumption) ?_
            (try simp only [Act.put, List.setIfInBounds_toArray, List.set_cons_zero, List.set_cons_succ])
            refine wpAnyH_take (i := 13) (oi := ⟨some 58, _, _, _, _, _⟩) (v := ?_) rfl (by kernel_rfl) (by kernel_rfl) (by kernel_rfl) (fun _ _ _ h => h) (Or.inl ⟨by rfl, fun w' hSw => ?_⟩) (by assumption) ?_
            rotate_left
            · (try dsimp only at hSw); go_simp; (try with_reducible rfl)
            (try simp only [Act.put, List.setIfInBounds_toArray, List.set_cons_zero, List.set_cons_succ])
            refine wpAnyH_take (i := 14) (oi := ⟨some 59, _, _, _, _, _⟩) (v := ?_) rfl (by kernel_rfl) (by kernel_rfl) (by kernel_rfl) (fun _ _ _ h => h) (Or.inl ⟨by rfl, fun w' hSw => ?_⟩) (by assumption) ?_
            rotate_left
            · (try dsimp only at hSw); go_simp; (try with_reducible rfl)
            (try simp only [Act.put, List.setIfInBounds_toArray, List.set_cons_zero, List.set_cons_succ])
            refine wpAnyH_take (i := 15) (oi := ⟨some 60, _, _, _, _, _⟩) (v := ?_) rfl (by kernel_rfl) (by kernel_rfl) (by kernel_rfl) (fun _ _ _ h => h) (Or.inl ⟨by rfl, fun w' hSw => ?_⟩) (by assumption) ?_
            rotate_left
            · (try dsimp only at hSw); go_simp; (try with_reducible rfl)
            (try simp only [Act.put, List.setIfInBounds_toArray, List.set_cons_zero, List.set_cons_succ])
            refine wpAnyH_take (i := 16) (oi := ⟨some 61, _, _, _, _, _⟩) (v := ?_) rfl (by kernel_rfl) (by kernel_rfl) (by kernel_rfl) (fun _ _ _ h => h) (Or.inl ⟨by rfl, fun w' hSw => ?_⟩) (by assumption) ?_
            rotate_left
            · (try dsimp only at hSw); go_simp; (try with_reducible rfl)
            (try simp only [Act.put, List.setIfInBounds_toArray, List.set_cons_zero, List.set_cons_succ])
            refine wpAnyH_take (i := 17) (oi := ⟨some 62, _, _, _, _, _⟩) (v := ?_) rfl (by kernel_rfl) (by kernel_rfl) (by kernel_rfl) (fun _ _ _ h => h) (Or.inl ⟨by rfl, fun w' hSw => ?_⟩) (by assumption) ?_
            rotate_left
            · (try dsimp only at hSw); go_simp; (try with_reducible rfl)
            (try simp only [Act.put, List.setIfInBounds_toArray, List.set_cons_zero, List.set_cons_succ])
            refine wpAnyH_take (i := 18) (oi := ⟨some 63, _, _, _, _, _⟩) (v := ?_) rfl (by kernel_rfl) (by kernel_rfl) (by kernel_rfl) (fun _ _ _ h => h) (Or.inl ⟨by rfl, fun w' hSw => ?_⟩) (by assumption) ?_
            rotate_left
            · (try dsimp only at hSw); go_simp; (try with_reducible rfl)
            (try simp only [Act.put, List.setIfInBounds_toArray, List.set_cons_zero, List.set_cons_succ])
            refine wpAnyH_done (by kernel_rfl) ?_ _
            have HRO12 := Lib.hid (HRO10.out.low BX7.out HRO10.out.lt)
            have HRZ12 := Lib.hid (HRZ10.out.low BX7.out HRZ10.out.lt)
            have HB12 := Lib.hid (HB10.out.trans (BX7.out.mono HB10.out.size))
            have hs12 := BX7.out.size
            obtain ⟨b0, b1, b2, b3, b4, b5, rfl⟩ := list6 HAL0.out
            have c0 := HRO12.out.cell 0
            have c1 := HRO12.out.cell 1
            have c2 := HRO12.out.cell 2
            have c3 := HRO12.out.cell 3
            have c4 := HRO12.out.cell 4
            have c5 := HRO12.out.cell 5
            have d0 := HRZ12.out.cell 0
            have fr0 := HRZ12.out.frozen 0
            have d1 := HRZ12.out.cell 1
            have fr1 := HRZ12.out.frozen 1
            have d2 := HRZ12.out.cell 2
            have fr2 := HRZ12.out.frozen 2
            have d3 := HRZ12.out.cell 3
            have fr3 := HRZ12.out.frozen 3
            have d4 := HRZ12.out.cell 4
            have fr4 := HRZ12.out.frozen 4
            have d5 := HRZ12.out.cell 5
            have fr5 := HRZ12.out.frozen 5
            simp only [uv, List.map_cons, List.map_nil, List.getElem?_cons_zero, List.getElem?_cons_succ] at c0 c1 c2 c3 c4 c5 d0 d1 d2 d3 d4 d5
            go_wp2_with fail
            have HS6 := Lib.hid (set6 (a0 := b0) (a1 := b1) (a2 := b2) (a3 := b3) (a4 := b4) (a5 := b5) HRZ12.out rfl)
            refine bodyPost_ret (results_cell_row rfl _ _ (w.heap.size + 1) 74 _ (0, 0) _ rfl HS6.out.1 Try.underlying74 rfl rfl) rfl ⟨b0, b1, b2, b3, b4, b5, rfl, HAF12.out, HB12.out.trans ((grown_below HS6.out.2 (show w.heap.size + 1 < _ by omega)).mono (by omega))⟩
      · have hs1 : setsP P.op P.x < 0 := by omega
        have HAF8 : Hid (AfL ts Gloan (Cloan ts) k P (stF ns k) af) := Lib.hid (AfL.neg HFX.out HAL.out HAF2.out HTB.out hs1)
        obtain ⟨b0, b1, b2, b3, b4, b5, rfl⟩ := list6 HAL.out
        have c0 := HRO8.out.cell 0
        have c1 := HRO8.out.cell 1
        have c2 := HRO8.out.cell 2
        have c3 := HRO8.out.cell 3
        have c4 := HRO8.out.cell 4
        have c5 := HRO8.out.cell 5
        have d0 := HRZ8.out.cell 0
        have fr0 := HRZ8.out.frozen 0
        have d1 := HRZ8.out.cell 1
        have fr1 := HRZ8.out.frozen 1
        have d2 := HRZ8.out.cell 2
        have fr2 := HRZ8.out.frozen 2
        have d3 := HRZ8.out.cell 3
        have fr3 := HRZ8.out.frozen 3
        have d4 := HRZ8.out.cell 4
        have fr4 := HRZ8.out.frozen 4
        have d5 := HRZ8.out.cell 5
        have fr5 := HRZ8.out.frozen 5
        simp only [uv, List.map_cons, List.map_nil, List.getElem?_cons_zero, List.getElem?_cons_succ] at c0 c1 c2 c3 c4 c5 d0 d1 d2 d3 d4 d5
        go_wp2_with fail
        have HS6 := Lib.hid (set6 (a0 := b0) (a1 := b1) (a2 := b2) (a3 := b3) (a4 := b4) (a5 := b5) HRZ8.out rfl)
        refine bodyPost_ret (results_cell_row rfl _ _ (w.heap.size + 1) 74 _ (0, 0) _ rfl HS6.out.1 Try.underlying74 rfl rfl) rfl ⟨b0, b1, b2, b3, b4, b5, rfl, HAF8.out, HB8.out.trans ((grown_below HS6.out.2 (show w.heap.size + 1 < _ by omega)).mono (by omega))⟩

set_option maxHeartbeats 8000000 in
set_option maxRecDepth 100000 in
theorem loansIn_any (vg : Value) (ts : List Int) (pts : List Pt) (B : Nat) (w : World) (hg : GrS w B vg ts pts) (hB : B ≤ w.heap.size) (gd : Good ts pts) :
    Calls Try.prog 47 #[vg] w (TrRet w ts pts Gloan (Cloan ts)) := by
  have HG := Lib.hid hg
  have GD := Lib.hid gd
  have h6 := gd.h6
  have hpl := gd.len
  have h0 := gd.pos
  clear gd
  obtain ⟨g, At, ct, vb, Al, cl, rfl, hgB, g0, g1, g2, ht, hp, htl, hpl'⟩ := hg.open_
  have hmk := make_from pts.length (by omega)
  go_enter Try.func47, Try.ntmps47
  go_wp2_with fail
  have hrow : RowB (w.alloc (.cells (uv (List.replicate (pts.length * 6) 0)).toArray 74)) w.heap.size 74 (uv (List.replicate (pts.length * 6) 0)) := RowB.new _ _ _
  have hinit := TrI.init ts pts Gloan (Cloan ts)
  have hbw := bel_a w (.cells (uv (List.replicate (pts.length * 6) 0)).toArray 74)
  generalize List.replicate (pts.length * 6) 0 = fs0 at *
  clear hmk
  go_loopg [4] (1 + muB pts.length 6 64 (stF fs0)) (fun gk c wr => ∃ (b : Bool) (ms : List Nat), c = .bool b ∧ RowB wr w.heap.size 74 (uv ms) ∧ TrI ts pts Gloan (Cloan ts) ms ∧ (b = true → muB pts.length 6 64 (stF ms) < gk) ∧ (b = false → ∀ i, i < pts.length → ClT ts pts Gloan (Cloan ts) ms i) ∧ Below w.heap.size w wr)
  case atStart => exact ⟨true, fs0, rfl, hrow, hinit, fun _ => by omega, fun h => (by cases h), hbw⟩
  case round =>
    obtain ⟨bc, ms, rfl, hrw, hfw, hmu, hcl, hbr⟩ := hrel
    have HFW := Lib.hid hfw
    have HMU := Lib.hid hmu
    have HCL := Lib.hid hcl
    have HRW := Lib.hid hrw
    have hsz := hbr.size
    have HML := Lib.hid hfw.len
    have g2' := (hbr.cell (p := ⟨g, 2, none⟩) (by show g < _; omega)).trans g2
    clear hfw hmu hcl hrw
    cases bc
    · go_wp2_with fail
      go_ret
      exact ⟨w.heap.size, ms, rfl, Nat.le_refl _, HRW.out, HML.out, HFW.out.small, HFW.out.done h6 (Gloan_lt64 hpl) (HCL.out (by simp)), hbr⟩
    · go_wp2_with fail
      go_loopw [4, 24] (fun c i wx => ∃ (b : Bool) (k : Nat) (ns : List Nat), c = .bool b ∧ i = .int .i64 k ∧ k ≤ pts.length ∧ RowB wx w.heap.size 74 (uv ns) ∧ TrI ts pts Gloan (Cloan ts) ns ∧ (b = true → muB pts.length 6 64 (stF ns) < muB pts.length 6 64 (stF ms)) ∧ (b = false → ns = ms ∧ ∀ i, i < k → ClT ts pts Gloan (Cloan ts) ms i) ∧ Below w.heap.size w wx) (fun _ i _ => pts.length - (intOf i).toNat)
      case atStart => exact ⟨false, 0, ms, rfl, rfl, by omega, HRW.out, HFW.out, fun h => (by cases h), fun _ => ⟨rfl, fun i hi => by omega⟩, hbr⟩
      case round =>
        obtain ⟨bc, k, ns, rfl, rfl, hk, hrw, hfw, hmu, hcl, hbx⟩ := hrel
        have HFX := Lib.hid hfw
        have HMX := Lib.hid hmu
        have HCX := Lib.hid hcl
        have HRX := Lib.hid hrw
        have hszx := hbx.size
        have HLX := Lib.hid hfw.len
        clear hfw hmu hcl hrw g2'
        by_cases hlt : k < pts.length
        · obtain ⟨b, off, c, nv, e, hb, hc, hl, hnx, z0, z1, z2, z3, z4⟩ := hp.get hlt
          injection e with e1 e9 e2
          subst e1 e2
          clear e9
          have hbB : b < w.heap.size := by omega
          have HNX := Lib.hid hnx
          obtain ⟨An, cn, rfl, hcn, hln, -⟩ := hnx
          simp only [List.length_map] at hcn hln z4 HNX
          have p0 := (hbx.cell (p := ⟨b, off + k * 5, none⟩) hbB).trans z0
          have p1 := (hbx.cell (p := ⟨b, off + k * 5 + 1, none⟩) hbB).trans z1
          have p2 := (hbx.cell (p := ⟨b, off + k * 5 + 2, none⟩) hbB).trans z2
          have p3 := (hbx.cell (p := ⟨b, off + k * 5 + 3, none⟩) hbB).trans z3
          have p4 := (hbx.cell (p := ⟨b, off + k * 5 + 4, none⟩) hbB).trans z4
          clear z0 z1 z2 z3 z4
          have HPG := Lib.hid (List.getElem?_eq_getElem hlt)
          have HSK := Lib.hid ((GD.out.ok _ (List.getElem_mem hlt)).sets)
          have HNK := Lib.hid (GD.out.next _ (List.getElem_mem hlt))
          have hkl : k * 6 + 5 < ns.length := by have := HLX.out; omega
          obtain ⟨a0, ha0⟩ : ∃ a, a = ns.getD (k * 6) 0 := ⟨_, rfl⟩
          obtain ⟨a1, ha1⟩ : ∃ a, a = ns.getD (k * 6 + 1) 0 := ⟨_, rfl⟩
          obtain ⟨a2, ha2⟩ : ∃ a, a = ns.getD (k * 6 + 2) 0 := ⟨_, rfl⟩
          obtain ⟨a3, ha3⟩ : ∃ a, a = ns.getD (k * 6 + 3) 0 := ⟨_, rfl⟩
          obtain ⟨a4, ha4⟩ : ∃ a, a = ns.getD (k * 6 + 4) 0 := ⟨_, rfl⟩
          obtain ⟨a5, ha5⟩ : ∃ a, a = ns.getD (k * 6 + 5) 0 := ⟨_, rfl⟩
          have q0 : ∀ o, (wr.alloc o).cell? ⟨w.heap.size, k * 6, none⟩ = some (.int .u64 (a0 : Nat)) := fun o => by rw [(HRX.out.alloc o).cell, uv_get (by omega), ha0]
          have q1 : ∀ o, (wr.alloc o).cell? ⟨w.heap.size, k * 6 + 1, none⟩ = some (.int .u64 (a1 : Nat)) := fun o => by rw [(HRX.out.alloc o).cell, uv_get (by omega), ha1]
          have q2 : ∀ o, (wr.alloc o).cell? ⟨w.heap.size, k * 6 + 2, none⟩ = some (.int .u64 (a2 : Nat)) := fun o => by rw [(HRX.out.alloc o).cell, uv_get (by omega), ha2]
          have q3 : ∀ o, (wr.alloc o).cell? ⟨w.heap.size, k * 6 + 3, none⟩ = some (.int .u64 (a3 : Nat)) := fun o => by rw [(HRX.out.alloc o).cell, uv_get (by omega), ha3]
          have q4 : ∀ o, (wr.alloc o).cell? ⟨w.heap.size, k * 6 + 4, none⟩ = some (.int .u64 (a4 : Nat)) := fun o => by rw [(HRX.out.alloc o).cell, uv_get (by omega), ha4]
          have q5 : ∀ o, (wr.alloc o).cell? ⟨w.heap.size, k * 6 + 5, none⟩ = some (.int .u64 (a5 : Nat)) := fun o => by rw [(HRX.out.alloc o).cell, uv_get (by omega), ha5]
          have HA : Hid (∀ u, u < 6 → ([a0, a1, a2, a3, a4, a5] : List Nat).getD u 0 = ns.getD (k * 6 + u) 0) := Lib.hid fun u hu => by
            have h : u = 0 ∨ u = 1 ∨ u = 2 ∨ u = 3 ∨ u = 4 ∨ u = 5 := by omega
            rcases h with rfl | rfl | rfl | rfl | rfl | rfl <;> simp [ha0, ha1, ha2, ha3, ha4, ha5]
          clear ha0 ha1 ha2 ha3 ha4 ha5
          have HCF : Hid (∀ w', Below wr.heap.size wr w' → Calls Try.prog 84 #[.pointer (some ⟨g, 0, none⟩), .int .i64 (k : Nat), .agg #[.int .u64 (a0 : Nat), .int .u64 (a1 : Nat), .int .u64 (a2 : Nat), .int .u64 (a3 : Nat), .int .u64 (a4 : Nat), .int .u64 (a5 : Nat)]] w' fun e w'' => ∃ b0 b1 b2 b3 b4 b5 : Nat, e = .returned (.agg #[.int .u64 (b0 : Nat), .int .u64 (b1 : Nat), .int .u64 (b2 : Nat), .int .u64 (b3 : Nat), .int .u64 (b4 : Nat), .int .u64 (b5 : Nat)]) ∧ AfL ts Gloan (Cloan ts) k pts[k] (stF ns k) [b0, b1, b2, b3, b4, b5] ∧ Below w'.heap.size w' w'') := Lib.hid fun w' h => cameFrom_any _ ts pts B w' (HG.out.low (hbx.trans (h.mono hszx)) hB) (by have := h.size; omega) GD.out k hlt ns HFX.out a0 a1 a2 a3 a4 a5 HA.out
          generalize pts[k] = P at *
          have HX0 : Hid (RowB (wr.alloc (.cells #[.int .i64 P.op, .int .i64 P.x, .int .i64 P.y, .int .i64 P.n, .slice An P.next.length cn] 62)) wr.heap.size 62 [.int .i64 P.op, .int .i64 P.x, .int .i64 P.y, .int .i64 P.n, .slice An P.next.length cn]) := Lib.hid (RowB.new _ _ _)
          have HR0 := Lib.hid (HRX.out.alloc (.cells #[.int .i64 P.op, .int .i64 P.x, .int .i64 P.y, .int .i64 P.n, .slice An P.next.length cn] 62))
          have HB0 := Lib.hid (bel_a wr (.cells #[.int .i64 P.op, .int .i64 P.x, .int .i64 P.y, .int .i64 P.n, .slice An P.next.length cn] 62))
          have hs0 : (wr.alloc (.cells #[.int .i64 P.op, .int .i64 P.x, .int .i64 P.y, .int .i64 P.n, .slice An P.next.length cn] 62)).heap.size = wr.heap.size + 1 := by simp
          go_wp2_with fail
          generalize wr.alloc (.cells #[.int .i64 P.op, .int .i64 P.x, .int .i64 P.y, .int .i64 P.n, .slice An P.next.length cn] 62) = w1 at *
          clear q0 q1 q2 q3 q4 q5
          refine (HCF.out w1 HB0.out).mono ?_
          rintro e w7 ⟨b0, b1, b2, b3, b4, b5, rfl, haf, hb7⟩
          have HAF8 := Lib.hid haf
          have HX7 := Lib.hid ((HX0.out.low hb7 HX0.out.lt).alloc (.cells (uv [b0, b1, b2, b3, b4, b5]).toArray 74))
          have HR8 := Lib.hid ((HR0.out.low hb7 HR0.out.lt).alloc (.cells (uv [b0, b1, b2, b3, b4, b5]).toArray 74))
          have HXA8 := Lib.hid (RowB.new w7 (uv [b0, b1, b2, b3, b4, b5]) 74)
          have HB8 : Hid (Below w.heap.size w (w7.alloc (.cells (uv [b0, b1, b2, b3, b4, b5]).toArray 74))) := Lib.hid ((hbx.trans ((HB0.out.trans (hb7.mono HB0.out.size)).mono hszx)).alloc (by have := hb7.size; omega) _)
          have hs7 := hb7.size
          obtain ⟨ga, hga⟩ : ∃ ga, ga = w7.heap.size := ⟨_, rfl⟩
          have hga1 : wr.heap.size < ga := by omega
          have p4 : (w7.alloc (.cells #[.int .u64 (b0 : Nat), .int .u64 (b1 : Nat), .int .u64 (b2 : Nat), .int .u64 (b3 : Nat), .int .u64 (b4 : Nat), .int .u64 (b5 : Nat)] 74)).cell? ⟨wr.heap.size, 4, none⟩ = some (.slice An P.next.length cn) := HX7.out.cell 4
          rw [← hga] at HXA8
          have HGA := Lib.hid hga
          clear hga hb7 haf HX0 HR0 HB0 hs0 HCF
          obtain ⟨wo, rfl⟩ : ∃ wo : World, wo = wr := ⟨_, rfl⟩
          go_wp2_with fail
          rw [← HGA.out]
          have HSND : Hid (∀ kk ∈ P.next, ∀ v, v < 6 → ∀ e, (([b0, b1, b2, b3, b4, b5] : List Nat).getD v 0).testBit e = true → Fl ts pts Gloan (Cloan ts) kk v e) := Lib.hid fun kk hkk v hv e he => AfL.snd HFX.out HAF8.out HPG.out hkk HSK.out hv he
          have HAFB : Hid (∀ v, v < 6 → ([b0, b1, b2, b3, b4, b5] : List Nat).getD v 0 < top64) := Lib.hid fun v hv => (HAF8.out.2 v hv).1
          generalize hnx : P.next = nx at *
          have HNXE := Lib.hid hnx
          clear hnx
          go_loopw [4, 39] (fun c i wy => ∃ (d : Bool) (j : Nat) (ns2 : List Nat), c = .bool d ∧ i = .int .i64 j ∧ j ≤ nx.length ∧ RowB wy w.heap.size 74 (uv ns2) ∧ RowB wy (ga) 74 (uv [b0, b1, b2, b3, b4, b5]) ∧ TrI ts pts Gloan (Cloan ts) ns2 ∧ (d = true → muB pts.length 6 64 (stF ns2) < muB pts.length 6 64 (stF ms)) ∧ (d = false → (bc = false ∧ ns2 = ns) ∧ ∀ kk ∈ nx.take j, ∀ v, v < 6 → ns.getD (kk * 6 + v) 0 ||| ([b0, b1, b2, b3, b4, b5] : List Nat).getD v 0 = ns.getD (kk * 6 + v) 0) ∧ Below w.heap.size w wy) (fun _ i _ => nx.length - (intOf i).toNat)
          case atStart => exact ⟨bc, 0, ns, rfl, rfl, by omega, HR8.out, HXA8.out, HFX.out, HMX.out, fun h => ⟨⟨h, rfl⟩, fun kk hkk => by simp at hkk⟩, HB8.out⟩
          case round =>
            obtain ⟨d, j, ns2, rfl, rfl, hj, hry, hra, hfy, hmy, hcy, hby⟩ := hrel
            have HRY := Lib.hid hry
            have HRA := Lib.hid hra
            have HFY := Lib.hid hfy
            have HMY := Lib.hid hmy
            have HCY := Lib.hid hcy
            have HBY := Lib.hid hby
            have hszy := hby.size
            clear hry hra hfy hmy hcy
            by_cases hjl : j < nx.length
            · obtain ⟨An', cn', en, -, -, hrd⟩ := HNX.out.low hby hB
              simp only [List.length_map] at en
              injection en with e1 e9 e2
              subst e1 e2
              clear e9 hby
              obtain ⟨bn, on, rfl, hbn, hcn2⟩ := hrd.int_at (k := j) (by simpa using hjl)
              have hcj := hcn2 j (by simpa using hjl)
              rw [getD_lt (by simpa using hjl), List.getElem_map] at hcj
              have HMEM := Lib.hid (List.getElem_mem hjl)
              have HT := Lib.hid (take_succ_get nx j hjl)
              generalize nx[j] = kk at *
              have hkk : kk < pts.length := HNK.out kk HMEM.out
              have r0 := HRA.out.cell 0
              have r1 := HRA.out.cell 1
              have r2 := HRA.out.cell 2
              have r3 := HRA.out.cell 3
              have r4 := HRA.out.cell 4
              have r5 := HRA.out.cell 5
              simp only [uv, List.map_cons, List.map_nil, List.getElem?_cons_zero, List.getElem?_cons_succ] at r0 r1 r2 r3 r4 r5
              clear hcn2 hrd
              obtain ⟨wo2, rfl⟩ : ∃ wo2 : World, wo2 = wr := ⟨_, rfl⟩
              go_wp2_with fail
              clear r0 r1 r2 r3 r4 r5
              go_loopw [4, 44] (fun c i wz => ∃ (d2 : Bool) (u : Nat) (ns3 : List Nat), c = .bool d2 ∧ i = .int .i64 u ∧ u ≤ 6 ∧ RowB wz w.heap.size 74 (uv ns3) ∧ RowB wz (ga) 74 (uv [b0, b1, b2, b3, b4, b5]) ∧ TrI ts pts Gloan (Cloan ts) ns3 ∧ (d2 = true → muB pts.length 6 64 (stF ns3) < muB pts.length 6 64 (stF ms)) ∧ (d2 = false → ((bc = false ∧ ns3 = ns) ∧ ∀ kk ∈ nx.take j, ∀ v, v < 6 → ns.getD (kk * 6 + v) 0 ||| ([b0, b1, b2, b3, b4, b5] : List Nat).getD v 0 = ns.getD (kk * 6 + v) 0) ∧ ∀ v, v < u → ns.getD (kk * 6 + v) 0 ||| ([b0, b1, b2, b3, b4, b5] : List Nat).getD v 0 = ns.getD (kk * 6 + v) 0) ∧ Below w.heap.size w wz) (fun _ i _ => 6 - (intOf i).toNat)
              case atStart => exact ⟨d, 0, ns2, rfl, rfl, by omega, HRY.out, HRA.out, HFY.out, HMY.out, fun h => ⟨HCY.out h, fun v hv => by omega⟩, HBY.out⟩
              case round =>
                obtain ⟨d2, u, ns3, rfl, rfl, hu, hrz, hraz, hfz, hmz, hcz, hbz⟩ := hrel
                have HRZ := Lib.hid hrz
                have HRAZ := Lib.hid hraz
                have HFZ := Lib.hid hfz
                have HMZ := Lib.hid hmz
                have HCZ := Lib.hid hcz
                have HBZ := Lib.hid hbz
                have HLZ := Lib.hid hfz.len
                have hszz := hbz.size
                clear hrz hraz hfz hmz hcz hbz
                by_cases hul : u < 6
                · obtain ⟨m, hm⟩ : ∃ m, m = ([b0, b1, b2, b3, b4, b5] : List Nat).getD u 0 := ⟨_, rfl⟩
                  have hix : ∀ w, (Instr.index 74 (.agg #[.int .u64 (b0 : Nat), .int .u64 (b1 : Nat), .int .u64 (b2 : Nat), .int .u64 (b3 : Nat), .int .u64 (b4 : Nat), .int .u64 (b5 : Nat)]) (.int .i64 (u : Nat))).run Try.prog w = .ok (.int .u64 (m : Nat)) w := fun w => by rw [hm]; exact index_from hul w
                  have hm64 : m < top64 := by rw [hm]; exact HAFB.out u hul
                  have HSM : Hid (∀ e, m.testBit e = true → Fl ts pts Gloan (Cloan ts) kk u e) := Lib.hid (by rw [hm]; exact HSND.out kk HMEM.out u hul)
                  have HM := Lib.hid hm
                  have hku : kk * 6 + u < ns3.length := by rw [HLZ.out]; omega
                  obtain ⟨a, ha⟩ : ∃ a, a = ns3.getD (kk * 6 + u) 0 := ⟨_, rfl⟩
                  have ha64 : a < top64 := by rw [ha]; exact getD_small HFZ.out.small _
                  have hck : wr.cell? ⟨w.heap.size, kk * 6 + u, none⟩ = some (.int .u64 (a : Nat)) := by rw [HRZ.out.cell, uv_get hku, ha]
                  have hfr := HRZ.out.frozen (kk * 6 + u)
                  obtain ⟨r, hr⟩ : ∃ r, r = a ||| m := ⟨_, rfl⟩
                  have hor : bits .or .u64 (a : Int) (m : Int) = ((r : Nat) : Int) := by rw [hr]; exact or_u64 ha64 hm64
                  have HA := Lib.hid ha
                  have HR := Lib.hid hr
                  clear hm ha hr hm64 ha64
                  by_cases hra : r = a
                  · subst hra
                    go_wp2_with fail
                    go_quiet (fail)
                    go_wp2_with fail
                    refine ⟨⟨d2, u + 1, ns3, rfl, by go_num, by omega, HRZ.out, HRAZ.out, HFZ.out, HMZ.out, fun h => ⟨(HCZ.out h).1, fun v hv => ?_⟩, Below.drN HBZ.out _⟩, by simp [intOf] <;> omega⟩
                    by_cases hvu : v = u
                    · rw [hvu, ← HM.out, ← (HCZ.out h).1.1.2, ← HA.out, ← HR.out]
                    · exact (HCZ.out h).2 v (by omega)
                  · have hne : ((r : Int) != (a : Int)) = true := by simp; omega
                    have HRA9 := Lib.hid hra
                    clear hra
                    go_wp2_with fail
                    go_quiet (fail)
                    go_wp2_with fail
                    go_region
                    go_wp2_with fail
                    have hmu1 := TrI.mu (n := pts.length) HLZ.out HFZ.out.small hkk hul (s := m) (by rw [HM.out]; exact HAFB.out u hul) (by rw [← HA.out, ← HR.out]; exact HRA9.out)
                    have hup := HFZ.out.upd hkk hul (s := m) (by rw [HM.out]; exact HAFB.out u hul) HSM.out
                    rw [← HA.out, ← HR.out] at hmu1 hup
                    refine ⟨⟨true, u + 1, ns3.set (kk * 6 + u) r, rfl, by go_num, by omega, by rw [← uv_set]; exact HRZ.out.set_ _ _, HRAZ.out.other (by omega) _ _, hup, fun _ => ?_, fun h => (by cases h), ?_⟩, by simp [intOf] <;> omega⟩
                    · cases d2
                      · obtain ⟨⟨⟨e1, e2⟩, _⟩, _⟩ := HCZ.out rfl
                        have e4 := (HCX.out e1).1
                        rw [← e4, ← e2]
                        exact hmu1
                      · exact Nat.lt_trans hmu1 (HMZ.out rfl)
                    · exact (Below.drN HBZ.out _).setCell (p := ⟨w.heap.size, kk * 6 + u, none⟩) (Nat.le_refl _) _
                · have hue : u = 6 := by omega
                  have HE6 : Hid (d2 = false → (bc = false ∧ ns3 = ns) ∧ ∀ kk ∈ nx.take (j + 1), ∀ v, v < 6 → ns.getD (kk * 6 + v) 0 ||| ([b0, b1, b2, b3, b4, b5] : List Nat).getD v 0 = ns.getD (kk * 6 + v) 0) := Lib.hid fun h => by
                    obtain ⟨⟨e1, e2⟩, e3⟩ := HCZ.out h
                    refine ⟨e1, fun k2 hk2 => ?_⟩
                    rw [HT.out, List.mem_append, List.mem_singleton] at hk2
                    rcases hk2 with hk2 | hk2
                    · exact e2 k2 hk2
                    · rw [hk2]; intro v hv; exact e3 v (by omega)
                  clear hue
                  go_wp2_with fail
                  exact ⟨⟨d2, j + 1, ns3, rfl, by go_num, by omega, HRZ.out, HRAZ.out, HFZ.out, HMZ.out, HE6.out, HBZ.out⟩, by simp [intOf] <;> omega⟩
            · have hje : j = nx.length := by omega
              have HEE : Hid (d = false → ns2 = ms ∧ ∀ i, i < k + 1 → ClT ts pts Gloan (Cloan ts) ms i) := Lib.hid fun h => by
                obtain ⟨⟨e1, e2⟩, e3⟩ := HCY.out h
                obtain ⟨e4, e5⟩ := HCX.out e1
                refine ⟨e2.trans e4, fun i hi => ?_⟩
                by_cases hik : i < k
                · exact e5 i hik
                · have hik2 : i = k := by omega
                  subst hik2
                  intro p hp kk hkk v hv e he
                  rw [HPG.out] at hp
                  injection hp with hp
                  subst hp
                  rw [HNXE.out] at hkk
                  rw [hje, List.take_length] at e3
                  rw [← e4] at he ⊢
                  rw [← (HAF8.out.2 v hv).2 e] at he
                  unfold stF
                  rw [decide_eq_true hv, Bool.true_and]
                  exact or_bits.1 (e3 kk hkk v hv) e he
              clear hje
              go_wp2_with fail
              exact ⟨⟨d, k + 1, ns2, rfl, by go_num, by omega, HRY.out, HFY.out, HMY.out, HEE.out, HBY.out⟩, by simp [intOf] <;> omega⟩
        · have hkl : k = pts.length := by omega
          have HCE : Hid (bc = false → ns = ms ∧ ∀ i, i < pts.length → ClT ts pts Gloan (Cloan ts) ms i) := Lib.hid (by rw [← hkl]; exact HCX.out)
          clear hkl
          go_wp2_with fail
          cases bc
          · obtain ⟨e1, e2⟩ := HCE.out rfl
            go_roundg 0
            case measure => have := HMU.out (by simp); omega
            case rel => exact ⟨false, ns, rfl, HRX.out, HFX.out, fun h => (by cases h), fun _ i hi => (by rw [e1]; exact e2 i hi), hbx⟩
          · go_roundg (muB pts.length 6 64 (stF ns) + 1)
            case measure => have := HMU.out (by simp); have := HMX.out rfl; omega
            case rel => exact ⟨true, ns, rfl, HRX.out, HFX.out, fun _ => (by omega), fun h => (by cases h), hbx⟩

end Go.Proofs.Ytfioaohadanjmaa
