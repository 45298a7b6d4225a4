import Derived.Test.YtidlifijgooceaaJ08
set_option linter.unusedVariables false

namespace Go.Proofs.Ytidlifijgooceaa
open Go.RowKit

end Go.Proofs.Ytidlifijgooceaa

namespace Go.Proofs.Ytidlifijgooceaa
open Go.RowKit

/-- bools -/
def BoolS (w : World) (B : Nat) (v : Value) (l : List Bool) : Prop :=
  ∃ A c, v = .slice A l.length c ∧ l.length ≤ c ∧ l.length ≤ 4194304 ∧ Rd w B 1 A l.length (l.map .bool)
theorem BoolS.low {w w' : World} {B B' : Nat} {v : Value} {l : List Bool} (h : BoolS w B v l) (hb : Below B' w w') (hB : B ≤ B') : BoolS w' B v l := by
  obtain ⟨A, c, e, h1, h2, h3⟩ := h
  exact ⟨A, c, e, h1, h2, h3.low hb hB⟩
theorem BoolS.more {w : World} {B B' : Nat} {v : Value} {l : List Bool} (h : BoolS w B v l) (hB : B ≤ B') : BoolS w B' v l := by
  obtain ⟨A, c, e, h1, h2, h3⟩ := h
  exact ⟨A, c, e, h1, h2, h3.more hB⟩
end Go.Proofs.Ytidlifijgooceaa

/- Words for regions: cells that a region holds on to. Made by wip/gen_Held.py. -/
namespace Go.Proofs.Ytidlifijgooceaa
open Go.RowKit

def Hc1 (W : World) (b1 o1 : Nat) (v1 : Value) (w' : World) : Prop := w'.cell? ⟨b1, o1, none⟩ = some v1 ∧ Below W.heap.size W w' ∧ b1 < W.heap.size
theorem Hc1.step {W : World} {b1 o1 : Nat} {v1 : Value} {w' w'' : World} (h : Hc1 W b1 o1 v1 w') (hb : Below w'.heap.size w' w'') : Hc1 W b1 o1 v1 w'' := by
  obtain ⟨h1, hB, k1⟩ := h
  have hs := hB.size
  exact ⟨(hb.cell (p := ⟨b1, o1, none⟩) (by show b1 < _; omega)).trans h1, hB.trans (hb.mono hs), k1⟩
theorem Hc1.bel {W : World} {b1 o1 : Nat} {v1 : Value} {w' : World} (h : Hc1 W b1 o1 v1 w') : Below W.heap.size W w' := h.2.1
def Hc2 (W : World) (b1 o1 : Nat) (v1 : Value) (b2 o2 : Nat) (v2 : Value) (w' : World) : Prop := w'.cell? ⟨b1, o1, none⟩ = some v1 ∧ w'.cell? ⟨b2, o2, none⟩ = some v2 ∧ Below W.heap.size W w' ∧ b1 < W.heap.size ∧ b2 < W.heap.size
theorem Hc2.step {W : World} {b1 o1 : Nat} {v1 : Value} {b2 o2 : Nat} {v2 : Value} {w' w'' : World} (h : Hc2 W b1 o1 v1 b2 o2 v2 w') (hb : Below w'.heap.size w' w'') : Hc2 W b1 o1 v1 b2 o2 v2 w'' := by
  obtain ⟨h1, h2, hB, k1, k2⟩ := h
  have hs := hB.size
  exact ⟨(hb.cell (p := ⟨b1, o1, none⟩) (by show b1 < _; omega)).trans h1, (hb.cell (p := ⟨b2, o2, none⟩) (by show b2 < _; omega)).trans h2, hB.trans (hb.mono hs), k1, k2⟩
theorem Hc2.bel {W : World} {b1 o1 : Nat} {v1 : Value} {b2 o2 : Nat} {v2 : Value} {w' : World} (h : Hc2 W b1 o1 v1 b2 o2 v2 w') : Below W.heap.size W w' := h.2.2.1
def Hc6 (W : World) (b1 o1 : Nat) (v1 : Value) (b2 o2 : Nat) (v2 : Value) (b3 o3 : Nat) (v3 : Value) (b4 o4 : Nat) (v4 : Value) (b5 o5 : Nat) (v5 : Value) (b6 o6 : Nat) (v6 : Value) (w' : World) : Prop := w'.cell? ⟨b1, o1, none⟩ = some v1 ∧ w'.cell? ⟨b2, o2, none⟩ = some v2 ∧ w'.cell? ⟨b3, o3, none⟩ = some v3 ∧ w'.cell? ⟨b4, o4, none⟩ = some v4 ∧ w'.cell? ⟨b5, o5, none⟩ = some v5 ∧ w'.cell? ⟨b6, o6, none⟩ = some v6 ∧ Below W.heap.size W w' ∧ b1 < W.heap.size ∧ b2 < W.heap.size ∧ b3 < W.heap.size ∧ b4 < W.heap.size ∧ b5 < W.heap.size ∧ b6 < W.heap.size
theorem Hc6.step {W : World} {b1 o1 : Nat} {v1 : Value} {b2 o2 : Nat} {v2 : Value} {b3 o3 : Nat} {v3 : Value} {b4 o4 : Nat} {v4 : Value} {b5 o5 : Nat} {v5 : Value} {b6 o6 : Nat} {v6 : Value} {w' w'' : World} (h : Hc6 W b1 o1 v1 b2 o2 v2 b3 o3 v3 b4 o4 v4 b5 o5 v5 b6 o6 v6 w') (hb : Below w'.heap.size w' w'') : Hc6 W b1 o1 v1 b2 o2 v2 b3 o3 v3 b4 o4 v4 b5 o5 v5 b6 o6 v6 w'' := by
  obtain ⟨h1, h2, h3, h4, h5, h6, hB, k1, k2, k3, k4, k5, k6⟩ := h
  have hs := hB.size
  exact ⟨(hb.cell (p := ⟨b1, o1, none⟩) (by show b1 < _; omega)).trans h1, (hb.cell (p := ⟨b2, o2, none⟩) (by show b2 < _; omega)).trans h2, (hb.cell (p := ⟨b3, o3, none⟩) (by show b3 < _; omega)).trans h3, (hb.cell (p := ⟨b4, o4, none⟩) (by show b4 < _; omega)).trans h4, (hb.cell (p := ⟨b5, o5, none⟩) (by show b5 < _; omega)).trans h5, (hb.cell (p := ⟨b6, o6, none⟩) (by show b6 < _; omega)).trans h6, hB.trans (hb.mono hs), k1, k2, k3, k4, k5, k6⟩
theorem Hc6.bel {W : World} {b1 o1 : Nat} {v1 : Value} {b2 o2 : Nat} {v2 : Value} {b3 o3 : Nat} {v3 : Value} {b4 o4 : Nat} {v4 : Value} {b5 o5 : Nat} {v5 : Value} {b6 o6 : Nat} {v6 : Value} {w' : World} (h : Hc6 W b1 o1 v1 b2 o2 v2 b3 o3 v3 b4 o4 v4 b5 o5 v5 b6 o6 v6 w') : Below W.heap.size W w' := h.2.2.2.2.2.2.1
def Hc7 (W : World) (b1 o1 : Nat) (v1 : Value) (b2 o2 : Nat) (v2 : Value) (b3 o3 : Nat) (v3 : Value) (b4 o4 : Nat) (v4 : Value) (b5 o5 : Nat) (v5 : Value) (b6 o6 : Nat) (v6 : Value) (b7 o7 : Nat) (v7 : Value) (w' : World) : Prop := w'.cell? ⟨b1, o1, none⟩ = some v1 ∧ w'.cell? ⟨b2, o2, none⟩ = some v2 ∧ w'.cell? ⟨b3, o3, none⟩ = some v3 ∧ w'.cell? ⟨b4, o4, none⟩ = some v4 ∧ w'.cell? ⟨b5, o5, none⟩ = some v5 ∧ w'.cell? ⟨b6, o6, none⟩ = some v6 ∧ w'.cell? ⟨b7, o7, none⟩ = some v7 ∧ Below W.heap.size W w' ∧ b1 < W.heap.size ∧ b2 < W.heap.size ∧ b3 < W.heap.size ∧ b4 < W.heap.size ∧ b5 < W.heap.size ∧ b6 < W.heap.size ∧ b7 < W.heap.size
theorem Hc7.step {W : World} {b1 o1 : Nat} {v1 : Value} {b2 o2 : Nat} {v2 : Value} {b3 o3 : Nat} {v3 : Value} {b4 o4 : Nat} {v4 : Value} {b5 o5 : Nat} {v5 : Value} {b6 o6 : Nat} {v6 : Value} {b7 o7 : Nat} {v7 : Value} {w' w'' : World} (h : Hc7 W b1 o1 v1 b2 o2 v2 b3 o3 v3 b4 o4 v4 b5 o5 v5 b6 o6 v6 b7 o7 v7 w') (hb : Below w'.heap.size w' w'') : Hc7 W b1 o1 v1 b2 o2 v2 b3 o3 v3 b4 o4 v4 b5 o5 v5 b6 o6 v6 b7 o7 v7 w'' := by
  obtain ⟨h1, h2, h3, h4, h5, h6, h7, hB, k1, k2, k3, k4, k5, k6, k7⟩ := h
  have hs := hB.size
  exact ⟨(hb.cell (p := ⟨b1, o1, none⟩) (by show b1 < _; omega)).trans h1, (hb.cell (p := ⟨b2, o2, none⟩) (by show b2 < _; omega)).trans h2, (hb.cell (p := ⟨b3, o3, none⟩) (by show b3 < _; omega)).trans h3, (hb.cell (p := ⟨b4, o4, none⟩) (by show b4 < _; omega)).trans h4, (hb.cell (p := ⟨b5, o5, none⟩) (by show b5 < _; omega)).trans h5, (hb.cell (p := ⟨b6, o6, none⟩) (by show b6 < _; omega)).trans h6, (hb.cell (p := ⟨b7, o7, none⟩) (by show b7 < _; omega)).trans h7, hB.trans (hb.mono hs), k1, k2, k3, k4, k5, k6, k7⟩
theorem Hc7.bel {W : World} {b1 o1 : Nat} {v1 : Value} {b2 o2 : Nat} {v2 : Value} {b3 o3 : Nat} {v3 : Value} {b4 o4 : Nat} {v4 : Value} {b5 o5 : Nat} {v5 : Value} {b6 o6 : Nat} {v6 : Value} {b7 o7 : Nat} {v7 : Value} {w' : World} (h : Hc7 W b1 o1 v1 b2 o2 v2 b3 o3 v3 b4 o4 v4 b5 o5 v5 b6 o6 v6 b7 o7 v7 w') : Below W.heap.size W w' := h.2.2.2.2.2.2.2.1
def Hc8 (W : World) (b1 o1 : Nat) (v1 : Value) (b2 o2 : Nat) (v2 : Value) (b3 o3 : Nat) (v3 : Value) (b4 o4 : Nat) (v4 : Value) (b5 o5 : Nat) (v5 : Value) (b6 o6 : Nat) (v6 : Value) (b7 o7 : Nat) (v7 : Value) (b8 o8 : Nat) (v8 : Value) (w' : World) : Prop := w'.cell? ⟨b1, o1, none⟩ = some v1 ∧ w'.cell? ⟨b2, o2, none⟩ = some v2 ∧ w'.cell? ⟨b3, o3, none⟩ = some v3 ∧ w'.cell? ⟨b4, o4, none⟩ = some v4 ∧ w'.cell? ⟨b5, o5, none⟩ = some v5 ∧ w'.cell? ⟨b6, o6, none⟩ = some v6 ∧ w'.cell? ⟨b7, o7, none⟩ = some v7 ∧ w'.cell? ⟨b8, o8, none⟩ = some v8 ∧ Below W.heap.size W w' ∧ b1 < W.heap.size ∧ b2 < W.heap.size ∧ b3 < W.heap.size ∧ b4 < W.heap.size ∧ b5 < W.heap.size ∧ b6 < W.heap.size ∧ b7 < W.heap.size ∧ b8 < W.heap.size
theorem Hc8.step {W : World} {b1 o1 : Nat} {v1 : Value} {b2 o2 : Nat} {v2 : Value} {b3 o3 : Nat} {v3 : Value} {b4 o4 : Nat} {v4 : Value} {b5 o5 : Nat} {v5 : Value} {b6 o6 : Nat} {v6 : Value} {b7 o7 : Nat} {v7 : Value} {b8 o8 : Nat} {v8 : Value} {w' w'' : World} (h : Hc8 W b1 o1 v1 b2 o2 v2 b3 o3 v3 b4 o4 v4 b5 o5 v5 b6 o6 v6 b7 o7 v7 b8 o8 v8 w') (hb : Below w'.heap.size w' w'') : Hc8 W b1 o1 v1 b2 o2 v2 b3 o3 v3 b4 o4 v4 b5 o5 v5 b6 o6 v6 b7 o7 v7 b8 o8 v8 w'' := by
  obtain ⟨h1, h2, h3, h4, h5, h6, h7, h8, hB, k1, k2, k3, k4, k5, k6, k7, k8⟩ := h
  have hs := hB.size
  exact ⟨(hb.cell (p := ⟨b1, o1, none⟩) (by show b1 < _; omega)).trans h1, (hb.cell (p := ⟨b2, o2, none⟩) (by show b2 < _; omega)).trans h2, (hb.cell (p := ⟨b3, o3, none⟩) (by show b3 < _; omega)).trans h3, (hb.cell (p := ⟨b4, o4, none⟩) (by show b4 < _; omega)).trans h4, (hb.cell (p := ⟨b5, o5, none⟩) (by show b5 < _; omega)).trans h5, (hb.cell (p := ⟨b6, o6, none⟩) (by show b6 < _; omega)).trans h6, (hb.cell (p := ⟨b7, o7, none⟩) (by show b7 < _; omega)).trans h7, (hb.cell (p := ⟨b8, o8, none⟩) (by show b8 < _; omega)).trans h8, hB.trans (hb.mono hs), k1, k2, k3, k4, k5, k6, k7, k8⟩
theorem Hc8.bel {W : World} {b1 o1 : Nat} {v1 : Value} {b2 o2 : Nat} {v2 : Value} {b3 o3 : Nat} {v3 : Value} {b4 o4 : Nat} {v4 : Value} {b5 o5 : Nat} {v5 : Value} {b6 o6 : Nat} {v6 : Value} {b7 o7 : Nat} {v7 : Value} {b8 o8 : Nat} {v8 : Value} {w' : World} (h : Hc8 W b1 o1 v1 b2 o2 v2 b3 o3 v3 b4 o4 v4 b5 o5 v5 b6 o6 v6 b7 o7 v7 b8 o8 v8 w') : Below W.heap.size W w' := h.2.2.2.2.2.2.2.2.1
def Hc12 (W : World) (b1 o1 : Nat) (v1 : Value) (b2 o2 : Nat) (v2 : Value) (b3 o3 : Nat) (v3 : Value) (b4 o4 : Nat) (v4 : Value) (b5 o5 : Nat) (v5 : Value) (b6 o6 : Nat) (v6 : Value) (b7 o7 : Nat) (v7 : Value) (b8 o8 : Nat) (v8 : Value) (b9 o9 : Nat) (v9 : Value) (b10 o10 : Nat) (v10 : Value) (b11 o11 : Nat) (v11 : Value) (b12 o12 : Nat) (v12 : Value) (w' : World) : Prop := w'.cell? ⟨b1, o1, none⟩ = some v1 ∧ w'.cell? ⟨b2, o2, none⟩ = some v2 ∧ w'.cell? ⟨b3, o3, none⟩ = some v3 ∧ w'.cell? ⟨b4, o4, none⟩ = some v4 ∧ w'.cell? ⟨b5, o5, none⟩ = some v5 ∧ w'.cell? ⟨b6, o6, none⟩ = some v6 ∧ w'.cell? ⟨b7, o7, none⟩ = some v7 ∧ w'.cell? ⟨b8, o8, none⟩ = some v8 ∧ w'.cell? ⟨b9, o9, none⟩ = some v9 ∧ w'.cell? ⟨b10, o10, none⟩ = some v10 ∧ w'.cell? ⟨b11, o11, none⟩ = some v11 ∧ w'.cell? ⟨b12, o12, none⟩ = some v12 ∧ Below W.heap.size W w' ∧ b1 < W.heap.size ∧ b2 < W.heap.size ∧ b3 < W.heap.size ∧ b4 < W.heap.size ∧ b5 < W.heap.size ∧ b6 < W.heap.size ∧ b7 < W.heap.size ∧ b8 < W.heap.size ∧ b9 < W.heap.size ∧ b10 < W.heap.size ∧ b11 < W.heap.size ∧ b12 < W.heap.size
theorem Hc12.step {W : World} {b1 o1 : Nat} {v1 : Value} {b2 o2 : Nat} {v2 : Value} {b3 o3 : Nat} {v3 : Value} {b4 o4 : Nat} {v4 : Value} {b5 o5 : Nat} {v5 : Value} {b6 o6 : Nat} {v6 : Value} {b7 o7 : Nat} {v7 : Value} {b8 o8 : Nat} {v8 : Value} {b9 o9 : Nat} {v9 : Value} {b10 o10 : Nat} {v10 : Value} {b11 o11 : Nat} {v11 : Value} {b12 o12 : Nat} {v12 : Value} {w' w'' : World} (h : Hc12 W b1 o1 v1 b2 o2 v2 b3 o3 v3 b4 o4 v4 b5 o5 v5 b6 o6 v6 b7 o7 v7 b8 o8 v8 b9 o9 v9 b10 o10 v10 b11 o11 v11 b12 o12 v12 w') (hb : Below w'.heap.size w' w'') : Hc12 W b1 o1 v1 b2 o2 v2 b3 o3 v3 b4 o4 v4 b5 o5 v5 b6 o6 v6 b7 o7 v7 b8 o8 v8 b9 o9 v9 b10 o10 v10 b11 o11 v11 b12 o12 v12 w'' := by
  obtain ⟨h1, h2, h3, h4, h5, h6, h7, h8, h9, h10, h11, h12, hB, k1, k2, k3, k4, k5, k6, k7, k8, k9, k10, k11, k12⟩ := h
  have hs := hB.size
  exact ⟨(hb.cell (p := ⟨b1, o1, none⟩) (by show b1 < _; omega)).trans h1, (hb.cell (p := ⟨b2, o2, none⟩) (by show b2 < _; omega)).trans h2, (hb.cell (p := ⟨b3, o3, none⟩) (by show b3 < _; omega)).trans h3, (hb.cell (p := ⟨b4, o4, none⟩) (by show b4 < _; omega)).trans h4, (hb.cell (p := ⟨b5, o5, none⟩) (by show b5 < _; omega)).trans h5, (hb.cell (p := ⟨b6, o6, none⟩) (by show b6 < _; omega)).trans h6, (hb.cell (p := ⟨b7, o7, none⟩) (by show b7 < _; omega)).trans h7, (hb.cell (p := ⟨b8, o8, none⟩) (by show b8 < _; omega)).trans h8, (hb.cell (p := ⟨b9, o9, none⟩) (by show b9 < _; omega)).trans h9, (hb.cell (p := ⟨b10, o10, none⟩) (by show b10 < _; omega)).trans h10, (hb.cell (p := ⟨b11, o11, none⟩) (by show b11 < _; omega)).trans h11, (hb.cell (p := ⟨b12, o12, none⟩) (by show b12 < _; omega)).trans h12, hB.trans (hb.mono hs), k1, k2, k3, k4, k5, k6, k7, k8, k9, k10, k11, k12⟩
theorem Hc12.bel {W : World} {b1 o1 : Nat} {v1 : Value} {b2 o2 : Nat} {v2 : Value} {b3 o3 : Nat} {v3 : Value} {b4 o4 : Nat} {v4 : Value} {b5 o5 : Nat} {v5 : Value} {b6 o6 : Nat} {v6 : Value} {b7 o7 : Nat} {v7 : Value} {b8 o8 : Nat} {v8 : Value} {b9 o9 : Nat} {v9 : Value} {b10 o10 : Nat} {v10 : Value} {b11 o11 : Nat} {v11 : Value} {b12 o12 : Nat} {v12 : Value} {w' : World} (h : Hc12 W b1 o1 v1 b2 o2 v2 b3 o3 v3 b4 o4 v4 b5 o5 v5 b6 o6 v6 b7 o7 v7 b8 o8 v8 b9 o9 v9 b10 o10 v10 b11 o11 v11 b12 o12 v12 w') : Below W.heap.size W w' := h.2.2.2.2.2.2.2.2.2.2.2.2.1

theorem Try.infoBool : (Try.prog.info? 4).map (fun i => (i.zero, i.size, i.bytes)) = some (some (.bool false), 1, 1) := by kernel_rfl
def bv (l : List Bool) : List Value := l.map .bool
theorem bv_len (l : List Bool) : (bv l).length = l.length := by simp [bv]
theorem bv_get {l : List Bool} {k : Nat} (hk : k < l.length) : (bv l)[k]? = some (.bool (l.getD k false)) := by
  rw [List.getElem?_eq_getElem (by rw [bv_len]; exact hk), getD_lt hk]; simp [bv]
theorem bv_set (l : List Bool) (k : Nat) (b : Bool) : (bv l).set k (.bool b) = bv (l.set k b) := by simp [bv, List.map_set]
theorem RowB.bools {w : World} {g : Nat} {t : TypeId} {l : List Bool} (h : RowB w g t (bv l)) (hl : l.length ≤ 4194304) {c : Nat} (hc : l.length ≤ c) : BoolS w w.heap.size (.slice (some ⟨g, 0, none⟩) l.length c) l := by
  refine ⟨_, c, rfl, hc, hl, by simp, fun hn => ⟨g, 0, rfl, h.lt, fun j u hu => ?_⟩⟩
  rw [Nat.zero_add, h.cell]
  exact hu
/-- make([]bool, n) -/
theorem make_bools (n : Nat) (hn : n ≤ 8388608) (W : World) : (Instr.makeSlice 88 (.int .i64 (n : Int)) (.int .i64 (n : Int))).run Try.prog W = .ok (.slice (some ⟨W.heap.size, 0, none⟩) n n) (W.alloc (.cells (bv (List.replicate n false)).toArray 4)) := by
  obtain ⟨i0, hi0, hz0, hz1, hz2⟩ := info_parts Try.infoBool
  have h := run_make (P := Try.prog) W 88 4 i0 _ Try.underlying88 hi0 hz0 .i64 .i64 (n : Int) (n : Int) (by omega) (by omega) (by rw [hz2]; omega) (by omega)
  simp only [Int.toNat_natCast] at h
  rw [h]
  have e : madeCells (Value.cells (.bool false)) (n * i0.size) = (bv (List.replicate n false)).toArray := by
    have := toList_madeCells_one (.bool false) (n * i0.size)
    rw [hz1, Nat.mul_one] at this ⊢
    apply Array.toList_inj.1
    show (madeCells #[.bool false] n).toList = _
    rw [this]
    simp [bv]
  rw [e]
theorem getD_setB {l : List Bool} {k i : Nat} {b : Bool} (hk : k < l.length) : (l.set k b).getD i false = if i = k then b else l.getD i false := by
  by_cases h : i = k
  · subst h; simp [List.getD, hk]
  · simp [List.getD, h, Ne.symm h]

end Go.Proofs.Ytidlifijgooceaa
