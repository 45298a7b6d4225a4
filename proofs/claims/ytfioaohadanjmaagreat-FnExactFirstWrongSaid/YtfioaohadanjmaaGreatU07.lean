import Derived.Test.YtfioaohadanjmaaGreatU06
import Derived.Test.YtfioaohadanjmaaGreatU01
import Derived.Deep.RegionLaw
import Derived.Deep.DeepCutAuto
import Derived.Deep.CutBlock
set_option linter.unusedVariables false

/- Words for regions: cells that a region holds on to. Made by wip/gen_Held.py. -/
namespace Go.Proofs.YtfioaohadanjmaaGreat
open Go.RowKit

def Hc1 (W : World) (b1 o1 : Nat) (v1 : Value) (w' : World) : Prop := w'.cell? ⟨b1, o1, none⟩ = some v1 ∧ Below W.heap.size W w' ∧ b1 < W.heap.size
theorem Hc1.step {W : World} {b1 o1 : Nat} {v1 : Value} {w' w'' : World} (h : Hc1 W b1 o1 v1 w') (hb : Below w'.heap.size w' w'') : Hc1 W b1 o1 v1 w'' := by
  obtain ⟨h1, hB, k1⟩ := h
  have hs := hB.size
  exact ⟨(hb.cell (p := ⟨b1, o1, none⟩) (by show b1 < _; omega)).trans h1, hB.trans (hb.mono hs), k1⟩
theorem Hc1.bel {W : World} {b1 o1 : Nat} {v1 : Value} {w' : World} (h : Hc1 W b1 o1 v1 w') : Below W.heap.size W w' := h.2.1
def Hc2 (W : World) (b1 o1 : Nat) (v1 : Value) (b2 o2 : Nat) (v2 : Value) (w' : World) : Prop := w'.cell? ⟨b1, o1, none⟩ = some v1 ∧ w'.cell? ⟨b2, o2, none⟩ = some v2 ∧ Below W.heap.size W w' ∧ b1 < W.heap.size ∧ b2 < W.heap.size
theorem Hc2.step {W : World} {b1 o1 : Nat} {v1 : Value} {b2 o2 : Nat} {v2 : Value} {w' w'' : World} (h : Hc2 W b1 o1 v1 b2 o2 v2 w') (hb : Below w'.heap.size w' w'') : Hc2 W b1 o1 v1 b2 o2 v2 w'' := by
  obtain ⟨h1, h2, hB, k1, k2⟩ := h
  have hs := hB.size
  exact ⟨(hb.cell (p := ⟨b1, o1, none⟩) (by show b1 < _; omega)).trans h1, (hb.cell (p := ⟨b2, o2, none⟩) (by show b2 < _; omega)).trans h2, hB.trans (hb.mono hs), k1, k2⟩
theorem Hc2.bel {W : World} {b1 o1 : Nat} {v1 : Value} {b2 o2 : Nat} {v2 : Value} {w' : World} (h : Hc2 W b1 o1 v1 b2 o2 v2 w') : Below W.heap.size W w' := h.2.2.1
def Hc6 (W : World) (b1 o1 : Nat) (v1 : Value) (b2 o2 : Nat) (v2 : Value) (b3 o3 : Nat) (v3 : Value) (b4 o4 : Nat) (v4 : Value) (b5 o5 : Nat) (v5 : Value) (b6 o6 : Nat) (v6 : Value) (w' : World) : Prop := w'.cell? ⟨b1, o1, none⟩ = some v1 ∧ w'.cell? ⟨b2, o2, none⟩ = some v2 ∧ w'.cell? ⟨b3, o3, none⟩ = some v3 ∧ w'.cell? ⟨b4, o4, none⟩ = some v4 ∧ w'.cell? ⟨b5, o5, none⟩ = some v5 ∧ w'.cell? ⟨b6, o6, none⟩ = some v6 ∧ Below W.heap.size W w' ∧ b1 < W.heap.size ∧ b2 < W.heap.size ∧ b3 < W.heap.size ∧ b4 < W.heap.size ∧ b5 < W.heap.size ∧ b6 < W.heap.size
theorem Hc6.step {W : World} {b1 o1 : Nat} {v1 : Value} {b2 o2 : Nat} {v2 : Value} {b3 o3 : Nat} {v3 : Value} {b4 o4 : Nat} {v4 : Value} {b5 o5 : Nat} {v5 : Value} {b6 o6 : Nat} {v6 : Value} {w' w'' : World} (h : Hc6 W b1 o1 v1 b2 o2 v2 b3 o3 v3 b4 o4 v4 b5 o5 v5 b6 o6 v6 w') (hb : Below w'.heap.size w' w'') : Hc6 W b1 o1 v1 b2 o2 v2 b3 o3 v3 b4 o4 v4 b5 o5 v5 b6 o6 v6 w'' := by
  obtain ⟨h1, h2, h3, h4, h5, h6, hB, k1, k2, k3, k4, k5, k6⟩ := h
  have hs := hB.size
  exact ⟨(hb.cell (p := ⟨b1, o1, none⟩) (by show b1 < _; omega)).trans h1, (hb.cell (p := ⟨b2, o2, none⟩) (by show b2 < _; omega)).trans h2, (hb.cell (p := ⟨b3, o3, none⟩) (by show b3 < _; omega)).trans h3, (hb.cell (p := ⟨b4, o4, none⟩) (by show b4 < _; omega)).trans h4, (hb.cell (p := ⟨b5, o5, none⟩) (by show b5 < _; omega)).trans h5, (hb.cell (p := ⟨b6, o6, none⟩) (by show b6 < _; omega)).trans h6, hB.trans (hb.mono hs), k1, k2, k3, k4, k5, k6⟩
theorem Hc6.bel {W : World} {b1 o1 : Nat} {v1 : Value} {b2 o2 : Nat} {v2 : Value} {b3 o3 : Nat} {v3 : Value} {b4 o4 : Nat} {v4 : Value} {b5 o5 : Nat} {v5 : Value} {b6 o6 : Nat} {v6 : Value} {w' : World} (h : Hc6 W b1 o1 v1 b2 o2 v2 b3 o3 v3 b4 o4 v4 b5 o5 v5 b6 o6 v6 w') : Below W.heap.size W w' := h.2.2.2.2.2.2.1
def Hc7 (W : World) (b1 o1 : Nat) (v1 : Value) (b2 o2 : Nat) (v2 : Value) (b3 o3 : Nat) (v3 : Value) (b4 o4 : Nat) (v4 : Value) (b5 o5 : Nat) (v5 : Value) (b6 o6 : Nat) (v6 : Value) (b7 o7 : Nat) (v7 : Value) (w' : World) : Prop := w'.cell? ⟨b1, o1, none⟩ = some v1 ∧ w'.cell? ⟨b2, o2, none⟩ = some v2 ∧ w'.cell? ⟨b3, o3, none⟩ = some v3 ∧ w'.cell? ⟨b4, o4, none⟩ = some v4 ∧ w'.cell? ⟨b5, o5, none⟩ = some v5 ∧ w'.cell? ⟨b6, o6, none⟩ = some v6 ∧ w'.cell? ⟨b7, o7, none⟩ = some v7 ∧ Below W.heap.size W w' ∧ b1 < W.heap.size ∧ b2 < W.heap.size ∧ b3 < W.heap.size ∧ b4 < W.heap.size ∧ b5 < W.heap.size ∧ b6 < W.heap.size ∧ b7 < W.heap.size
theorem Hc7.step {W : World} {b1 o1 : Nat} {v1 : Value} {b2 o2 : Nat} {v2 : Value} {b3 o3 : Nat} {v3 : Value} {b4 o4 : Nat} {v4 : Value} {b5 o5 : Nat} {v5 : Value} {b6 o6 : Nat} {v6 : Value} {b7 o7 : Nat} {v7 : Value} {w' w'' : World} (h : Hc7 W b1 o1 v1 b2 o2 v2 b3 o3 v3 b4 o4 v4 b5 o5 v5 b6 o6 v6 b7 o7 v7 w') (hb : Below w'.heap.size w' w'') : Hc7 W b1 o1 v1 b2 o2 v2 b3 o3 v3 b4 o4 v4 b5 o5 v5 b6 o6 v6 b7 o7 v7 w'' := by
  obtain ⟨h1, h2, h3, h4, h5, h6, h7, hB, k1, k2, k3, k4, k5, k6, k7⟩ := h
  have hs := hB.size
  exact ⟨(hb.cell (p := ⟨b1, o1, none⟩) (by show b1 < _; omega)).trans h1, (hb.cell (p := ⟨b2, o2, none⟩) (by show b2 < _; omega)).trans h2, (hb.cell (p := ⟨b3, o3, none⟩) (by show b3 < _; omega)).trans h3, (hb.cell (p := ⟨b4, o4, none⟩) (by show b4 < _; omega)).trans h4, (hb.cell (p := ⟨b5, o5, none⟩) (by show b5 < _; omega)).trans h5, (hb.cell (p := ⟨b6, o6, none⟩) (by show b6 < _; omega)).trans h6, (hb.cell (p := ⟨b7, o7, none⟩) (by show b7 < _; omega)).trans h7, hB.trans (hb.mono hs), k1, k2, k3, k4, k5, k6, k7⟩
theorem Hc7.bel {W : World} {b1 o1 : Nat} {v1 : Value} {b2 o2 : Nat} {v2 : Value} {b3 o3 : Nat} {v3 : Value} {b4 o4 : Nat} {v4 : Value} {b5 o5 : Nat} {v5 : Value} {b6 o6 : Nat} {v6 : Value} {b7 o7 : Nat} {v7 : Value} {w' : World} (h : Hc7 W b1 o1 v1 b2 o2 v2 b3 o3 v3 b4 o4 v4 b5 o5 v5 b6 o6 v6 b7 o7 v7 w') : Below W.heap.size W w' := h.2.2.2.2.2.2.2.1
def Hc8 (W : World) (b1 o1 : Nat) (v1 : Value) (b2 o2 : Nat) (v2 : Value) (b3 o3 : Nat) (v3 : Value) (b4 o4 : Nat) (v4 : Value) (b5 o5 : Nat) (v5 : Value) (b6 o6 : Nat) (v6 : Value) (b7 o7 : Nat) (v7 : Value) (b8 o8 : Nat) (v8 : Value) (w' : World) : Prop := w'.cell? ⟨b1, o1, none⟩ = some v1 ∧ w'.cell? ⟨b2, o2, none⟩ = some v2 ∧ w'.cell? ⟨b3, o3, none⟩ = some v3 ∧ w'.cell? ⟨b4, o4, none⟩ = some v4 ∧ w'.cell? ⟨b5, o5, none⟩ = some v5 ∧ w'.cell? ⟨b6, o6, none⟩ = some v6 ∧ w'.cell? ⟨b7, o7, none⟩ = some v7 ∧ w'.cell? ⟨b8, o8, none⟩ = some v8 ∧ Below W.heap.size W w' ∧ b1 < W.heap.size ∧ b2 < W.heap.size ∧ b3 < W.heap.size ∧ b4 < W.heap.size ∧ b5 < W.heap.size ∧ b6 < W.heap.size ∧ b7 < W.heap.size ∧ b8 < W.heap.size
theorem Hc8.step {W : World} {b1 o1 : Nat} {v1 : Value} {b2 o2 : Nat} {v2 : Value} {b3 o3 : Nat} {v3 : Value} {b4 o4 : Nat} {v4 : Value} {b5 o5 : Nat} {v5 : Value} {b6 o6 : Nat} {v6 : Value} {b7 o7 : Nat} {v7 : Value} {b8 o8 : Nat} {v8 : Value} {w' w'' : World} (h : Hc8 W b1 o1 v1 b2 o2 v2 b3 o3 v3 b4 o4 v4 b5 o5 v5 b6 o6 v6 b7 o7 v7 b8 o8 v8 w') (hb : Below w'.heap.size w' w'') : Hc8 W b1 o1 v1 b2 o2 v2 b3 o3 v3 b4 o4 v4 b5 o5 v5 b6 o6 v6 b7 o7 v7 b8 o8 v8 w'' := by
  obtain ⟨h1, h2, h3, h4, h5, h6, h7, h8, hB, k1, k2, k3, k4, k5, k6, k7, k8⟩ := h
  have hs := hB.size
  exact ⟨(hb.cell (p := ⟨b1, o1, none⟩) (by show b1 < _; omega)).trans h1, (hb.cell (p := ⟨b2, o2, none⟩) (by show b2 < _; omega)).trans h2, (hb.cell (p := ⟨b3, o3, none⟩) (by show b3 < _; omega)).trans h3, (hb.cell (p := ⟨b4, o4, none⟩) (by show b4 < _; omega)).trans h4, (hb.cell (p := ⟨b5, o5, none⟩) (by show b5 < _; omega)).trans h5, (hb.cell (p := ⟨b6, o6, none⟩) (by show b6 < _; omega)).trans h6, (hb.cell (p := ⟨b7, o7, none⟩) (by show b7 < _; omega)).trans h7, (hb.cell (p := ⟨b8, o8, none⟩) (by show b8 < _; omega)).trans h8, hB.trans (hb.mono hs), k1, k2, k3, k4, k5, k6, k7, k8⟩
theorem Hc8.bel {W : World} {b1 o1 : Nat} {v1 : Value} {b2 o2 : Nat} {v2 : Value} {b3 o3 : Nat} {v3 : Value} {b4 o4 : Nat} {v4 : Value} {b5 o5 : Nat} {v5 : Value} {b6 o6 : Nat} {v6 : Value} {b7 o7 : Nat} {v7 : Value} {b8 o8 : Nat} {v8 : Value} {w' : World} (h : Hc8 W b1 o1 v1 b2 o2 v2 b3 o3 v3 b4 o4 v4 b5 o5 v5 b6 o6 v6 b7 o7 v7 b8 o8 v8 w') : Below W.heap.size W w' := h.2.2.2.2.2.2.2.2.1
def Hc12 (W : World) (b1 o1 : Nat) (v1 : Value) (b2 o2 : Nat) (v2 : Value) (b3 o3 : Nat) (v3 : Value) (b4 o4 : Nat) (v4 : Value) (b5 o5 : Nat) (v5 : Value) (b6 o6 : Nat) (v6 : Value) (b7 o7 : Nat) (v7 : Value) (b8 o8 : Nat) (v8 : Value) (b9 o9 : Nat) (v9 : Value) (b10 o10 : Nat) (v10 : Value) (b11 o11 : Nat) (v11 : Value) (b12 o12 : Nat) (v12 : Value) (w' : World) : Prop := w'.cell? ⟨b1, o1, none⟩ = some v1 ∧ w'.cell? ⟨b2, o2, none⟩ = some v2 ∧ w'.cell? ⟨b3, o3, none⟩ = some v3 ∧ w'.cell? ⟨b4, o4, none⟩ = some v4 ∧ w'.cell? ⟨b5, o5, none⟩ = some v5 ∧ w'.cell? ⟨b6, o6, none⟩ = some v6 ∧ w'.cell? ⟨b7, o7, none⟩ = some v7 ∧ w'.cell? ⟨b8, o8, none⟩ = some v8 ∧ w'.cell? ⟨b9, o9, none⟩ = some v9 ∧ w'.cell? ⟨b10, o10, none⟩ = some v10 ∧ w'.cell? ⟨b11, o11, none⟩ = some v11 ∧ w'.cell? ⟨b12, o12, none⟩ = some v12 ∧ Below W.heap.size W w' ∧ b1 < W.heap.size ∧ b2 < W.heap.size ∧ b3 < W.heap.size ∧ b4 < W.heap.size ∧ b5 < W.heap.size ∧ b6 < W.heap.size ∧ b7 < W.heap.size ∧ b8 < W.heap.size ∧ b9 < W.heap.size ∧ b10 < W.heap.size ∧ b11 < W.heap.size ∧ b12 < W.heap.size
theorem Hc12.step {W : World} {b1 o1 : Nat} {v1 : Value} {b2 o2 : Nat} {v2 : Value} {b3 o3 : Nat} {v3 : Value} {b4 o4 : Nat} {v4 : Value} {b5 o5 : Nat} {v5 : Value} {b6 o6 : Nat} {v6 : Value} {b7 o7 : Nat} {v7 : Value} {b8 o8 : Nat} {v8 : Value} {b9 o9 : Nat} {v9 : Value} {b10 o10 : Nat} {v10 : Value} {b11 o11 : Nat} {v11 : Value} {b12 o12 : Nat} {v12 : Value} {w' w'' : World} (h : Hc12 W b1 o1 v1 b2 o2 v2 b3 o3 v3 b4 o4 v4 b5 o5 v5 b6 o6 v6 b7 o7 v7 b8 o8 v8 b9 o9 v9 b10 o10 v10 b11 o11 v11 b12 o12 v12 w') (hb : Below w'.heap.size w' w'') : Hc12 W b1 o1 v1 b2 o2 v2 b3 o3 v3 b4 o4 v4 b5 o5 v5 b6 o6 v6 b7 o7 v7 b8 o8 v8 b9 o9 v9 b10 o10 v10 b11 o11 v11 b12 o12 v12 w'' := by
  obtain ⟨h1, h2, h3, h4, h5, h6, h7, h8, h9, h10, h11, h12, hB, k1, k2, k3, k4, k5, k6, k7, k8, k9, k10, k11, k12⟩ := h
  have hs := hB.size
  exact ⟨(hb.cell (p := ⟨b1, o1, none⟩) (by show b1 < _; omega)).trans h1, (hb.cell (p := ⟨b2, o2, none⟩) (by show b2 < _; omega)).trans h2, (hb.cell (p := ⟨b3, o3, none⟩) (by show b3 < _; omega)).trans h3, (hb.cell (p := ⟨b4, o4, none⟩) (by show b4 < _; omega)).trans h4, (hb.cell (p := ⟨b5, o5, none⟩) (by show b5 < _; omega)).trans h5, (hb.cell (p := ⟨b6, o6, none⟩) (by show b6 < _; omega)).trans h6, (hb.cell (p := ⟨b7, o7, none⟩) (by show b7 < _; omega)).trans h7, (hb.cell (p := ⟨b8, o8, none⟩) (by show b8 < _; omega)).trans h8, (hb.cell (p := ⟨b9, o9, none⟩) (by show b9 < _; omega)).trans h9, (hb.cell (p := ⟨b10, o10, none⟩) (by show b10 < _; omega)).trans h10, (hb.cell (p := ⟨b11, o11, none⟩) (by show b11 < _; omega)).trans h11, (hb.cell (p := ⟨b12, o12, none⟩) (by show b12 < _; omega)).trans h12, hB.trans (hb.mono hs), k1, k2, k3, k4, k5, k6, k7, k8, k9, k10, k11, k12⟩
theorem Hc12.bel {W : World} {b1 o1 : Nat} {v1 : Value} {b2 o2 : Nat} {v2 : Value} {b3 o3 : Nat} {v3 : Value} {b4 o4 : Nat} {v4 : Value} {b5 o5 : Nat} {v5 : Value} {b6 o6 : Nat} {v6 : Value} {b7 o7 : Nat} {v7 : Value} {b8 o8 : Nat} {v8 : Value} {b9 o9 : Nat} {v9 : Value} {b10 o10 : Nat} {v10 : Value} {b11 o11 : Nat} {v11 : Value} {b12 o12 : Nat} {v12 : Value} {w' : World} (h : Hc12 W b1 o1 v1 b2 o2 v2 b3 o3 v3 b4 o4 v4 b5 o5 v5 b6 o6 v6 b7 o7 v7 b8 o8 v8 b9 o9 v9 b10 o10 v10 b11 o11 v11 b12 o12 v12 w') : Below W.heap.size W w' := h.2.2.2.2.2.2.2.2.2.2.2.2.1

def bv (l : List Bool) : List Value := l.map .bool
theorem bv_len (l : List Bool) : (bv l).length = l.length := by simp [bv]
theorem bv_get {l : List Bool} {k : Nat} (hk : k < l.length) : (bv l)[k]? = some (.bool (l.getD k false)) := by
  rw [List.getElem?_eq_getElem (by rw [bv_len]; exact hk), getD_lt hk]; simp [bv]
theorem bv_set (l : List Bool) (k : Nat) (b : Bool) : (bv l).set k (.bool b) = bv (l.set k b) := by simp [bv, List.map_set]
theorem RowB.bools {w : World} {g : Nat} {t : TypeId} {l : List Bool} (h : RowB w g t (bv l)) (hl : l.length ≤ 4194304) {c : Nat} (hc : l.length ≤ c) : BoolS w w.heap.size (.slice (some ⟨g, 0, none⟩) l.length c) l := by
  refine ⟨_, c, rfl, hc, hl, by simp, fun hn => ⟨g, 0, rfl, h.lt, fun j u hu => ?_⟩⟩
  rw [Nat.zero_add, h.cell]
  exact hu
theorem getD_setB {l : List Bool} {k i : Nat} {b : Bool} (hk : k < l.length) : (l.set k b).getD i false = if i = k then b else l.getD i false := by
  by_cases h : i = k
  · subst h; simp [List.getD, hk]
  · simp [List.getD, h, Ne.symm h]

end Go.Proofs.YtfioaohadanjmaaGreat

namespace Go.Proofs.YtfioaohadanjmaaGreat
open Go.RowKit

end Go.Proofs.YtfioaohadanjmaaGreat

/- The source of drawn numbers: its block, pick, num, l17Open. -/
namespace Go.Proofs.YtfioaohadanjmaaGreat
open Go.RowKit

/-- n bytes lie at A, below block B -/
def Byt (w : World) (B : Nat) (A : Option Addr) (n : Nat) : Prop :=
  0 < n → ∃ b off, A = some ⟨b, off, none⟩ ∧ b < B ∧ ∀ j, j < n → ∃ u : Nat, u < 256 ∧ w.cell? ⟨b, off + j, none⟩ = some (.int .u8 (u : Nat))
theorem Byt.keep {w w' : World} {B n : Nat} {A : Option Addr} (h : Byt w B A n) (hk : ∀ b o, b < B → w'.cell? ⟨b, o, none⟩ = w.cell? ⟨b, o, none⟩) : Byt w' B A n := fun hn => by
  obtain ⟨b, off, e, hb, hc⟩ := h hn
  refine ⟨b, off, e, hb, fun j hj => ?_⟩
  obtain ⟨u, hu, hcu⟩ := hc j hj
  exact ⟨u, hu, (hk _ _ hb).trans hcu⟩
theorem Byt.cut {w : World} {B n m : Nat} {A : Option Addr} (h : Byt w B A n) (hm : m ≤ n) : Byt w B A m := fun hn => by
  obtain ⟨b, off, e, hb, hc⟩ := h (by omega)
  exact ⟨b, off, e, hb, fun j hj => hc j (by omega)⟩
theorem Byt.more {w : World} {B B' n : Nat} {A : Option Addr} (h : Byt w B A n) (hB : B ≤ B') : Byt w B' A n := fun hn => by
  obtain ⟨b, off, e, hb, hc⟩ := h hn
  exact ⟨b, off, e, by omega, hc⟩

end Go.Proofs.YtfioaohadanjmaaGreat

/- num, l17Open. -/
namespace Go.Proofs.YtfioaohadanjmaaGreat
open Go.RowKit

end Go.Proofs.YtfioaohadanjmaaGreat

/- Words for statements that a call makes: an owned row of statements, each with statements in other blocks. -/
namespace Go.Proofs.YtfioaohadanjmaaGreat
open Go.RowKit

/-- The slice value v reads as the statements l, at every depth, all in blocks of P. -/
inductive StX (w : World) (P : Nat → Prop) : Value → List St → Prop where
  | mk (A : Option Addr) (c : Nat) (l : List St) (tv ev : Nat → Value) (hc : l.length ≤ c)
      (hr : 0 < l.length → ∃ b off, A = some ⟨b, off, none⟩ ∧ P b ∧ b < w.heap.size ∧ ∀ i (h : i < l.length),
        w.cell? ⟨b, off + i * 6, none⟩ = some (.int .i64 l[i].op) ∧ w.cell? ⟨b, off + i * 6 + 1, none⟩ = some (.int .i64 l[i].x) ∧
        w.cell? ⟨b, off + i * 6 + 2, none⟩ = some (.int .i64 l[i].y) ∧ w.cell? ⟨b, off + i * 6 + 3, none⟩ = some (.int .i64 l[i].n) ∧
        w.cell? ⟨b, off + i * 6 + 4, none⟩ = some (tv i) ∧ w.cell? ⟨b, off + i * 6 + 5, none⟩ = some (ev i))
      (ht : ∀ i (h : i < l.length), StX w P (tv i) l[i].th) (he : ∀ i (h : i < l.length), StX w P (ev i) l[i].el) : StX w P (.slice A l.length c) l
theorem StX.nil (w : World) (P : Nat → Prop) : StX w P (.slice none 0 0) [] :=
  .mk none 0 [] (fun _ => .slice none 0 0) (fun _ => .slice none 0 0) (Nat.le_refl _) (fun h => absurd h (by simp)) (fun i h => absurd h (by simp)) (fun i h => absurd h (by simp))
theorem StX.frame {w w' : World} {P P' : Nat → Prop} {v : Value} {l : List St} (h : StX w P v l) (hs : w.heap.size ≤ w'.heap.size) (hk : ∀ b, P b → b < w.heap.size → P' b ∧ w'.heap[b]? = w.heap[b]?) : StX w' P' v l := by
  induction h with
  | mk A c l tv ev hc hr ht he iht ihe =>
    refine .mk A c l tv ev hc (fun hn => ?_) iht ihe
    obtain ⟨b, off, e, hb, hlt, hcell⟩ := hr hn
    obtain ⟨h1, h2⟩ := hk b hb hlt
    have hc' : ∀ o, w'.cell? ⟨b, o, none⟩ = w.cell? ⟨b, o, none⟩ := fun o => World.cell?_of_block (w := w) (a := ⟨b, o, none⟩) h2
    exact ⟨b, off, e, h1, by omega, fun i hi => by simp only [hc']; exact hcell i hi⟩
theorem StX.toS {w : World} {P : Nat → Prop} {v : Value} {l : List St} (h : StX w P v l) : StS w w.heap.size v l := by
  induction h with
  | mk A c l tv ev hc hr ht he iht ihe =>
    refine .mk A c l tv ev hc (fun hn => ?_) iht ihe
    obtain ⟨b, off, e, hb, hlt, hcell⟩ := hr hn
    exact ⟨b, off, e, hlt, hcell⟩
theorem StX.one {w : World} {P : Nat → Prop} {v : Value} {l : List St} (h : StX w P v l) : v.oneCell' = true := by
  cases h; rfl
theorem StX.slice {w : World} {P : Nat → Prop} {v : Value} {l : List St} (h : StX w P v l) : ∃ A c, v = .slice A l.length c ∧ l.length ≤ c := by
  cases h with
  | mk A c l tv ev hc hr ht he => exact ⟨A, c, rfl, hc⟩

/-- a statement with its values in memory -/
structure Se where
  op : Int
  x : Int
  y : Int
  n : Int
  tv : Value
  ev : Value
  th : List St
  el : List St
def Se.st (e : Se) : St := .mk e.op e.x e.y e.n e.th e.el
def seCells : List Se → List Value
  | [] => []
  | e :: r => .int .i64 e.op :: .int .i64 e.x :: .int .i64 e.y :: .int .i64 e.n :: e.tv :: e.ev :: seCells r
theorem seCells_append (a b : List Se) : seCells (a ++ b) = seCells a ++ seCells b := by
  induction a with
  | nil => rfl
  | cons e r ih => simp [seCells, ih]
theorem seCells_len (a : List Se) : (seCells a).length = a.length * 6 := by
  induction a with
  | nil => rfl
  | cons e r ih => simp [seCells, ih]; omega
theorem seCells_at {es : List Se} {i : Nat} (hi : i < es.length) :
    (seCells es)[i * 6]? = some (.int .i64 es[i].op) ∧ (seCells es)[i * 6 + 1]? = some (.int .i64 es[i].x) ∧ (seCells es)[i * 6 + 2]? = some (.int .i64 es[i].y) ∧
    (seCells es)[i * 6 + 3]? = some (.int .i64 es[i].n) ∧ (seCells es)[i * 6 + 4]? = some es[i].tv ∧ (seCells es)[i * 6 + 5]? = some es[i].ev := by
  induction es generalizing i with
  | nil => simp at hi
  | cons e r ih =>
    cases i with
    | zero => simp [seCells]
    | succ i =>
      have := ih (i := i) (by simpa using hi)
      have e1 : ∀ j, (i + 1) * 6 + j = i * 6 + j + 6 := fun j => by omega
      have e0 : (i + 1) * 6 = i * 6 + 6 := by omega
      simp only [seCells, e0, List.getElem?_cons_succ, List.getElem_cons_succ]
      exact this
/-- an owned row of statements -/
def OSt (w : World) (base : Nat) (v : Value) (l : List St) : Prop :=
  ∃ es : List Se, l = es.map Se.st ∧ w.ownsRow base 100 6 v es.length (seCells es) ∧
    ∀ e ∈ es, StX w (fun b => base ≤ b ∧ v.ownBlock ≠ some b) e.tv e.th ∧ StX w (fun b => base ≤ b ∧ v.ownBlock ≠ some b) e.ev e.el
theorem OSt.nil (w : World) (base : Nat) : OSt w base (.slice none 0 0) [] := ⟨[], rfl, World.ownsRow_nil _ _ _ _, fun e h => by simp at h⟩
theorem OSt.slice {w : World} {base : Nat} {v : Value} {l : List St} (h : OSt w base v l) : ∃ A c, v = .slice A l.length c ∧ l.length ≤ c := by
  obtain ⟨es, rfl, h2, h3⟩ := h
  rcases h2.2 with ⟨rfl, h0⟩ | ⟨g, cap, cur, rfl, _, _, hc, _⟩
  · exact ⟨none, 0, by simp [h0], by simp [h0]⟩
  · exact ⟨some ⟨g, 0, none⟩, cap, by simp, by simpa using hc⟩
theorem OSt.toX {w : World} {base : Nat} {v : Value} {l : List St} (h : OSt w base v l) : StX w (fun b => base ≤ b) v l := by
  have hsl := h.slice
  obtain ⟨es, rfl, h2, h3⟩ := h
  obtain ⟨A, c, rfl, hc⟩ := hsl
  refine .mk A c _ (fun i => (es.getD i ⟨0, 0, 0, 0, .slice none 0 0, .slice none 0 0, [], []⟩).tv) (fun i => (es.getD i ⟨0, 0, 0, 0, .slice none 0 0, .slice none 0 0, [], []⟩).ev) hc (fun hn => ?_) (fun i hi => ?_) (fun i hi => ?_)
  · obtain ⟨g, cap, e, hb, hlt⟩ := h2.form (by simpa using hn)
    injection e with e1 e2 e3
    subst e1 e3
    refine ⟨g, 0, rfl, hb, hlt, fun i hi => ?_⟩
    have hi' : i < es.length := by simpa using hi
    obtain ⟨a0, a1, a2, a3, a4, a5⟩ := seCells_at hi'
    have h2' : w.ownsRow base 100 6 (.slice (some ⟨g, 0, none⟩) es.length c) es.length (seCells es) := by simpa using h2
    have hat : ∀ j, j < 6 → w.cell? ⟨g, 0 + i * 6 + j, none⟩ = (seCells es)[i * 6 + j]? := fun j hj => by rw [Nat.zero_add]; exact h2'.cellAt _ (by omega)
    have hat0 : w.cell? ⟨g, 0 + i * 6, none⟩ = (seCells es)[i * 6]? := hat 0 (by omega)
    simp only [hat0, hat 1 (by omega), hat 2 (by omega), hat 3 (by omega), hat 4 (by omega), hat 5 (by omega), a0, a1, a2, a3, a4, a5, List.getElem_map, getD_lt hi']
    simp [Se.st, St.op, St.x, St.y, St.n]
  · have hi' : i < es.length := by simpa using hi
    have := (h3 es[i] (List.getElem_mem hi')).1
    rw [List.getElem_map, getD_lt hi']
    exact this.frame (Nat.le_refl _) fun b hb _ => ⟨hb.1, rfl⟩
  · have hi' : i < es.length := by simpa using hi
    have := (h3 es[i] (List.getElem_mem hi')).2
    rw [List.getElem_map, getD_lt hi']
    exact this.frame (Nat.le_refl _) fun b hb _ => ⟨hb.1, rfl⟩
theorem OSt.grown {w w' : World} {base g : Nat} {v : Value} {l : List St} (h : OSt w base v l) (hg : w.grownBy w' (some g)) (hlt : g < base) : OSt w' base v l := by
  obtain ⟨es, rfl, h2, h3⟩ := h
  refine ⟨es, rfl, h2.kept hg ?_, fun e he => ?_⟩
  · rcases h2.2 with ⟨rfl, _⟩ | ⟨g', cap, cur, rfl, hb, _⟩
    · exact .inl rfl
    · exact .inr (by simp [Value.ownBlock]; omega)
  · obtain ⟨k1, k2⟩ := h3 e he
    have hk : ∀ b, (base ≤ b ∧ v.ownBlock ≠ some b) → b < w.heap.size → (base ≤ b ∧ v.ownBlock ≠ some b) ∧ w'.heap[b]? = w.heap[b]? := fun b hb hl => ⟨hb, hg.block b hl (fun e => by injection e with e; omega)⟩
    exact ⟨k1.frame hg.size hk, k2.frame hg.size hk⟩
theorem OSt.below {w w' : World} {base : Nat} {v : Value} {l : List St} (h : OSt w base v l) (hb : Below w.heap.size w w') : OSt w' base v l := by
  obtain ⟨es, rfl, h2, h3⟩ := h
  have hg : w.grownBy w' none := grown_bel hb (Nat.le_refl _) none
  refine ⟨es, rfl, h2.kept hg ?_, fun e he => ?_⟩
  · cases v.ownBlock <;> simp
  · obtain ⟨k1, k2⟩ := h3 e he
    have hk : ∀ b, (base ≤ b ∧ v.ownBlock ≠ some b) → b < w.heap.size → (base ≤ b ∧ v.ownBlock ≠ some b) ∧ w'.heap[b]? = w.heap[b]? := fun b hb' hl => ⟨hb', hb.block b hl⟩
    exact ⟨k1.frame hb.size hk, k2.frame hb.size hk⟩
theorem OSt.alloc {w : World} {base : Nat} {v : Value} {l : List St} (h : OSt w base v l) (o : Obj) : OSt (w.alloc o) base v l := h.below (bel_a w o)
/-- a literal row of statements -/
theorem OSt.lit (w : World) (base : Nat) (es : List Se) (hb : base ≤ w.heap.size) (hl : es.length ≤ 10) (hx : ∀ e ∈ es, StX w (fun b => base ≤ b) e.tv e.th ∧ StX w (fun b => base ≤ b) e.ev e.el) :
    OSt (w.alloc (.cells (seCells es).toArray 100)) base (.slice (some ⟨w.heap.size, 0, none⟩) es.length es.length) (es.map Se.st) := by
  refine ⟨es, rfl, ?_, fun e he => ?_⟩
  · have := World.ownsRow_lit (base := base) (e := 100) (size := 6) w (seCells es).toArray es.length hb (by simp only [maxLen]; omega) (by simp [seCells_len])
    simpa using this
  · obtain ⟨k1, k2⟩ := hx e he
    have hk : ∀ b, base ≤ b → b < w.heap.size → (base ≤ b ∧ (Value.slice (some ⟨w.heap.size, 0, none⟩) es.length es.length).ownBlock ≠ some b) ∧ (w.alloc (.cells (seCells es).toArray 100)).heap[b]? = w.heap[b]? := fun b hb' hl => ⟨⟨hb', by simp [Value.ownBlock]; omega⟩, (bel_a w _).block b hl⟩
    exact ⟨k1.frame (bel_a w _).size hk, k2.frame (bel_a w _).size hk⟩

theorem Tryz.infoSt : (Tryz.prog.info? 100).map (fun i => (i.zero, i.size, i.bytes)) = some (some (.agg #[.int .i64 0, .int .i64 0, .int .i64 0, .int .i64 0, .slice none 0 0, .slice none 0 0]), 6, 80) := by kernel_rfl

end Go.Proofs.YtfioaohadanjmaaGreat

/- Plain: what flows into variables along points (cells, numbers, setters, loans), as a least set. No program in sight. -/
namespace Go.Proofs.YtfioaohadanjmaaGreat

/-- the sum of f below n -/
def sumN : Nat → (Nat → Nat) → Nat
  | 0, _ => 0
  | n + 1, f => sumN n f + f n
theorem sumN_le {n : Nat} {f g : Nat → Nat} (h : ∀ i, i < n → f i ≤ g i) : sumN n f ≤ sumN n g := by
  induction n with
  | zero => exact Nat.le_refl _
  | succ n ih => have := ih fun i hi => h i (by omega); have := h n (by omega); simp only [sumN]; omega
theorem sumN_lt {n k : Nat} {f g : Nat → Nat} (h : ∀ i, i < n → f i ≤ g i) (hk : k < n) (hlt : f k < g k) : sumN n f < sumN n g := by
  induction n with
  | zero => omega
  | succ n ih =>
    have h1 := h n (by omega)
    have h2 := sumN_le (n := n) (f := f) (g := g) fun i hi => h i (by omega)
    simp only [sumN]
    by_cases e : k = n
    · subst e; omega
    · have := ih (fun i hi => h i (by omega)) (by omega); omega
/-- what v has behind point i (p), where b says what there is before it -/
def aftB (ts : List Int) (G : Nat → Pt → Nat → Bool) (C : Pt → Bool) (i : Nat) (p : Pt) (b : Nat → Nat → Bool) (v e : Nat) : Bool :=
  if setsP p.op p.x = (v : Int) then G i p e || (C p && b p.y.toNat e) else b v e && !(useP ts p.op p.x p.y (v : Int) == 2)
/-- what v has before a point -/
inductive Fl (ts : List Int) (pts : List Pt) (G : Nat → Pt → Nat → Bool) (C : Pt → Bool) : Nat → Nat → Nat → Prop
  | gen {i k v e : Nat} {p : Pt} (hp : pts[i]? = some p) (hk : k ∈ p.next) (hv : v < ts.length) (hs : setsP p.op p.x = (v : Int)) (h : G i p e = true) : Fl ts pts G C k v e
  | copy {i k v e : Nat} {p : Pt} (hp : pts[i]? = some p) (hk : k ∈ p.next) (hv : v < ts.length) (hs : setsP p.op p.x = (v : Int)) (hc : C p = true) (hi : Fl ts pts G C i p.y.toNat e) : Fl ts pts G C k v e
  | keep {i k v e : Nat} {p : Pt} (hp : pts[i]? = some p) (hk : k ∈ p.next) (hv : v < ts.length) (hs : setsP p.op p.x ≠ (v : Int)) (ht : useP ts p.op p.x p.y (v : Int) ≠ 2) (hi : Fl ts pts G C i v e) : Fl ts pts G C k v e
theorem Fl.lt {ts : List Int} {pts : List Pt} {G : Nat → Pt → Nat → Bool} {C : Pt → Bool} {i v e : Nat} (h : Fl ts pts G C i v e) : v < ts.length := by
  cases h <;> assumption
theorem Fl.size {ts : List Int} {pts : List Pt} {G : Nat → Pt → Nat → Bool} {C : Pt → Bool} {s i v e : Nat} (h : Fl ts pts G C i v e) (hg : ∀ i p e, pts[i]? = some p → G i p e = true → e < s) : e < s := by
  induction h with
  | gen hp _ _ _ h => exact hg _ _ _ hp h
  | copy _ _ _ _ _ _ ih => exact ih
  | keep _ _ _ _ _ _ ih => exact ih
/-- one step goes on being right -/
theorem Fl.aft {ts : List Int} {pts : List Pt} {G : Nat → Pt → Nat → Bool} {C : Pt → Bool} {b : Nat → Nat → Bool} {i k v e : Nat} {p : Pt} (hb : ∀ v e, b v e = true → Fl ts pts G C i v e) (hp : pts[i]? = some p) (hk : k ∈ p.next) (hv : v < ts.length) (h : aftB ts G C i p b v e = true) : Fl ts pts G C k v e := by
  unfold aftB at h
  split at h
  · rename_i hs
    rw [Bool.or_eq_true, Bool.and_eq_true] at h
    rcases h with h | ⟨hc, h⟩
    · exact .gen hp hk hv hs h
    · exact .copy hp hk hv hs hc (hb _ _ h)
  · rename_i hs
    rw [Bool.and_eq_true] at h
    exact .keep hp hk hv hs (by simpa using h.2) (hb _ _ h.1)
/-- where nothing is missing any more, all is there -/
theorem Fl.done {ts : List Int} {pts : List Pt} {G : Nat → Pt → Nat → Bool} {C : Pt → Bool} {st : Nat → Nat → Nat → Bool} {s : Nat} (hg : ∀ i p e, pts[i]? = some p → G i p e = true → e < s)
    (hc : ∀ i p k v e, pts[i]? = some p → k ∈ p.next → v < ts.length → e < s → aftB ts G C i p (st i) v e = true → st k v e = true) {i v e : Nat} (h : Fl ts pts G C i v e) : st i v e = true := by
  have hs := h.size hg
  induction h with
  | gen hp hk hv hs' h => exact hc _ _ _ _ _ hp hk hv hs (by unfold aftB; rw [if_pos hs', h]; rfl)
  | copy hp hk hv hs' hc' _ ih => exact hc _ _ _ _ _ hp hk hv hs (by unfold aftB; rw [if_pos hs', hc', ih hs]; simp)
  | keep hp hk hv hs' ht _ ih => exact hc _ _ _ _ _ hp hk hv hs (by unfold aftB; rw [if_neg hs', ih hs]; simpa using ht)

def Gcell (i : Nat) (p : Pt) (e : Nat) : Bool := p.op == 2 && e == i
def Ccell (p : Pt) : Bool := p.op == 3 || p.op == 4 || p.op == 5
def Gset (i : Nat) (_ : Pt) (e : Nat) : Bool := e == i
def Cset (_ : Pt) : Bool := false
def Gloan (i : Nat) (p : Pt) (e : Nat) : Bool := (p.op == 4 || p.op == 5) && e == i
def Cloan (ts : List Int) (p : Pt) : Bool := p.op == 3 || ((p.op == 4 || p.op == 5) && isRefP (typeOfP ts p.y))

end Go.Proofs.YtfioaohadanjmaaGreat

/- Plain: runs with choices. No program in sight. -/
namespace Go.Proofs.YtfioaohadanjmaaGreat

/-- the point that comes next, the choices that are left -/
def stepP (p : Pt) (cs : List Int) : Nat := if p.next.length = 2 then (if (cs.headD 1) % 2 = 0 then p.next.getD 0 0 else p.next.getD 1 0) else p.next.getD 0 0
def restP (p : Pt) (cs : List Int) : List Int := if p.next.length = 2 then cs.drop 1 else cs
def ptD (pts : List Pt) (k : Nat) : Pt := pts.getD k ⟨11, 0, 0, 0, []⟩
theorem ptD_get {pts : List Pt} {k : Nat} (hk : k < pts.length) : ptD pts k = pts[k] := getD_lt hk
/-- a run from a point on, with at most m points before the last one -/
def runF (pts : List Pt) : Nat → Nat → List Int → List Nat × Bool
  | 0, a, _ => if (ptD pts a).op = 11 then ([a], true) else ([], false)
  | m + 1, a, cs => if (ptD pts a).op = 11 then ([a], true) else (a :: (runF pts m (stepP (ptD pts a) cs) (restP (ptD pts a) cs)).1, (runF pts m (stepP (ptD pts a) cs) (restP (ptD pts a) cs)).2)
theorem runF_end {pts : List Pt} {m a : Nat} {cs : List Int} (h : (ptD pts a).op = 11) : runF pts m a cs = ([a], true) := by
  cases m <;> simp only [runF, h, if_true]
theorem runF_cut {pts : List Pt} {a : Nat} {cs : List Int} (h : (ptD pts a).op ≠ 11) : runF pts 0 a cs = ([], false) := by
  simp only [runF, if_neg h]
theorem runF_go {pts : List Pt} {m a : Nat} {cs : List Int} (h : (ptD pts a).op ≠ 11) : runF pts (m + 1) a cs = (a :: (runF pts m (stepP (ptD pts a) cs) (restP (ptD pts a) cs)).1, (runF pts m (stepP (ptD pts a) cs) (restP (ptD pts a) cs)).2) := by
  simp only [runF, if_neg h]
theorem runF_len (pts : List Pt) (m a : Nat) (cs : List Int) : (runF pts m a cs).1.length ≤ m + 1 := by
  induction m generalizing a cs with
  | zero => simp only [runF]; split <;> simp
  | succ m ih =>
    simp only [runF]
    split
    · simp
    · have := ih (stepP (ptD pts a) cs) (restP (ptD pts a) cs); simp only [List.length_cons]; omega
theorem stepP_mem {p : Pt} (cs : List Int) (h1 : 1 ≤ p.next.length) : stepP p cs ∈ p.next := by
  unfold stepP
  repeat' split
  all_goals (rw [getD_lt (by omega)]; exact List.getElem_mem _)
/-- a run goes from point to next point -/
structure IsRun (pts : List Pt) (a : Nat) (r : List Nat) : Prop where
  inn : ∀ i, i < r.length → r.getD i 0 < pts.length
  edge : ∀ i, i + 1 < r.length → ∃ p, pts[r.getD i 0]? = some p ∧ r.getD (i + 1) 0 ∈ p.next
  first : 0 < r.length → r.getD 0 0 = a
theorem runF_run {pts : List Pt} (hn : ∀ p ∈ pts, ∀ k ∈ p.next, k < pts.length) (h1 : ∀ p ∈ pts, p.op ≠ 11 → 1 ≤ p.next.length) (m a : Nat) (cs : List Int) (ha : a < pts.length) : IsRun pts a (runF pts m a cs).1 := by
  have one : IsRun pts a [a] := ⟨fun i hi => by have : i = 0 := by simpa using hi
                                                subst this; exact ha, fun i hi => by simp at hi, fun _ => rfl⟩
  induction m generalizing a cs with
  | zero =>
    simp only [runF]
    split
    · exact one
    · exact ⟨fun i hi => by simp at hi, fun i hi => by simp at hi, fun h => by simp at h⟩
  | succ m ih =>
    simp only [runF]
    split
    · exact one
    · rename_i hop
      rw [ptD_get ha] at hop ⊢
      have hmem := stepP_mem cs (h1 _ (List.getElem_mem ha) hop)
      have hlt := hn _ (List.getElem_mem ha) _ hmem
      have hr := ih (stepP pts[a] cs) (restP pts[a] cs) hlt
        ⟨fun i hi => by have : i = 0 := by simpa using hi
                        subst this; exact hlt, fun i hi => by simp at hi, fun _ => rfl⟩
      generalize (runF pts m (stepP pts[a] cs) (restP pts[a] cs)).1 = r at *
      refine ⟨fun i hi => ?_, fun i hi => ?_, fun _ => rfl⟩
      · cases i with
        | zero => exact ha
        | succ i => exact hr.inn i (by simpa using hi)
      · cases i with
        | zero =>
          refine ⟨pts[a], List.getElem?_eq_getElem ha, ?_⟩
          show r.getD 0 0 ∈ _
          rw [hr.first (by simpa using hi)]
          exact hmem
        | succ i => exact hr.edge i (by simpa using hi)
theorem ptsP_next1 (l : List St) : ∀ p ∈ ptsP l, p.op ≠ 11 → 1 ≤ p.next.length := by
  intro p hp ho
  simp only [ptsP, List.mem_append, List.mem_singleton] at hp
  rcases hp with hp | rfl
  · exact (ptsL_next 0 l p hp).2.1
  · exact absurd rfl ho

end Go.Proofs.YtfioaohadanjmaaGreat

/- Plain: which points lead to which. No program in sight. -/
namespace Go.Proofs.YtfioaohadanjmaaGreat

/-- a leads to b in one step or more -/
inductive Lds (pts : List Pt) : Nat → Nat → Prop
  | one {a b : Nat} {p : Pt} (hp : pts[a]? = some p) (hb : b ∈ p.next) : Lds pts a b
  | more {a k b : Nat} {p : Pt} (hp : pts[a]? = some p) (hk : k ∈ p.next) (h : Lds pts k b) : Lds pts a b
theorem Lds.trans {pts : List Pt} {a b c : Nat} (h : Lds pts a b) (k : Lds pts b c) : Lds pts a c := by
  induction h with
  | one hp hb => exact .more hp hb k
  | more hp hk _ ih => exact .more hp hk (ih k)
theorem Lds.snoc {pts : List Pt} {a b c : Nat} {p : Pt} (h : Lds pts a b) (hp : pts[b]? = some p) (hc : c ∈ p.next) : Lds pts a c := h.trans (.one hp hc)
theorem getD_setT {α : Type} {l : List α} {k i : Nat} {x d : α} (hk : k < l.length) : (l.set k x).getD i d = if i = k then x else l.getD i d := by
  by_cases h : i = k
  · subst h; simp [List.getD, hk]
  · simp [List.getD, h, Ne.symm h]
/-- the state of the search for what a leads to: marks, and the points that are still to be looked at -/
structure FrI (pts : List Pt) (a : Nat) (fl : List Bool) (q : List Nat) : Prop where
  len : fl.length = pts.length
  snd : ∀ k, fl.getD k false = true → Lds pts a k
  qok : ∀ k ∈ q, Lds pts a k ∧ k < pts.length
  st : ∀ p, pts[a]? = some p → ∀ k ∈ p.next, fl.getD k false = true ∨ k ∈ q
  cl : ∀ k p, fl.getD k false = true → pts[k]? = some p → ∀ j ∈ p.next, fl.getD j false = true ∨ j ∈ q
theorem FrI.init {pts : List Pt} {a : Nat} {p : Pt} (hp : pts[a]? = some p) (hn : ∀ p ∈ pts, ∀ k ∈ p.next, k < pts.length) : FrI pts a (List.replicate pts.length false) p.next := by
  have h0 : ∀ k, (List.replicate pts.length false).getD k false = false := fun k => by
    by_cases hk : k < pts.length
    · rw [getD_lt (by simpa using hk)]; simp
    · rw [getD_ge (by simpa using hk)]
  refine ⟨by simp, fun k hk => ?_, fun k hk => ⟨.one hp hk, hn _ (List.mem_of_getElem? hp) _ hk⟩, fun p' hp' k hk => ?_, fun k p' hk => ?_⟩
  · rw [h0] at hk; cases hk
  · rw [hp] at hp'; injection hp' with e; subst e; exact .inr hk
  · rw [h0] at hk; cases hk
theorem FrI.skip {pts : List Pt} {a k : Nat} {fl : List Bool} {r : List Nat} (h : FrI pts a fl (k :: r)) (hk : fl.getD k false = true) : FrI pts a fl r := by
  refine ⟨h.len, h.snd, fun j hj => h.qok j (List.mem_cons_of_mem _ hj), fun p hp j hj => ?_, fun i p hi hp j hj => ?_⟩
  · rcases h.st p hp j hj with h1 | h1
    · exact .inl h1
    · rcases List.mem_cons.1 h1 with rfl | h2
      · exact .inl hk
      · exact .inr h2
  · rcases h.cl i p hi hp j hj with h1 | h1
    · exact .inl h1
    · rcases List.mem_cons.1 h1 with rfl | h2
      · exact .inl hk
      · exact .inr h2
theorem FrI.done {pts : List Pt} {a : Nat} {fl : List Bool} (h : FrI pts a fl []) (k : Nat) : fl.getD k false = true ↔ Lds pts a k := by
  have cl : ∀ i k, fl.getD i false = true → Lds pts i k → fl.getD k false = true := fun i k hi hl => by
    induction hl with
    | one hp hb => exact (h.cl _ _ hi hp _ hb).resolve_right (by simp)
    | more hp hk _ ih => exact ih ((h.cl _ _ hi hp _ hk).resolve_right (by simp))
  refine ⟨h.snd k, fun hl => ?_⟩
  cases hl with
  | one hp hb => exact (h.st _ hp _ hb).resolve_right (by simp)
  | more hp hk hl => exact cl _ _ ((h.st _ hp _ hk).resolve_right (by simp)) hl
end Go.Proofs.YtfioaohadanjmaaGreat

/- Plain: the state of a search whose sets are numbers of 64 bits, six for each point. No program in sight. -/
namespace Go.Proofs.YtfioaohadanjmaaGreat

def top64 : Nat := 2 ^ 64
def stF (fs : List Nat) (i v e : Nat) : Bool := decide (v < 6) && (fs.getD (i * 6 + v) 0).testBit e
structure TrI (ts : List Int) (pts : List Pt) (G : Nat → Pt → Nat → Bool) (C : Pt → Bool) (fs : List Nat) : Prop where
  len : fs.length = pts.length * 6
  small : ∀ m ∈ fs, m < top64
  snd : ∀ i v e, stF fs i v e = true → Fl ts pts G C i v e
theorem TrI.init (ts : List Int) (pts : List Pt) (G : Nat → Pt → Nat → Bool) (C : Pt → Bool) : TrI ts pts G C (List.replicate (pts.length * 6) 0) := by
  refine ⟨by simp, fun m hm => ?_, fun i v e h => ?_⟩
  · rw [(List.mem_replicate.1 hm).2]; exact Nat.two_pow_pos _
  · have h0 : (List.replicate (pts.length * 6) 0).getD (i * 6 + v) 0 = 0 := by
      by_cases hk : i * 6 + v < pts.length * 6
      · rw [getD_lt (by simpa using hk)]; simp
      · rw [getD_ge (by simpa using hk)]
    unfold stF at h
    rw [h0] at h; simp at h
theorem getD_small {fs : List Nat} (h : ∀ m ∈ fs, m < top64) (k : Nat) : fs.getD k 0 < top64 := by
  by_cases hk : k < fs.length
  · rw [getD_lt hk]; exact h _ (List.getElem_mem hk)
  · rw [getD_ge (by omega)]; exact Nat.two_pow_pos _
/-- the sets behind a point -/
def AfL (ts : List Int) (G : Nat → Pt → Nat → Bool) (C : Pt → Bool) (i : Nat) (p : Pt) (b : Nat → Nat → Bool) (af : List Nat) : Prop := af.length = 6 ∧ ∀ v, v < 6 → af.getD v 0 < top64 ∧ ∀ e, (af.getD v 0).testBit e = aftB ts G C i p b v e
theorem AfL.snd {ts : List Int} {pts : List Pt} {G : Nat → Pt → Nat → Bool} {C : Pt → Bool} {fs af : List Nat} {i k v e : Nat} {p : Pt} (h : TrI ts pts G C fs) (ha : AfL ts G C i p (stF fs i) af) (hp : pts[i]? = some p) (hk : k ∈ p.next) (hx : setsP p.op p.x < ts.length) (hv : v < 6) (he : (af.getD v 0).testBit e = true) : Fl ts pts G C k v e := by
  rw [(ha.2 v hv).2 e] at he
  by_cases hvl : v < ts.length
  · exact Fl.aft (h.snd i) hp hk hvl he
  · unfold aftB at he
    split at he
    · rename_i hs; omega
    · rw [Bool.and_eq_true] at he
      exact absurd (h.snd i v e he.1).lt hvl
theorem afl_rest {ts : List Int} {pts : List Pt} {G : Nat → Pt → Nat → Bool} {C : Pt → Bool} {ns : List Nat} {k v tk : Nat} {p : Pt} (h : TrI ts pts G C ns) (hv : v < 6) (ht : tk.testBit v = (decide (v < ts.length) && (useP ts p.op p.x p.y (v : Nat) == 2))) (e : Nat) :
    (if tk.testBit v = true then 0 else ns.getD (k * 6 + v) 0).testBit e = (stF ns k v e && !(useP ts p.op p.x p.y (v : Nat) == 2)) := by
  have h1 : (ns.getD (k * 6 + v) 0).testBit e = stF ns k v e := by unfold stF; rw [decide_eq_true hv, Bool.true_and]
  by_cases hvl : v < ts.length
  · rw [decide_eq_true hvl, Bool.true_and] at ht
    rw [ht]
    cases hu : (useP ts p.op p.x p.y (v : Nat) == 2)
    · simp [← h1]
    · simp
  · rw [decide_eq_false hvl, Bool.false_and] at ht
    rw [ht]
    have h2 : stF ns k v e = false := by
      cases hh : stF ns k v e
      · rfl
      · exact absurd (h.snd k v e hh).lt hvl
    rw [if_neg (by simp), h1, h2]; rfl
theorem afl_lt {ts : List Int} {pts : List Pt} {G : Nat → Pt → Nat → Bool} {C : Pt → Bool} {ns : List Nat} {k v tk : Nat} (h : TrI ts pts G C ns) : (if tk.testBit v = true then 0 else ns.getD (k * 6 + v) 0) < top64 := by
  split
  · exact Nat.two_pow_pos _
  · exact getD_small h.small _
theorem AfL.pos {ts : List Int} {pts : List Pt} {G : Nat → Pt → Nat → Bool} {C : Pt → Bool} {ns af fv : List Nat} {k tk x s : Nat} {p : Pt} (h : TrI ts pts G C ns) (hl : af.length = 6) (haf : ∀ u, u < 6 → af.getD u 0 = if tk.testBit u = true then 0 else ns.getD (k * 6 + u) 0)
    (ht : ∀ u : Nat, u < 6 → tk.testBit u = (decide (u < ts.length) && (useP ts p.op p.x p.y (u : Nat) == 2))) (hs : setsP p.op p.x = (x : Int)) (hx : x < 6) (hs64 : s < top64) (hfl : fv.length = 6) (hfv : ∀ u, u < 6 → fv.getD u 0 = ns.getD (k * 6 + u) 0)
    (hsb : ∀ e, s.testBit e = (G k p e || (C p && (fv.getD p.y.toNat 0).testBit e))) : AfL ts G C k p (stF ns k) (af.set x s) := by
  refine ⟨by simp [hl], fun v hv => ?_⟩
  rw [getD_setT (by omega)]
  by_cases e1 : v = x
  · rw [if_pos e1]
    refine ⟨hs64, fun e => ?_⟩
    unfold aftB
    rw [if_pos (by omega), hsb e]
    unfold stF
    by_cases hy : p.y.toNat < 6
    · rw [decide_eq_true hy, Bool.true_and, hfv _ hy]
    · rw [decide_eq_false hy, Bool.false_and, getD_ge (by omega)]; simp
  · rw [if_neg e1]
    refine ⟨?_, fun e => ?_⟩
    · rw [haf v hv]; exact afl_lt h
    · rw [haf v hv, afl_rest h hv (ht v hv)]
      unfold aftB
      rw [if_neg (by omega)]
/-- along all edges of point i nothing is missing -/
def ClT (ts : List Int) (pts : List Pt) (G : Nat → Pt → Nat → Bool) (C : Pt → Bool) (fs : List Nat) (i : Nat) : Prop :=
  ∀ p, pts[i]? = some p → ∀ k ∈ p.next, ∀ v, v < 6 → ∀ e, aftB ts G C i p (stF fs i) v e = true → stF fs k v e = true
theorem TrI.done {ts : List Int} {pts : List Pt} {G : Nat → Pt → Nat → Bool} {C : Pt → Bool} {fs : List Nat} (h : TrI ts pts G C fs) (h6 : ts.length ≤ 6) (hg : ∀ i p e, pts[i]? = some p → G i p e = true → e < 64) (hc : ∀ i, i < pts.length → ClT ts pts G C fs i) (i v e : Nat) : stF fs i v e = true ↔ Fl ts pts G C i v e := by
  refine ⟨h.snd i v e, fun hf => Fl.done (s := 64) (st := stF fs) hg (fun i p k v e hp hk hv _ ha => ?_) hf⟩
  refine hc i ?_ p hp k hk v (by omega) e ha
  rcases Nat.lt_or_ge i pts.length with h | h
  · exact h
  · rw [List.getElem?_eq_none h] at hp; cases hp

end Go.Proofs.YtfioaohadanjmaaGreat

/- Words on uint64; impl.loanBits. -/
namespace Go.Proofs.YtfioaohadanjmaaGreat
open Go.RowKit

/-- ints that the call owns -/
def IntsOwn (w : World) (l : List Int) (e : Ending) (w' : World) : Prop := ∃ v, e = .returned v ∧ OInts w' w.heap.size v l ∧ Below w.heap.size w w'

end Go.Proofs.YtfioaohadanjmaaGreat

/- Words for the exact laws: arguments of any size, the counting of sizes, trees of statements that a call made, marks. -/
namespace Go.Proofs.YtfioaohadanjmaaGreat
open Go.RowKit

theorem maxLen_eq : maxLen = 9223372036854775807 := rfl
/-- The slice value v reads as the ints l, however long. -/
def AnI (w : World) (B : Nat) (v : Value) (l : List Int) : Prop :=
  ∃ A c, v = .slice A l.length c ∧ l.length ≤ c ∧ l.length ≤ maxLen ∧ Rd w B 1 A l.length (l.map (.int .i64))
theorem AnI.low {w w' : World} {B B' : Nat} {v : Value} {l : List Int} (h : AnI w B v l) (hb : Below B' w w') (hB : B ≤ B') : AnI w' B v l := by
  obtain ⟨A, c, e, h1, h2, h3⟩ := h
  exact ⟨A, c, e, h1, h2, h3.low hb hB⟩
theorem AnI.toS {w : World} {B : Nat} {v : Value} {l : List Int} (h : AnI w B v l) (hl : l.length ≤ 4194304) : IntS w B v l := by
  obtain ⟨A, c, e, h1, h2, h3⟩ := h
  exact ⟨A, c, e, h1, hl, h3⟩

/-- a struct stored into a row -/
theorem RowB.putL {g : Nat} {t : TypeId} : ∀ (vs : List Value) (o : Nat) (w : World) (L : List Value), RowB w g t L → o + vs.length ≤ L.length → ∃ L', RowB (w.setCells g o vs) g t L' ∧ L'.length = L.length ∧ ∀ j, L'[j]? = if o ≤ j ∧ j < o + vs.length then vs[j - o]? else L[j]?
  | [], o, w, L, h, _ => ⟨L, h, rfl, fun j => by rw [if_neg (by simp only [List.length_nil]; omega)]⟩
  | v :: vs, o, w, L, h, hl => by
    simp only [List.length_cons] at hl
    obtain ⟨L', h1, h2, h3⟩ := RowB.putL vs (o + 1) (w.setCell ⟨g, o, none⟩ v) (L.set o v) (h.set_ o v) (by simp; omega)
    refine ⟨L', h1, by rw [h2]; simp, fun j => ?_⟩
    rw [h3]
    simp only [List.length_cons]
    by_cases e : j = o
    · subst e
      rw [if_neg (by omega), if_pos ⟨by omega, by omega⟩, List.getElem?_set_self (by omega), Nat.sub_self]; rfl
    · by_cases e2 : o + 1 ≤ j ∧ j < o + 1 + vs.length
      · rw [if_pos e2, if_pos ⟨by omega, by omega⟩, show j - o = (j - (o + 1)) + 1 by omega]; rfl
      · rw [if_neg e2, if_neg (by omega), List.getElem?_set_ne (Ne.symm e)]
theorem below_putL {B g : Nat} (hg : B ≤ g) : ∀ (vs : List Value) (o : Nat) (w : World), Below B w (w.setCells g o vs)
  | [], _, w => Below.refl B w
  | v :: r, o, w => ((Below.refl B w).setCell (p := ⟨g, o, none⟩) hg v).trans (below_putL hg r (o + 1) _)
theorem heap_putL {g b : Nat} (hb : b ≠ g) : ∀ (vs : List Value) (o : Nat) (w : World), (w.setCells g o vs).heap[b]? = w.heap[b]?
  | [], _, w => rfl
  | v :: r, o, w => (heap_putL hb r (o + 1) _).trans (heap_setCell_other w ⟨g, o, none⟩ b v hb)
theorem size_putL {g : Nat} : ∀ (vs : List Value) (o : Nat) (w : World), (w.setCells g o vs).heap.size = w.heap.size
  | [], _, w => rfl
  | v :: r, o, w => (size_putL r (o + 1) _).trans (by simp)
/-- .. the whole row -/
theorem RowB.putAll {w : World} {g : Nat} {t : TypeId} {L : List Value} (vs : List Value) (h : RowB w g t L) (hl : vs.length = L.length) : RowB (w.setCells g 0 vs) g t vs := by
  obtain ⟨L', h1, h2, h3⟩ := RowB.putL vs 0 w L h (by omega)
  have e : L' = vs := by
    apply List.ext_getElem?
    intro j
    rw [h3]
    by_cases hj : j < vs.length
    · rw [if_pos ⟨by omega, by omega⟩, Nat.sub_zero]
    · rw [if_neg (by omega), List.getElem?_eq_none (by omega), List.getElem?_eq_none (by omega)]
  rwa [e] at h1

/-- All lists in l are no longer than a slice can be. -/
inductive Lens : List St → Prop where
  | mk (l : List St) (hl : l.length ≤ maxLen) (ht : ∀ i (h : i < l.length), Lens l[i].th) (he : ∀ i (h : i < l.length), Lens l[i].el) : Lens l
theorem Lens.le {l : List St} (h : Lens l) : l.length ≤ maxLen := by cases h; assumption
theorem Lens.th {l : List St} (h : Lens l) {i : Nat} (hi : i < l.length) : Lens l[i].th := by
  cases h with
  | mk l hl ht he => exact ht i hi
theorem Lens.el {l : List St} (h : Lens l) {i : Nat} (hi : i < l.length) : Lens l[i].el := by
  cases h with
  | mk l hl ht he => exact he i hi

/-- what is left of a size, or -1 -/
def leftP (left : Int) (n : Nat) : Int := if left < (n : Int) then -1 else left - n
theorem leftP_nn {left : Int} {n : Nat} (h : 0 ≤ leftP left n) : (n : Int) ≤ left ∧ leftP left n = left - n := by
  unfold leftP at *
  split at h <;> rename_i h1
  · omega
  · rw [if_neg h1]; omega
theorem leftP_neg {left : Int} {n : Nat} (h : leftP left n < 0) : leftP left n = -1 ∧ left < (n : Int) := by
  unfold leftP at *
  split at h <;> rename_i h1
  · rw [if_pos h1]; exact ⟨rfl, h1⟩
  · omega
theorem leftP_add {left : Int} {a b : Nat} : leftP left (a + b) = if left < (a : Int) then -1 else leftP (left - a) b := by
  unfold leftP
  by_cases h1 : left < (a : Int)
  · rw [if_pos h1, if_pos (by omega)]
  · rw [if_neg h1]
    by_cases h2 : left < ((a + b : Nat) : Int)
    · rw [if_pos h2, if_pos (by omega)]
    · rw [if_neg h2, if_neg (by omega)]
      omega

/-- a tree of statements in rows of a call's own, each at its block's begin, the blocks meet P; ints: their numbers are those of l -/
inductive TrS (w : World) (P : Nat → Prop) (ints : Bool) : Value → List St → Prop where
  | mk (b c : Nat) (cs : List Value) (l : List St) (tv ev : Nat → Value) (hlo : P b) (hb : RowB w b 100 cs) (hcs : l.length * 6 ≤ cs.length) (hc : l.length ≤ c)
      (hi : ints = true → ∀ i (h : i < l.length), cs[i * 6]? = some (.int .i64 l[i].op) ∧ cs[i * 6 + 1]? = some (.int .i64 l[i].x) ∧ cs[i * 6 + 2]? = some (.int .i64 l[i].y) ∧ cs[i * 6 + 3]? = some (.int .i64 l[i].n))
      (hv : ∀ i (h : i < l.length), cs[i * 6 + 4]? = some (tv i) ∧ cs[i * 6 + 5]? = some (ev i))
      (ht : ∀ i (h : i < l.length), TrS w P ints (tv i) l[i].th) (he : ∀ i (h : i < l.length), TrS w P ints (ev i) l[i].el) : TrS w P ints (.slice (some ⟨b, 0, none⟩) l.length c) l

theorem TrS.slice {w : World} {P : Nat → Prop} {t : Bool} {v : Value} {l : List St} (h : TrS w P t v l) : ∃ b c, v = .slice (some ⟨b, 0, none⟩) l.length c ∧ P b ∧ b < w.heap.size ∧ l.length ≤ c := by
  cases h with
  | mk b c cs l tv ev hlo hb hcs hc hi hv ht he => exact ⟨b, c, rfl, hlo, hb.lt, hc⟩
theorem TrS.toS {w : World} {P : Nat → Prop} {v : Value} {l : List St} (h : TrS w P true v l) : StS w w.heap.size v l := by
  generalize ht0 : true = t at h
  induction h with
  | mk b c cs l tv ev hlo hb hcs hc hi hv ht he iht ihe =>
    refine .mk _ c l tv ev hc (fun hn => ⟨b, 0, rfl, hb.lt, fun i h => ?_⟩) iht ihe
    obtain ⟨h0, h1, h2, h3⟩ := hi ht0.symm i h
    obtain ⟨h4, h5⟩ := hv i h
    simp only [hb.cell, Nat.zero_add]
    exact ⟨h0, h1, h2, h3, h4, h5⟩
theorem TrS.frame {w w' : World} {P P' : Nat → Prop} {t : Bool} {v : Value} {l : List St} (h : TrS w P t v l) (hk : ∀ b, P b → b < w.heap.size → P' b ∧ w'.heap[b]? = w.heap[b]?) : TrS w' P' t v l := by
  induction h with
  | mk b c cs l tv ev hl hb hcs hc hi hv ht he iht ihe =>
    have k := hk b hl hb.lt
    exact .mk b c cs l tv ev k.1 (k.2.trans hb) hcs hc hi hv iht ihe
theorem TrS.bel {w w' : World} {P : Nat → Prop} {t : Bool} {v : Value} {l : List St} (h : TrS w P t v l) (hb : Below w.heap.size w w') : TrS w' P t v l :=
  h.frame fun b hp hb' => ⟨hp, hb.block b hb'⟩
theorem TrS.get {w : World} {P : Nat → Prop} {t : Bool} {b c n : Nat} {l : List St} (h : TrS w P t (.slice (some ⟨b, 0, none⟩) n c) l) {k : Nat} (hk : k < l.length) :
    ∃ cs tv ev, P b ∧ RowB w b 100 cs ∧ l.length * 6 ≤ cs.length ∧ cs[k * 6 + 4]? = some tv ∧ cs[k * 6 + 5]? = some ev ∧ TrS w P t tv l[k].th ∧ TrS w P t ev l[k].el := by
  cases h with
  | mk b c cs l tv ev hlo hb hcs hc hi hv ht he => exact ⟨cs, tv k, ev k, hlo, hb, hcs, (hv k hk).1, (hv k hk).2, ht k hk, he k hk⟩

/-- w' is w but for blocks that meet P; there, rows of statements keep their slices -/
structure Mk (P : Nat → Prop) (w w' : World) : Prop where
  os : w'.os = w.os
  tape : w'.tape = w.tape
  output : w'.output = w.output
  size : w'.heap.size = w.heap.size
  oth : ∀ b : Nat, ¬ P b → w'.heap[b]? = w.heap[b]?
  row : ∀ b cs, RowB w b 100 cs → ∃ cs', RowB w' b 100 cs' ∧ cs'.length = cs.length ∧ ∀ i, (i % 6 = 4 ∨ i % 6 = 5) → cs'[i]? = cs[i]?
theorem Mk.refl (P : Nat → Prop) (w : World) : Mk P w w := ⟨rfl, rfl, rfl, rfl, fun _ _ => rfl, fun b cs h => ⟨cs, h, rfl, fun _ _ => rfl⟩⟩
theorem Mk.trans {P : Nat → Prop} {a b c : World} (h : Mk P a b) (k : Mk P b c) : Mk P a c :=
  ⟨k.os.trans h.os, k.tape.trans h.tape, k.output.trans h.output, k.size.trans h.size, fun i hi => (k.oth i hi).trans (h.oth i hi), fun g cs hg => by
    obtain ⟨cs1, h1, l1, e1⟩ := h.row g cs hg
    obtain ⟨cs2, h2, l2, e2⟩ := k.row g cs1 h1
    exact ⟨cs2, h2, l2.trans l1, fun i hi => (e2 i hi).trans (e1 i hi)⟩⟩
theorem Mk.bel {P : Nat → Prop} {w w' : World} (h : Mk P w w') {lo : Nat} (hl : ∀ b, P b → lo ≤ b) : Below lo w w' :=
  ⟨h.os, h.tape, h.output, Nat.le_of_eq h.size.symm, fun b hb => h.oth b fun hp => by have := hl b hp; omega⟩
theorem Mk.set_ {P : Nat → Prop} {w : World} {g : Nat} (i : Nat) (u : Value) (hg : P g) (hi : i % 6 < 4) : Mk P w (w.setCell ⟨g, i, none⟩ u) := by
  refine ⟨rfl, rfl, rfl, by simp, fun b hb => heap_setCell_other w ⟨g, i, none⟩ b u (fun e => hb (by rw [e]; exact hg)), fun b cs hb => ?_⟩
  by_cases hbg : b = g
  · subst hbg
    refine ⟨_, hb.set_ i u, by simp, fun j hj => ?_⟩
    rw [List.getElem?_set_ne (by omega)]
  · exact ⟨cs, hb.other hbg i u, rfl, fun _ _ => rfl⟩
/-- a store into a row of another kind -/
theorem Mk.set_other {P : Nat → Prop} {w : World} {g : Nat} {t : TypeId} {xs : List Value} (hr : RowB w g t xs) (ht : t ≠ 100) (i : Nat) (u : Value) (hg : P g) : Mk P w (w.setCell ⟨g, i, none⟩ u) := by
  refine ⟨rfl, rfl, rfl, by simp, fun b hb => heap_setCell_other w ⟨g, i, none⟩ b u (fun e => hb (by rw [e]; exact hg)), fun b cs hb => ?_⟩
  have hbg : b ≠ g := by
    rintro rfl
    unfold RowB at hr hb
    rw [hr] at hb
    injection hb with hb
    injection hb with _ hT
    exact ht hT
  exact ⟨cs, hb.other hbg i u, rfl, fun _ _ => rfl⟩
theorem TrS.marked {w w' : World} {P Q : Nat → Prop} {t : Bool} {v : Value} {l : List St} (h : TrS w P t v l) (hm : Mk Q w w') : TrS w' P false v l := by
  induction h with
  | mk b c cs l tv ev hlo hb hcs hc hi hv ht he iht ihe =>
    obtain ⟨cs', hb', hl', he'⟩ := hm.row b cs hb
    refine .mk b c cs' l tv ev hlo hb' (by omega) hc (fun h => by cases h) (fun i hi => ?_) iht ihe
    rw [he' _ (by omega), he' _ (by omega)]
    exact hv i hi

end Go.Proofs.YtfioaohadanjmaaGreat
