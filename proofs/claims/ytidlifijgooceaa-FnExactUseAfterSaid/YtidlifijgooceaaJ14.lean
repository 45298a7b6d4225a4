import Derived.Test.YtidlifijgooceaaJ13
import Derived.Deep.RegionHeld3
set_option linter.unusedVariables false

/- l1Text. -/
namespace Go.Proofs.Ytidlifijgooceaa
open Go.RowKit

def Hd2 (W : World) (b1 o1 : Nat) (v1 : Value) (b2 o2 : Nat) (v2 : Value) (w' : World) : Prop := w'.cell? ⟨b1, o1, none⟩ = some v1 ∧ w'.cell? ⟨b2, o2, none⟩ = some v2 ∧ Below W.heap.size W w' ∧ b1 < W.heap.size ∧ b2 < W.heap.size
theorem Hd2.step {W : World} {b1 o1 : Nat} {v1 : Value} {b2 o2 : Nat} {v2 : Value} {w' w'' : World} (h : Hd2 W b1 o1 v1 b2 o2 v2 w') (hb : Below w'.heap.size w' w'') : Hd2 W b1 o1 v1 b2 o2 v2 w'' := by
  obtain ⟨h1, h2, hB, k1, k2⟩ := h
  have hs := hB.size
  exact ⟨(hb.cell (p := ⟨b1, o1, none⟩) (by show b1 < _; omega)).trans h1, (hb.cell (p := ⟨b2, o2, none⟩) (by show b2 < _; omega)).trans h2, hB.trans (hb.mono hs), k1, k2⟩
theorem Hd2.bel {W : World} {b1 o1 : Nat} {v1 : Value} {b2 o2 : Nat} {v2 : Value} {w' : World} (h : Hd2 W b1 o1 v1 b2 o2 v2 w') : Below W.heap.size W w' := h.2.2.1

theorem StrRet.le {n m : Nat} {w : World} {e : Ending} {w' : World} (h : StrRet n w e w') (hnm : n ≤ m) : StrRet m w e w' := by
  obtain ⟨s, h1, h2, h3⟩ := h
  exact ⟨s, h1, by omega, h3⟩
end Go.Proofs.Ytidlifijgooceaa
