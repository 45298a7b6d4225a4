import Derived.Test.YtfioaohadanjmaaA22
set_option linter.unusedVariables false

/- the draws of a program and small numbers (spec.l10Case and what stands on it). -/
namespace Go.Proofs.Ytfioaohadanjmaa
open Go.RowKit

/-- what the ends of these draws need -/
structure DsE (w W : World) (vt vb : Value) (ts : List Int) (l : List St) : Prop where
  ht : IntX W (fun b => w.heap.size ≤ b) vt ts
  hl : StX W (fun b => w.heap.size ≤ b) vb l
  bel : Below w.heap.size w W
theorem DsE.mk' {w w3 W : World} {vt vb : Value} {ts : List Int} {l : List St} {lo : Nat} (h3 : Below w.heap.size w w3) (hW : w3.grownBy W (some w.heap.size)) (hT : IntX w3 (fun b => lo ≤ b) vt ts) (hB : StX w3 (fun b => lo ≤ b) vb l) (hlo : w.heap.size < lo) : DsE w W vt vb ts l := by
  have hk : ∀ b, lo ≤ b → b < w3.heap.size → w.heap.size ≤ b ∧ W.heap[b]? = w3.heap[b]? := fun b hb hl => ⟨by omega, hW.block b hl (fun e => by injection e with e; omega)⟩
  exact ⟨hT.frame hW.size hk, hB.frame hW.size hk, grown_new h3 (Nat.le_refl _) hW⟩

theorem belC {B : Nat} {w w' : World} {b o : Nat} {x : Option Value} (h : Below B w w') (e : w.cell? ⟨b, o, none⟩ = x) (hb : b < B) : w'.cell? ⟨b, o, none⟩ = x := (h.cell (p := ⟨b, o, none⟩) hb).trans e

end Go.Proofs.Ytfioaohadanjmaa
