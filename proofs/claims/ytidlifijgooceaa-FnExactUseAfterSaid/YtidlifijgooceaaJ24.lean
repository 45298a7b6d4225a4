import Derived.Test.YtidlifijgooceaaJ11
import Derived.Test.YtidlifijgooceaaJ20
set_option linter.unusedVariables false

/- markIntS, markStmtS, markProgram, heldIntS. -/
namespace Go.Proofs.Ytidlifijgooceaa
open Go.RowKit

theorem Mk.mono {P Q : Nat → Prop} {w w' : World} (h : Mk P w w') (hq : ∀ b, P b → Q b) : Mk Q w w' :=
  ⟨h.os, h.tape, h.output, h.size, fun b hb => h.oth b fun hp => hb (hq b hp), h.row⟩
/-- w' is w but for new blocks and those that meet Q -/
structure Ch (Q : Nat → Prop) (w w' : World) : Prop where
  os : w'.os = w.os
  tape : w'.tape = w.tape
  output : w'.output = w.output
  size : w.heap.size ≤ w'.heap.size
  oth : ∀ b : Nat, b < w.heap.size → ¬ Q b → w'.heap[b]? = w.heap[b]?
theorem Ch.bel {Q : Nat → Prop} {w w' : World} (h : Ch Q w w') {lo : Nat} (hlo : lo ≤ w.heap.size) (hl : ∀ b, Q b → lo ≤ b) : Below lo w w' :=
  ⟨h.os, h.tape, h.output, h.size, fun b hb => h.oth b (by omega) fun hp => by have := hl b hp; omega⟩
theorem Ch.cell {Q : Nat → Prop} {w w' : World} (h : Ch Q w w') {b o : Nat} {u : Value} (hc : w.cell? ⟨b, o, none⟩ = some u) (hq : ¬ Q b) : w'.cell? ⟨b, o, none⟩ = some u := by
  have hb : b < w.heap.size := by
    rcases Nat.lt_or_ge b w.heap.size with h | h
    · exact h
    · simp [World.cell?, Array.getElem?_eq_none h] at hc
  exact (World.cell?_of_block (w := w) (a := ⟨b, o, none⟩) (h.oth b hb hq)).trans hc

theorem OInts.first {w : World} {base : Nat} {A : Option Addr} {n c : Nat} {l : List Int} (h : OInts w base (.slice A n c) l) (hl : 0 < l.length) :
    ∃ g, A = some ⟨g, 0, none⟩ ∧ base ≤ g ∧ g < w.heap.size ∧ n = l.length ∧ ∃ cs : List Value, RowB w g 3 cs := by
  rcases h.2 with ⟨e, h0⟩ | ⟨g, cap, cur, e, hb, hh, _⟩
  · omega
  · injection e with e1 e2 e3
    subst e1 e2
    exact ⟨g, rfl, hb, row_lt hh, rfl, cur.toList, by unfold RowB; rw [Array.toArray_toList]; exact hh⟩
end Go.Proofs.Ytidlifijgooceaa
