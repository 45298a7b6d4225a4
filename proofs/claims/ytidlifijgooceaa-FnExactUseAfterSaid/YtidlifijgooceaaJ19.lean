import Derived.Test.YtidlifijgooceaaJ17
set_option linter.unusedVariables false

/- A slice that a call builds by append, beginning empty, while other memory that was there keeps its cells. -/
namespace Go.Proofs.Ytidlifijgooceaa
open Go.RowKit

/-- every cell of w0 reads in w as it did -/
def Kp (w0 w : World) : Prop := (∀ b o x, w0.cell? ⟨b, o, none⟩ = some x → w.cell? ⟨b, o, none⟩ = some x) ∧ w0.heap.size ≤ w.heap.size
theorem Kp.refl (w : World) : Kp w w := ⟨fun _ _ _ h => h, Nat.le_refl _⟩
theorem Kp.trans {a b c : World} (h : Kp a b) (k : Kp b c) : Kp a c := ⟨fun x o u hu => k.1 x o u (h.1 x o u hu), Nat.le_trans h.2 k.2⟩
theorem cell_lt {w : World} {b o : Nat} {x : Value} (h : w.cell? ⟨b, o, none⟩ = some x) : b < w.heap.size := World.block_lt_of_cell? w ⟨b, o, none⟩ h
theorem Rd.imp {w w' : World} {B size n : Nat} {A : Option Addr} {xs : List Value} (h : Rd w B size A n xs) (hk : Kp w w') : Rd w' B size A n xs :=
  ⟨h.1, fun hn => by
    obtain ⟨b, off, e, hb, hc⟩ := h.2 hn
    exact ⟨b, off, e, hb, fun j u hu => hk.1 _ _ _ (hc j u hu)⟩⟩
theorem IntS.imp {w w' : World} {B : Nat} {v : Value} {l : List Int} (h : IntS w B v l) (hk : Kp w w') : IntS w' B v l := by
  obtain ⟨A, c, e, h1, h2, h3⟩ := h
  exact ⟨A, c, e, h1, h2, h3.imp hk⟩
theorem BoolS.imp {w w' : World} {B : Nat} {v : Value} {l : List Bool} (h : BoolS w B v l) (hk : Kp w w') : BoolS w' B v l := by
  obtain ⟨A, c, e, h1, h2, h3⟩ := h
  exact ⟨A, c, e, h1, h2, h3.imp hk⟩
theorem StS.imp {w w' : World} {B : Nat} {v : Value} {l : List St} (h : StS w B v l) (hk : Kp w w') : StS w' B v l := by
  induction h with
  | mk A c l tv ev hc hr ht he iht ihe =>
    refine .mk A c l tv ev hc (fun hn => ?_) iht ihe
    obtain ⟨b, off, e, hb, hcell⟩ := hr hn
    refine ⟨b, off, e, hb, fun i hi => ?_⟩
    obtain ⟨h0, h1, h2, h3, h4, h5⟩ := hcell i hi
    exact ⟨hk.1 _ _ _ h0, hk.1 _ _ _ h1, hk.1 _ _ _ h2, hk.1 _ _ _ h3, hk.1 _ _ _ h4, hk.1 _ _ _ h5⟩

/-- v is a slice of elements of type e (size cells each) that the call owns; what was in w0 keeps its cells -/
structure Out (w0 w : World) (base : Nat) (e : TypeId) (size : Nat) (v : Value) (n : Nat) (xs : List Value) : Prop where
  own : w.ownsRow base e size v n xs
  kp : Kp w0 w
  bel : Below base w0 w
  hb : base ≤ w0.heap.size
  blk : ∀ g, v.ownBlock = some g → ∀ o, w0.cell? ⟨g, o, none⟩ = none
theorem Out.start {w0 : World} {base : Nat} {e : TypeId} {size : Nat} {A : Option Addr} (h : w0.ownsRow base e size (.slice A 0 0) 0 []) (hb : base ≤ w0.heap.size) : Out w0 w0 base e size (.slice A 0 0) 0 [] := by
  refine ⟨h, Kp.refl _, Below.refl _ _, hb, fun g hg o => ?_⟩
  rcases h.2 with ⟨e1, h0⟩ | ⟨g', cap, cur, e1, _, hh, _, _, hc, _⟩
  · injection e1 with e1; subst e1; simp [Value.ownBlock] at hg
  · injection e1 with e1 e2 e3
    subst e1 e3
    injection hg with hg
    have hg' : g' = g := hg
    subst hg'
    rw [cell_of_row _ _ _ _ _ _ hh]
    rw [Nat.zero_mul] at hc
    exact Array.getElem?_eq_none (by omega)
theorem Out.le {w0 w : World} {base : Nat} {e : TypeId} {size : Nat} {v : Value} {n : Nat} {xs : List Value} (h : Out w0 w base e size v n xs) : base ≤ w.heap.size := Nat.le_trans h.hb h.kp.2
/-- ints -/
def OutI (w0 w : World) (base : Nat) (v : Value) (l : List Int) : Prop := Out w0 w base 3 1 v l.length (l.map (.int .i64))
theorem OutI.toS {w0 w : World} {base : Nat} {v : Value} {l : List Int} (h : OutI w0 w base v l) (hl : l.length ≤ 4194304) : IntS w w.heap.size v l := OInts.toS (base := base) h.own hl
theorem OutI.start {w0 : World} {base : Nat} {A : Option Addr} (h : OInts w0 base (.slice A 0 0) []) (hb : base ≤ w0.heap.size) : OutI w0 w0 base (.slice A 0 0) [] := Out.start h hb
end Go.Proofs.Ytidlifijgooceaa
