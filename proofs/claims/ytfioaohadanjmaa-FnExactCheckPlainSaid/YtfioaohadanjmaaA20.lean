import Derived.Test.YtfioaohadanjmaaA11
import Derived.Test.YtfioaohadanjmaaA16
import Derived.Test.YtfioaohadanjmaaA18
import Derived.Test.YtfioaohadanjmaaA19
set_option linter.unusedVariables false

/- Words for the walks of the exact laws: the argument in its box, the copy that is handed over, results. -/
namespace Go.Proofs.Ytfioaohadanjmaa
open Go.RowKit

def LwRet (w : World) (e : Ending) (w' : World) : Prop := e = .returned (.bool true) ∧ Below w.heap.size w w'
/-- the law's argument in its box -/
structure ArB (w W : World) (g : Nat) (vt vb : Value) (ts : List Int) (l : List St) : Prop where
  bel : Below w.heap.size w W
  row : RowB W g 25 [vt, vb]
  hg : w.heap.size ≤ g
  ht : IntS W w.heap.size vt ts
  hl : StS W w.heap.size vb l
theorem ArB.lt {w W : World} {g : Nat} {vt vb : Value} {ts : List Int} {l : List St} (h : ArB w W g vt vb ts l) : g < W.heap.size := h.row.lt
theorem ArB.low {w W W' : World} {g B : Nat} {vt vb : Value} {ts : List Int} {l : List St} (h : ArB w W g vt vb ts l) (hb : Below B W W') (hg : g < B) : ArB w W' g vt vb ts l := by
  have h1 := h.hg
  exact ⟨h.bel.trans (hb.mono (by omega)), h.row.low hb hg, h.hg, h.ht.low hb (by omega), h.hl.low hb (by omega)⟩
theorem ArB.bels {w W W' : World} {g : Nat} {vt vb : Value} {ts : List Int} {l : List St} (h : ArB w W g vt vb ts l) (hb : Below W.heap.size W W') : ArB w W' g vt vb ts l := h.low hb h.lt
theorem ArB.c0 {w W : World} {g : Nat} {vt vb : Value} {ts : List Int} {l : List St} (h : ArB w W g vt vb ts l) : W.cell? ⟨g, 0, none⟩ = some vt := h.row.cell 0
theorem ArB.c1 {w W : World} {g : Nat} {vt vb : Value} {ts : List Int} {l : List St} (h : ArB w W g vt vb ts l) : W.cell? ⟨g, 1, none⟩ = some vb := h.row.cell 1

/-- the copy that is handed over, in its box -/
structure XB (W : World) (lo hi : Nat) (vt vb : Value) (ts : List Int) (l : List St) : Prop where
  row : RowB W hi 30 [vt, vb]
  le : lo ≤ hi
  ht : OInts W lo vt ts
  own : ∀ b, vt.ownBlock = some b → b < hi
  hl : TrS W (fun b => lo ≤ b ∧ b < hi) true vb l
theorem XB.lt {W : World} {lo hi : Nat} {vt vb : Value} {ts : List Int} {l : List St} (h : XB W lo hi vt vb ts l) : hi < W.heap.size := h.row.lt
theorem XB.bels {W W' : World} {lo hi : Nat} {vt vb : Value} {ts : List Int} {l : List St} (h : XB W lo hi vt vb ts l) (hb : Below W.heap.size W W') : XB W' lo hi vt vb ts l :=
  ⟨h.row.low hb h.lt, h.le, h.ht.bel hb, h.own, h.hl.bel hb⟩
theorem XB.c0 {W : World} {lo hi : Nat} {vt vb : Value} {ts : List Int} {l : List St} (h : XB W lo hi vt vb ts l) : W.cell? ⟨hi, 0, none⟩ = some vt := h.row.cell 0
theorem XB.c1 {W : World} {lo hi : Nat} {vt vb : Value} {ts : List Int} {l : List St} (h : XB W lo hi vt vb ts l) : W.cell? ⟨hi, 1, none⟩ = some vb := h.row.cell 1
theorem XB.new {w W : World} {vt vb : Value} {ts : List Int} {l : List St} (ht : OInts W w.heap.size vt ts) (hl : TrS W (fun b => w.heap.size ≤ b) true vb l) (hb : Below w.heap.size w W) : XB (W.alloc (.cells #[vt, vb] 30)) w.heap.size W.heap.size vt vb ts l := by
  have hA := bel_a W (.cells #[vt, vb] 30)
  exact ⟨RowB.new W [vt, vb] _, hb.size, ht.bel hA, fun b e => (ht.own_lt e).2, hl.frame fun b hp hl => ⟨⟨hp, hl⟩, hA.block b hl⟩⟩
theorem XB.rt {W : World} {lo hi : Nat} {vt vb : Value} {ts : List Int} {l : List St} (h : XB W lo hi vt vb ts l) (hl : ts.length ≤ 4194304) : IntS W W.heap.size vt ts := h.ht.toS hl
theorem XB.rl {W : World} {lo hi : Nat} {vt vb : Value} {ts : List Int} {l : List St} (h : XB W lo hi vt vb ts l) : StS W W.heap.size vb l := h.hl.toS
/-- what marks turn in the copy -/
def XQ (vt : Value) (lo hi : Nat) : Nat → Prop := fun b => vt.ownBlock = some b ∨ (lo ≤ b ∧ b < hi)
theorem XB.q {W : World} {lo hi : Nat} {vt vb : Value} {ts : List Int} {l : List St} (h : XB W lo hi vt vb ts l) : ∀ b, XQ vt lo hi b → lo ≤ b ∧ b < hi := fun b hb => by
  rcases hb with e | hb
  · exact ⟨(h.ht.own_lt e).1, h.own b e⟩
  · exact hb
/-- an owned row of ints behind the copy outlives the marks -/
theorem OInts.ch {w w' : World} {base lo hi : Nat} {Q : Nat → Prop} {v : Value} {l : List Int} (h : OInts w base v l) (hc : Ch Q w w') (hq : ∀ b, Q b → lo ≤ b ∧ b < hi) (hb : hi ≤ base) : OInts w' base v l :=
  h.move (Nat.le_refl _) fun b h1 h2 => hc.oth b h2 fun hp => by have := (hq b hp).2; omega
theorem OInts.ownMk {w w' : World} {base lo : Nat} {v : Value} {l : List Int} (h : OInts w base v l) (hm : Mk (fun b => v.ownBlock = some b) w w') (hlo : lo ≤ base) : Below lo w w' :=
  hm.bel fun b e => Nat.le_trans hlo (h.own_lt e).1
/-- what is read of an argument, any size -/
structure ArA (w W : World) (g : Nat) (vt vb : Value) (ts : List Int) (l : List St) : Prop where
  bel : Below w.heap.size w W
  row : RowB W g 25 [vt, vb]
  hg : w.heap.size ≤ g
  ht : AnI W w.heap.size vt ts
  hl : StS W w.heap.size vb l
theorem ArA.new {w : World} {vt vb : Value} {ts : List Int} {l : List St} (ht : AnI w w.heap.size vt ts) (hl : StS w w.heap.size vb l) : ArA w (w.alloc (.cells #[vt, vb] 25)) w.heap.size vt vb ts l := by
  have hA := bel_a w (.cells #[vt, vb] 25)
  exact ⟨hA, RowB.new w [vt, vb] _, Nat.le_refl _, ht.low hA (Nat.le_refl _), hl.low hA (Nat.le_refl _)⟩
theorem ArA.bels {w W W' : World} {g : Nat} {vt vb : Value} {ts : List Int} {l : List St} (h : ArA w W g vt vb ts l) (hb : Below W.heap.size W W') : ArA w W' g vt vb ts l := by
  have h1 := h.bel.size
  exact ⟨h.bel.trans (hb.mono h1), h.row.low hb h.row.lt, h.hg, h.ht.low hb h1, h.hl.low hb h1⟩
theorem ArA.toB {w W : World} {g : Nat} {vt vb : Value} {ts : List Int} {l : List St} (h : ArA w W g vt vb ts l) (hl : ts.length ≤ 4194304) : ArB w W g vt vb ts l := ⟨h.bel, h.row, h.hg, h.ht.toS hl, h.hl⟩

end Go.Proofs.Ytfioaohadanjmaa
