import Derived.Test.YtidlifijgooceaaW26
import Derived.Test.YtidlifijgooceaaW32
import Derived.Test.YtidlifijgooceaaW37
import Derived.Test.YtidlifijgooceaaW38
set_option linter.unusedVariables false

/- Words for FnExactDropDead: programs in their boxes; both DropDeads with one result. -/
namespace Go.Proofs.Ytidlifijgooceaa
open Go.RowKit

/-- a Program in its box, read only -/
structure PB (W : World) (g : Nat) (vt vb : Value) (ts : List Int) (l : List St) : Prop where
  row : RowB W g 26 [vt, vb]
  ht : IntS W g vt ts
  hl : StS W g vb l
theorem PB.lt {W : World} {g : Nat} {vt vb : Value} {ts : List Int} {l : List St} (h : PB W g vt vb ts l) : g < W.heap.size := h.row.lt
theorem PB.low {W W' : World} {g B : Nat} {vt vb : Value} {ts : List Int} {l : List St} (h : PB W g vt vb ts l) (hb : Below B W W') (hg : g < B) : PB W' g vt vb ts l :=
  ⟨h.row.low hb hg, h.ht.low hb (Nat.le_of_lt hg), h.hl.low hb (Nat.le_of_lt hg)⟩
theorem PB.bels {W W' : World} {g : Nat} {vt vb : Value} {ts : List Int} {l : List St} (h : PB W g vt vb ts l) (hb : Below W.heap.size W W') : PB W' g vt vb ts l := h.low hb h.lt
theorem PB.new {W : World} {vt vb : Value} {ts : List Int} {l : List St} (ht : IntS W W.heap.size vt ts) (hl : StS W W.heap.size vb l) : PB (W.alloc (.cells #[vt, vb] 26)) W.heap.size vt vb ts l :=
  ⟨RowB.new W [vt, vb] _, ht.low (bel_a W _) (Nat.le_refl _), hl.low (bel_a W _) (Nat.le_refl _)⟩
theorem PB.c0 {W : World} {g : Nat} {vt vb : Value} {ts : List Int} {l : List St} (h : PB W g vt vb ts l) : W.cell? ⟨g, 0, none⟩ = some vt := h.row.cell 0
theorem PB.c1 {W : World} {g : Nat} {vt vb : Value} {ts : List Int} {l : List St} (h : PB W g vt vb ts l) : W.cell? ⟨g, 1, none⟩ = some vb := h.row.cell 1
theorem PB.rt {W : World} {g : Nat} {vt vb : Value} {ts : List Int} {l : List St} (h : PB W g vt vb ts l) : IntS W W.heap.size vt ts := h.ht.more (Nat.le_of_lt h.lt)
theorem PB.rl {W : World} {g : Nat} {vt vb : Value} {ts : List Int} {l : List St} (h : PB W g vt vb ts l) : StS W W.heap.size vb l := h.hl.more (Nat.le_of_lt h.lt)

/-- an owned Program (all rows of its tree different) in its box -/
structure GB (W : World) (lo0 lo g : Nat) (vt vb : Value) (ts : List Int) (l : List St) : Prop where
  row : RowB W g 26 [vt, vb]
  ht : OInts W lo0 vt ts
  own : ∀ b, vt.ownBlock = some b → b < lo
  le0 : lo0 ≤ lo
  le : lo ≤ g
  hl : DT W (rg lo g) vb l
theorem GB.lt {W : World} {lo0 lo g : Nat} {vt vb : Value} {ts : List Int} {l : List St} (h : GB W lo0 lo g vt vb ts l) : g < W.heap.size := h.row.lt
theorem GB.bels {W W' : World} {lo0 lo g : Nat} {vt vb : Value} {ts : List Int} {l : List St} (h : GB W lo0 lo g vt vb ts l) (hb : Below W.heap.size W W') : GB W' lo0 lo g vt vb ts l :=
  ⟨h.row.low hb h.lt, h.ht.bel hb, h.own, h.le0, h.le, h.hl.bel hb⟩
theorem GB.new {W : World} {lo0 lo : Nat} {vt vb : Value} {ts : List Int} {l : List St} (ht : OInts W lo0 vt ts) (own : ∀ b, vt.ownBlock = some b → b < lo) (h0 : lo0 ≤ lo) (h1 : lo0 ≤ W.heap.size) (hl : DT W (rg lo W.heap.size) vb l) :
    ∃ lo', GB (W.alloc (.cells #[vt, vb] 26)) lo0 lo' W.heap.size vt vb ts l := by
  have hb := bel_a W (.cells #[vt, vb] 26)
  refine ⟨min lo W.heap.size, RowB.new W [vt, vb] _, ht.bel hb, fun b e => ?_, by omega, by omega, (hl.mono fun b h => ?_).bel hb⟩
  · have := own b e
    have := (ht.own_lt e).2
    omega
  · exact ⟨by have := h.1; omega, h.2⟩
theorem GB.c0 {W : World} {lo0 lo g : Nat} {vt vb : Value} {ts : List Int} {l : List St} (h : GB W lo0 lo g vt vb ts l) : W.cell? ⟨g, 0, none⟩ = some vt := h.row.cell 0
theorem GB.c1 {W : World} {lo0 lo g : Nat} {vt vb : Value} {ts : List Int} {l : List St} (h : GB W lo0 lo g vt vb ts l) : W.cell? ⟨g, 1, none⟩ = some vb := h.row.cell 1
theorem GB.rt {W : World} {lo0 lo g : Nat} {vt vb : Value} {ts : List Int} {l : List St} (h : GB W lo0 lo g vt vb ts l) (hs : ts.length ≤ 4194304) : IntS W W.heap.size vt ts := h.ht.toS hs
theorem GB.rl {W : World} {lo0 lo g : Nat} {vt vb : Value} {ts : List Int} {l : List St} (h : GB W lo0 lo g vt vb ts l) : StS W W.heap.size vb l := h.hl.toS
theorem RowB.blk {W W' : World} {g : Nat} {t : TypeId} {cs : List Value} (h : RowB W g t cs) (e : W'.heap[g]? = W.heap[g]?) : RowB W' g t cs := e.trans h
theorem GB.ch {W W' : World} {lo0 lo g : Nat} {Q : Nat → Prop} {vt vb : Value} {ts : List Int} {l : List St} (h : GB W lo0 lo g vt vb ts l) (hc : Ch Q W W') (hq : ∀ b, Q b → b < lo0) : GB W' lo0 lo g vt vb ts l := by
  have h1 := h.le0
  have h2 := h.le
  exact ⟨h.row.blk (hc.oth g h.lt fun hp => by have := hq g hp; omega), h.ht.move (Nat.le_refl _) (fun b hb hl => hc.oth b hl fun hp => by have := hq b hp; omega), h.own, h1, h2,
    h.hl.frame fun b hp hl => hc.oth b hl fun hq' => by have := hq b hq'; have := hp.1; omega⟩
theorem GB.mark {W W' : World} {lo0 lo g : Nat} {vt vb : Value} {ts ts2 : List Int} {l l2 : List St} (h : GB W lo0 lo g vt vb ts l) (ho : OInts W' lo0 vt ts2) (hd : DT W' (rg lo g) vb l2) (hc : Ch (fun b => vt.ownBlock = some b ∨ rg lo g b) W W') :
    GB W' lo0 lo g vt vb ts2 l2 ∧ Below lo0 W W' := by
  have h1 := h.le0
  have h2 := h.le
  have h3 := h.lt
  refine ⟨⟨h.row.blk (hc.oth g h.lt ?_), ho, h.own, h1, h2, hd⟩, hc.bel (by omega) ?_⟩
  · rintro (e | e)
    · have := h.own g e; omega
    · exact absurd e.2 (by omega)
  · rintro b (e | e)
    · exact (h.ht.own_lt e).1
    · have := e.1; omega

def DdS (w : World) (d : Bool) (ts : List Int) (l : List St) (e : Ending) (w' : World) : Prop :=
  ∃ vt vb, e = .returned (.tuple #[.agg #[vt, vb], .bool d]) ∧ IntS w' w'.heap.size vt ts ∧ StS w' w'.heap.size vb l ∧ Below w.heap.size w w'
def DdI (w : World) (d : Bool) (ts : List Int) (l : List St) (e : Ending) (w' : World) : Prop :=
  ∃ vt vb lo, e = .returned (.tuple #[.agg #[vt, vb], .bool d]) ∧ OInts w' w.heap.size vt ts ∧ (∀ g, vt.ownBlock = some g → g < lo) ∧ w.heap.size ≤ lo ∧ DT w' (rg lo w'.heap.size) vb l ∧ Below w.heap.size w w'
theorem dd_both (ts : List Int) (l : List St) (k : Int) : ∃ (d : Bool) (ts' : List Int) (l' : List St), ts'.length ≤ ts.length ∧ szL l' ≤ szL l ∧
    (∀ (vt vb : Value) (B : Nat) (w : World), IntS w B vt ts → StS w B vb l → B ≤ w.heap.size → szL l ≤ 4194000 → Calls Try.prog 31 #[.agg #[vt, vb], .int .i64 k] w (DdS w d ts' l')) ∧
    (∀ (vt vb : Value) (B : Nat) (w : World), IntS w B vt ts → StS w B vb l → B ≤ w.heap.size → ts.length ≤ 4000000 → szL l ≤ 4194000 → Calls Try.prog 33 #[.agg #[vt, vb], .int .i64 k] w (DdI w d ts' l')) := by
  refine ⟨ddOk ts l k, if ddOk ts l k then ts else [], if ddOk ts l k then l.eraseIdx k.toNat else [], ?_, ?_, fun vt vb B w h1 h2 h3 h4 => ?_, fun vt vb B w h1 h2 h3 h4 h5 => ?_⟩
  · split <;> simp
  · split
    · exact szL_erase _ _
    · simp [szL]
  · exact sDropDead_any vt vb ts l k B w h1 h2 h3 h4
  · exact iDropDead_any vt vb ts l k B w h1 h2 h3 h4 h5

end Go.Proofs.Ytidlifijgooceaa
