import Derived.Test.YtidlifijgooceaaGreatG20
import Derived.Test.YtidlifijgooceaaGreatG23
import Derived.Test.YtidlifijgooceaaGreatG01
set_option linter.unusedVariables false

/- spec.l2Branch, l3Place, the draws of the flow laws. -/
namespace Go.Proofs.YtidlifijgooceaaGreat
open Go.RowKit

def BrRet (w : World) (g p : Nat) (e : Ending) (w' : World) : Prop :=
  ∃ (vt vb : Value) (ts : List Int) (l : List St) (p' : Nat), e = .returned (.agg #[vt, vb]) ∧ IntX w' (fun b => w.heap.size ≤ b) vt ts ∧ StX w' (fun b => w.heap.size ≤ b) vb l ∧ ts.length ≤ 700 ∧ szL l ≤ 100000 ∧ p' ≤ p + 720 ∧ Dr w' g p' ∧ w.grownBy w' (some g)
theorem br_close {w w3 W : World} {g p p' : Nat} {vt vb : Value} {ts : List Int} {l : List St} (hg : g < w.heap.size) (h3 : w.grownBy w3 (some g)) (hW : w3.grownBy W (some w.heap.size)) (hd : Dr w3 g p') (hT : IntX w3 (fun b => w.heap.size + 1 ≤ b) vt ts) (hB : StX w3 (fun b => w.heap.size + 1 ≤ b) vb l) (ht : ts.length ≤ 700) (hl : szL l ≤ 100000) (hp : p' ≤ p + 720) (hlt : w.heap.size < w3.heap.size) :
    BrRet w g p (.returned (.agg #[vt, vb])) W := by
  have hk : ∀ b, w.heap.size + 1 ≤ b → b < w3.heap.size → w.heap.size ≤ b ∧ W.heap[b]? = w3.heap[b]? := fun b hb hl => ⟨by omega, hW.block b hl (fun e => by injection e with e; omega)⟩
  exact ⟨vt, vb, ts, l, p', rfl, hT.frame hW.size hk, hB.frame hW.size hk, ht, hl, hp, hd.low (grown_below hW hlt) hg, grown_base h3 (grown_below hW hlt)⟩

set_option maxHeartbeats 4000000
set_option maxRecDepth 100000

def PlRet (w : World) (e : Ending) (w' : World) : Prop :=
  ∃ (vt vb : Value) (ts : List Int) (l : List St) (a : Int), e = .returned (.tuple #[.agg #[vt, vb], .int .i64 a]) ∧ IntX w' (fun b => w.heap.size ≤ b) vt ts ∧ StX w' (fun b => w.heap.size ≤ b) vb l ∧ ts.length ≤ 700 ∧ szL l ≤ 100000 ∧ Below w.heap.size w w'

theorem pl_set {w : World} {b g : Nat} {u0 u1 : Value} (hne : b ≠ g) (h0 : w.cell? ⟨b, 0, none⟩ = some u0) (h1 : w.cell? ⟨b, 1, none⟩ = some u1) (x y : Value) :
    ((w.setCell ⟨g, 0, none⟩ x).setCell ⟨g, 1, none⟩ y).cell? ⟨b, 0, none⟩ = some u0 ∧ ((w.setCell ⟨g, 0, none⟩ x).setCell ⟨g, 1, none⟩ y).cell? ⟨b, 1, none⟩ = some u1 := by
  have e := (heap_setCell_other (w.setCell ⟨g, 0, none⟩ x) ⟨g, 1, none⟩ b y hne).trans (heap_setCell_other w ⟨g, 0, none⟩ b x hne)
  exact ⟨(World.cell?_of_block (a := ⟨b, 0, none⟩) e).trans h0, (World.cell?_of_block (a := ⟨b, 1, none⟩) e).trans h1⟩
theorem pl_close {w w3 W : World} {vt vb : Value} {ts : List Int} {l : List St} {a : Int} {lo : Nat} (h3 : Below w.heap.size w w3) (hW : w3.grownBy W (some w.heap.size)) (hT : IntX w3 (fun b => lo ≤ b) vt ts) (hB : StX w3 (fun b => lo ≤ b) vb l) (hlo : w.heap.size < lo) (ht : ts.length ≤ 700) (hl : szL l ≤ 100000) :
    PlRet w (.returned (.tuple #[.agg #[vt, vb], .int .i64 a])) W := by
  have hk : ∀ b, lo ≤ b → b < w3.heap.size → w.heap.size ≤ b ∧ W.heap[b]? = w3.heap[b]? := fun b hb hl => ⟨by omega, hW.block b hl (fun e => by injection e with e; omega)⟩
  exact ⟨vt, vb, ts, l, a, rfl, hT.frame hW.size hk, hB.frame hW.size hk, ht, hl, grown_new h3 (Nat.le_refl _) hW⟩


end Go.Proofs.YtidlifijgooceaaGreat

/- FnTakesOf: the draw, the plain law, the walk. -/
namespace Go.Proofs.YtidlifijgooceaaGreat
open Go.RowKit


theorem use_two {ts : List Int} {p : Pt} {v : Nat} (hp : PtOk ts p) (h : useP ts p.op p.x p.y (v : Nat) = 2) : typeOfP ts v = 2 ∨ typeOfP ts v = 4 := by
  unfold useP at h
  repeat' split at h
  all_goals first | omega | skip
  · rename_i h8 hv
    rcases hp with h9 | h9 | h9 | h9
    · omega
    · omega
    · omega
    · left
      unfold simpleP at h9
      rw [hv]
      rw [h8] at h9
      simp at h9
      exact h9.2.1
theorem take_mem {ts : List Int} {l : List St} {i : Nat} (hi : i < (takeRes ts l).length) : ∃ v : Nat, (takeRes ts l).getD i 0 = (v : Nat) ∧ v < ts.length ∧ (ts.getD v 0 = 2 ∨ ts.getD v 0 = 4) := by
  have hm : (takeRes ts l).getD i 0 ∈ takeRes ts l := by rw [getD_lt hi]; exact List.getElem_mem hi
  generalize (takeRes ts l).getD i 0 = x at *
  unfold takeRes at hm
  split at hm
  · rename_i hv
    obtain ⟨v, h1, h2, rfl⟩ := lst_mem.1 hm
    obtain ⟨p, hp, hu⟩ := List.any_eq_true.1 h2
    refine ⟨v, rfl, h1, ?_⟩
    have := use_two (ptsP_ok hv p hp) (by simpa using hu)
    unfold typeOfP at this
    rw [if_pos (by omega)] at this
    simpa using this
  · simp at hm
theorem take_len (ts : List Int) (l : List St) : (takeRes ts l).length ≤ ts.length := by
  unfold takeRes
  split
  · exact lst_len _ _
  · simp

def LawRet (w : World) (e : Ending) (w' : World) : Prop := e = .returned (.bool true) ∧ Below w.heap.size w w'

end Go.Proofs.YtidlifijgooceaaGreat

/- Words for the laws' walks: a drawn program in its box. The plain law of NeedsOpen. -/
namespace Go.Proofs.YtidlifijgooceaaGreat
open Go.RowKit

/-- the program (vt, vb) lies in the box g and reads as (ts, l); what was in w is as it was -/
structure PgB (w W : World) (g : Nat) (vt vb : Value) (ts : List Int) (l : List St) : Prop where
  bel : Below w.heap.size w W
  row : W.heap[g]? = some (.cells #[vt, vb] 26 (0, 0))
  ht : IntS W W.heap.size vt ts
  hl : StS W W.heap.size vb l
theorem PgB.lt {w W : World} {g : Nat} {vt vb : Value} {ts : List Int} {l : List St} (h : PgB w W g vt vb ts l) : g < W.heap.size := row_lt h.row
theorem PgB.c0 {w W : World} {g : Nat} {vt vb : Value} {ts : List Int} {l : List St} (h : PgB w W g vt vb ts l) : W.cell? ⟨g, 0, none⟩ = some vt := by rw [cell_of_row _ _ _ _ _ _ h.row]; rfl
theorem PgB.c1 {w W : World} {g : Nat} {vt vb : Value} {ts : List Int} {l : List St} (h : PgB w W g vt vb ts l) : W.cell? ⟨g, 1, none⟩ = some vb := by rw [cell_of_row _ _ _ _ _ _ h.row]; rfl
theorem PgB.bels {w W W' : World} {g : Nat} {vt vb : Value} {ts : List Int} {l : List St} (h : PgB w W g vt vb ts l) (hb : Below W.heap.size W W') : PgB w W' g vt vb ts l :=
  ⟨h.bel.trans (hb.mono h.bel.size), row_below h.row hb, (h.ht.low hb (Nat.le_refl _)).more hb.size, (h.hl.low hb (Nat.le_refl _)).more hb.size⟩
theorem PgB.new {w w1 : World} {vt vb : Value} {ts : List Int} {l : List St} {P Q : Nat → Prop} (ht : IntX w1 P vt ts) (hl : StX w1 Q vb l) (hb : Below w.heap.size w w1) : PgB w (w1.alloc (.cells #[vt, vb] 26)) w1.heap.size vt vb ts l := by
  have hA := bel_a w1 (.cells #[vt, vb] 26)
  exact ⟨hb.trans (hA.mono hb.size), heap_alloc_new w1 _, ((ht.toS).low hA (Nat.le_refl _)).more hA.size, ((hl.toS).low hA (Nat.le_refl _)).more hA.size⟩
theorem IntS.bel {w w' : World} {v : Value} {l : List Int} (h : IntS w w.heap.size v l) (hb : Below w.heap.size w w') : IntS w' w'.heap.size v l := (h.low hb (Nat.le_refl _)).more hb.size
theorem PtS.bel {w w' : World} {v : Value} {pts : List Pt} (h : PtS w w.heap.size v pts) (hb : Below w.heap.size w w') : PtS w' w'.heap.size v pts := (h.low hb (Nat.le_refl _)).more hb.size

theorem graphOk_zero {ts : List Int} {l : List St} : graphOk ts l [0] = validP ts l := by
  have := ptsP_pos l
  simp only [graphOk, List.all_cons, List.all_nil, Bool.and_true, withinP]
  cases validP ts l
  · rfl
  · simp; omega
theorem ptAt_zero {l : List St} : ptAt (ptsP l) 0 = (ptsP l)[0]'(ptsP_pos l) := ptAt_nat (k := 0) (ptsP_pos l)
theorem nd_step {ts : List Int} {pts : List Pt} {i v : Nat} {p : Pt} (hp : pts[i]? = some p) (hv : v < ts.length) :
    dec (Nd ts pts i v) = ((useP ts p.op p.x p.y (v : Nat) != 0) || ((setsP p.op p.x != (v : Nat)) && p.next.any fun j => dec (Nd ts pts j v))) := by
  rw [Bool.eq_iff_iff, dec_iff, Bool.or_eq_true, Bool.and_eq_true, List.any_eq_true]
  constructor
  · intro h
    cases h with
    | use hp' _ hu => rw [hp] at hp'; injection hp' with hp'; subst hp'; left; simpa using hu
    | flow hp' hk hd hs => rw [hp] at hp'; injection hp' with hp'; subst hp'; exact .inr ⟨by simpa using hs, _, hk, dec_true hd⟩
  · rintro (h | ⟨hs, k, hk, hd⟩)
    · exact .use hp hv (by simpa using h)
    · exact .flow hp hk (dec_iff.1 hd) (by simpa using hs)
theorem liveAt_has {ts : List Int} {pts : List Pt} {i v : Nat} {p : Pt} (hp : pts[i]? = some p) (hv : v < ts.length) : hasP (liveAt ts pts i) v = p.next.any fun j => dec (Nd ts pts j v) := by
  unfold liveAt
  rw [lst_has, decide_eq_true hv, Bool.true_and, hp]
theorem needs_open (ts : List Int) (l : List St) {v : Nat} (hv : v < ts.length) : hasP (needRes ts l) v = ((useRes ts l 0 v != 0) || ((setRes ts l 0 != v) && hasP (liveRes ts l 0) v)) := by
  unfold needRes useRes setRes liveRes
  rw [graphOk_zero]
  cases hval : validP ts l
  · simp [hasP]
  · have hw : withinP (v : Nat) 0 ((ts.length : Int) - 1) = true := by unfold withinP; simp; omega
    have hp0 := ptsP_pos l
    have hp : (ptsP l)[0]? = some (ptsP l)[0] := List.getElem?_eq_getElem hp0
    simp only [if_true, hw, and_self]
    rw [lst_has, decide_eq_true hv, Bool.true_and, nd_step hp hv, ptAt_zero, show (0 : Int).toNat = 0 from rfl, liveAt_has hp hv]

end Go.Proofs.YtidlifijgooceaaGreat

/- spec.l14Case and the draws that hand it on. -/
namespace Go.Proofs.YtidlifijgooceaaGreat
open Go.RowKit

/-- below 'base' only block g has turned -/
structure Gb (base g : Nat) (W w : World) : Prop where
  os : w.os = W.os
  tape : w.tape = W.tape
  output : w.output = W.output
  size : W.heap.size ≤ w.heap.size
  block : ∀ b, b < base → b ≠ g → w.heap[b]? = W.heap[b]?
theorem Gb.refl (base g : Nat) (W : World) : Gb base g W W := ⟨rfl, rfl, rfl, Nat.le_refl _, fun _ _ _ => rfl⟩
theorem Gb.bel {base g : Nat} {W a b : World} (h : Gb base g W a) (k : Below base a b) : Gb base g W b :=
  ⟨k.os.trans h.os, k.tape.trans h.tape, k.output.trans h.output, Nat.le_trans h.size k.size, fun i hi hne => (k.block i hi).trans (h.block i hi hne)⟩
theorem Gb.pick {base g : Nat} {W a b : World} (h : Gb base g W a) (hb : base ≤ W.heap.size) (k : a.grownBy b (some g)) : Gb base g W b :=
  ⟨k.os.trans h.os, k.tape.trans h.tape, k.output.trans h.output, Nat.le_trans h.size k.size, fun i hi hne => (k.block i (by have := h.size; omega) (fun e => hne (Option.some.inj e))).trans (h.block i hi hne)⟩
theorem Gb.toBel {base g : Nat} {W a w : World} (h : Gb base g W a) (hw : Below w.heap.size w W) (hg : w.heap.size ≤ g) (hb : w.heap.size ≤ base) : Below w.heap.size w a :=
  ⟨h.os.trans hw.os, h.tape.trans hw.tape, h.output.trans hw.output, Nat.le_trans hw.size h.size, fun k hk => (h.block k (by omega) (by omega)).trans (hw.block k hk)⟩
theorem OInts.pick {w w' : World} {base g : Nat} {v : Value} {l : List Int} (h : OInts w base v l) (hg : g < base) (k : w.grownBy w' (some g)) : OInts w' base v l :=
  World.ownsRow.kept h k (.inr (by
    cases e : v.ownBlock with
    | none => simp
    | some b => intro e'; injection e' with e'; have := (World.ownsRow.lt h b e).1; omega))

def CaRet (w : World) (e : Ending) (w' : World) : Prop :=
  ∃ (vt vb v : Value) (ts : List Int) (l : List St) (gv : List Int), e = .returned (.tuple #[.agg #[vt, vb], v]) ∧ IntX w' (fun b => w.heap.size ≤ b) vt ts ∧ StX w' (fun b => w.heap.size ≤ b) vb l ∧ ts.length ≤ 700 ∧ szL l ≤ 100000 ∧ IntX w' (fun b => w.heap.size ≤ b) v gv ∧ gv.length ≤ 1000 ∧ Below w.heap.size w w'

theorem ca_close {w W a W' : World} {g w1s : Nat} {vt vb v : Value} {ts gv : List Int} {l : List St} (hB : Below w.heap.size w W) (hG : Gb W.heap.size g W a) (hW : a.grownBy W' (some w.heap.size)) (hT : IntX W (fun b => w1s ≤ b) vt ts) (hL : StX W (fun b => w1s ≤ b) vb l) (hO : OInts a W.heap.size v gv)
    (h1 : w.heap.size < w1s) (h2 : w.heap.size ≤ g ∧ g < w1s) (h3 : w1s ≤ W.heap.size) (ht : ts.length ≤ 700) (hl : szL l ≤ 100000) (hgl : gv.length ≤ 1000) : CaRet w (.returned (.tuple #[.agg #[vt, vb], v])) W' := by
  have hbs := hB.size
  have hGs := hG.size
  have hk : ∀ b, w1s ≤ b → b < W.heap.size → w.heap.size ≤ b ∧ W'.heap[b]? = W.heap[b]? := fun b hb hl => ⟨by omega, (hW.block b (by omega) (fun e => by injection e with e; omega)).trans (hG.block b hl (by omega))⟩
  have hs : W.heap.size ≤ W'.heap.size := Nat.le_trans hGs hW.size
  have hX := (hO.toX (by omega)).frame (P' := fun b => w.heap.size ≤ b) (w' := W') hW.size fun b hb hl => ⟨by omega, hW.block b hl (fun e => by injection e with e; omega)⟩
  exact ⟨vt, vb, v, ts, l, gv, rfl, hT.frame hs hk, hL.frame hs hk, ht, hl, hX, hgl, grown_new (hG.toBel hB h2.1 hbs) (Nat.le_refl _) hW⟩

set_option maxHeartbeats 4000000
set_option maxRecDepth 100000

theorem ca_end {w a W' : World} {vt vb v : Value} {ts gv : List Int} {l : List St} (hB : Below w.heap.size w a) (hW : a.grownBy W' (some w.heap.size)) (hT : IntX a (fun b => w.heap.size + 1 ≤ b) vt ts) (hL : StX a (fun b => w.heap.size + 1 ≤ b) vb l) (hO : IntX a (fun b => w.heap.size + 1 ≤ b) v gv)
    (ht : ts.length ≤ 700) (hl : szL l ≤ 100000) (hgl : gv.length ≤ 1000) : CaRet w (.returned (.tuple #[.agg #[vt, vb], v])) W' := by
  have hk : ∀ b, w.heap.size + 1 ≤ b → b < a.heap.size → w.heap.size ≤ b ∧ W'.heap[b]? = a.heap[b]? := fun b hb hl => ⟨by omega, hW.block b hl (fun e => by injection e with e; omega)⟩
  exact ⟨vt, vb, v, ts, l, gv, rfl, hT.frame hW.size hk, hL.frame hW.size hk, ht, hl, hO.frame hW.size hk, hgl, grown_new hB (Nat.le_refl _) hW⟩



end Go.Proofs.YtidlifijgooceaaGreat

/- the draws of a program and small numbers (spec.l10Case and what stands on it). -/
namespace Go.Proofs.YtidlifijgooceaaGreat
open Go.RowKit

def D2Ret (w : World) (e : Ending) (w' : World) : Prop :=
  ∃ (vt vb : Value) (ts : List Int) (l : List St) (a v : Int), e = .returned (.tuple #[.agg #[vt, vb], .int .i64 a, .int .i64 v]) ∧ IntX w' (fun b => w.heap.size ≤ b) vt ts ∧ StX w' (fun b => w.heap.size ≤ b) vb l ∧ ts.length ≤ 700 ∧ szL l ≤ 100000 ∧ Below w.heap.size w w'
def D3Ret (w : World) (e : Ending) (w' : World) : Prop :=
  ∃ (vt vb : Value) (ts : List Int) (l : List St) (a v u : Int), e = .returned (.tuple #[.agg #[vt, vb], .int .i64 a, .int .i64 v, .int .i64 u]) ∧ IntX w' (fun b => w.heap.size ≤ b) vt ts ∧ StX w' (fun b => w.heap.size ≤ b) vb l ∧ ts.length ≤ 700 ∧ szL l ≤ 100000 ∧ Below w.heap.size w w'
/-- what the ends of these draws need -/
structure DsE (w W : World) (vt vb : Value) (ts : List Int) (l : List St) : Prop where
  ht : IntX W (fun b => w.heap.size ≤ b) vt ts
  hl : StX W (fun b => w.heap.size ≤ b) vb l
  bel : Below w.heap.size w W
theorem DsE.mk' {w w3 W : World} {vt vb : Value} {ts : List Int} {l : List St} {lo : Nat} (h3 : Below w.heap.size w w3) (hW : w3.grownBy W (some w.heap.size)) (hT : IntX w3 (fun b => lo ≤ b) vt ts) (hB : StX w3 (fun b => lo ≤ b) vb l) (hlo : w.heap.size < lo) : DsE w W vt vb ts l := by
  have hk : ∀ b, lo ≤ b → b < w3.heap.size → w.heap.size ≤ b ∧ W.heap[b]? = w3.heap[b]? := fun b hb hl => ⟨by omega, hW.block b hl (fun e => by injection e with e; omega)⟩
  exact ⟨hT.frame hW.size hk, hB.frame hW.size hk, grown_new h3 (Nat.le_refl _) hW⟩

theorem res_box2 {P : Program} {fn : Func} {p u u2 : Tmp} {ty : TypeId} (h : fn.results = #[.cell p ty, .tmp u, .tmp u2]) (tmps : Array Value) (w : World) (g : Nat) (t : TypeId) (cs : Array Value) (fr : Nat × Nat) (d : TypeDesc)
    (hp : tmps.getD p undef = .pointer (some ⟨g, 0, none⟩)) (hg : w.heap[g]? = some (.cells cs t fr))
    (hu : P.underlying ty = some d) (hd : (match d with | .struct _ | .array _ _ => true | _ => false) = true) (hi : (P.info? ty).map (·.size) = some cs.size) :
    (results fn tmps).run P w = .ok (.tuple #[.agg cs, tmps.getD u undef, tmps.getD u2 undef]) w := by
  simp only [results, h]
  simp [Sem.run_bind, Result.andThen, asAddr]
  rw [← Array.getD_eq_getD_getElem?, hp]
  simp [run_loadVar_row w g t ty cs fr d hg hu hd hi]
theorem res_box3 {P : Program} {fn : Func} {p u u2 u3 : Tmp} {ty : TypeId} (h : fn.results = #[.cell p ty, .tmp u, .tmp u2, .tmp u3]) (tmps : Array Value) (w : World) (g : Nat) (t : TypeId) (cs : Array Value) (fr : Nat × Nat) (d : TypeDesc)
    (hp : tmps.getD p undef = .pointer (some ⟨g, 0, none⟩)) (hg : w.heap[g]? = some (.cells cs t fr))
    (hu : P.underlying ty = some d) (hd : (match d with | .struct _ | .array _ _ => true | _ => false) = true) (hi : (P.info? ty).map (·.size) = some cs.size) :
    (results fn tmps).run P w = .ok (.tuple #[.agg cs, tmps.getD u undef, tmps.getD u2 undef, tmps.getD u3 undef]) w := by
  simp only [results, h]
  simp [Sem.run_bind, Result.andThen, asAddr]
  rw [← Array.getD_eq_getD_getElem?, hp]
  simp [run_loadVar_row w g t ty cs fr d hg hu hd hi]
theorem belC {B : Nat} {w w' : World} {b o : Nat} {x : Option Value} (h : Below B w w') (e : w.cell? ⟨b, o, none⟩ = x) (hb : b < B) : w'.cell? ⟨b, o, none⟩ = x := (h.cell (p := ⟨b, o, none⟩) hb).trans e







end Go.Proofs.YtidlifijgooceaaGreat

/- the draws of run paths, and of a program with loans and a point. -/
namespace Go.Proofs.YtidlifijgooceaaGreat
open Go.RowKit

def ChRet (w : World) (g p : Nat) (e : Ending) (w' : World) : Prop :=
  ∃ (v : Value) (cs : List Int) (p' : Nat), e = .returned v ∧ IntX w' (fun b => w.heap.size ≤ b) v cs ∧ cs.length ≤ 8 ∧ p' ≤ p + 9 ∧ Dr w' g p' ∧ w.grownBy w' (some g)
def RpRet (w : World) (e : Ending) (w' : World) : Prop :=
  ∃ (At Ab : Option Addr) (nt ct nb cb : Nat) (vc : Value) (cs : List Int) (x : Int), e = .returned (.tuple #[.agg #[.slice At nt ct, .slice Ab nb cb], vc, .int .i64 x]) ∧ IntX w' (fun b => w.heap.size ≤ b) vc cs ∧ cs.length ≤ 8 ∧ Below w.heap.size w w'
theorem Gb.toGrown {g : Nat} {w w' : World} (h : Gb w.heap.size g w w') : w.grownBy w' (some g) := ⟨h.os, h.tape, h.output, h.size, fun b hb hne => h.block b hb fun e => hne (by rw [e])⟩
theorem rp_close {w w3 W : World} {At Ab : Option Addr} {nt ct nb cb : Nat} {vc : Value} {cs : List Int} {x : Int} {lo : Nat} (h3 : Below w.heap.size w w3) (hW : w3.grownBy W (some w.heap.size)) (hT : IntX w3 (fun b => lo ≤ b) vc cs) (hlo : w.heap.size < lo) (hl : cs.length ≤ 8) :
    RpRet w (.returned (.tuple #[.agg #[.slice At nt ct, .slice Ab nb cb], vc, .int .i64 x])) W := by
  have hk : ∀ b, lo ≤ b → b < w3.heap.size → w.heap.size ≤ b ∧ W.heap[b]? = w3.heap[b]? := fun b hb hl => ⟨by omega, hW.block b hl (fun e => by injection e with e; omega)⟩
  exact ⟨At, Ab, nt, ct, nb, cb, vc, cs, x, rfl, hT.frame hW.size hk, hl, grown_new h3 (Nat.le_refl _) hW⟩

set_option maxHeartbeats 4000000
set_option maxRecDepth 100000


theorem l4Place_any (A : Option Addr) (n c : Nat) (w : World) (hb : Byt w w.heap.size A n) (hn : n ≤ 1048576) (hc : n ≤ c) :
    Calls Tryz.prog 18 #[.slice A n c] w (PlRet w) := by
  have HB := Lib.hid hb
  clear hb
  go_enter Tryz.func18, Tryz.ntmps18
  go_wp2_with fail
  have hA := bel_a w (.cells #[.slice none 0 0, .slice none 0 0] 26)
  have hsA : (w.alloc (.cells #[.slice none 0 0, .slice none 0 0] 26)).heap.size = w.heap.size + 1 := by simp
  refine (l17Open_any A n c _ (by rw [hsA]; exact (HB.out.keep fun b o hb => hA.cell (p := ⟨b, o, none⟩) hb).more (by omega)) hn hc).mono ?_
  rw [hsA]
  rintro e w1 ⟨rfl, hd1, hb1⟩
  have hb1' : Below (w.alloc (.cells #[.slice none 0 0, .slice none 0 0] 26)).heap.size (w.alloc (.cells #[.slice none 0 0, .slice none 0 0] 26)) w1 := by rw [hsA]; exact hb1
  have hs1 : w.heap.size + 1 < w1.heap.size := hd1.lt
  have HR1 := Lib.hid (row_below (heap_alloc_new w (.cells #[.slice none 0 0, .slice none 0 0] 26)) hb1')
  have HB1 := Lib.hid (hA.trans (hb1.mono (by omega)))
  have HD1 := Lib.hid hd1
  clear hb1 hb1' hd1 hA hsA
  go_wp2_with fail
  refine (l1Draw_any (w.heap.size + 1) 0 _ HD1.out (by omega)).mono ?_
  rintro e wd ⟨vt0, vb0, ts0, l0, p0, rfl, hit0, hst0, hts0, hsz0, hp0, hd0, hg0⟩
  have hs0 := hg0.size
  have HD0 := Lib.hid hd0
  have HG0 := Lib.hid hg0
  have HIT0 := Lib.hid hit0
  have HST0 := Lib.hid hst0
  clear hit0 hst0 hd0 hg0
  go_wp2_with fail
  refine (mutate_any (w.heap.size + 1) p0 _ _ ts0 l0 _ _ HIT0.out.toS HST0.out.toS (Nat.le_refl _) hts0 hsz0 HD0.out (by omega)).mono ?_
  rintro e w2 ⟨vt, vb, ts, l, p2, rfl, hit', hst', hts, hsz, hp2, hd2, hg2'⟩
  have hg2 := grown_tr HG0.out hg2'
  have hit := hit'.frame (P' := fun b => w1.heap.size ≤ b) (Nat.le_refl _) fun b hb _ => ⟨by have hb' : wd.heap.size ≤ b := hb; show w1.heap.size ≤ b; omega, rfl⟩
  have hst := hst'.frame (P' := fun b => w1.heap.size ≤ b) (Nat.le_refl _) fun b hb _ => ⟨by have hb' : wd.heap.size ≤ b := hb; show w1.heap.size ≤ b; omega, rfl⟩
  clear hit' hst' hg2'
  have hs2 := hg2.size
  have hA2 := bel_a w2 (.cells #[vt, vb] 26)
  have hsW : (w2.alloc (.cells #[vt, vb] 26)).heap.size = w2.heap.size + 1 := by simp
  have HR2 := Lib.hid (row_below (row_grown HR1.out hg2 (by omega)) hA2)
  have HRP := Lib.hid (heap_alloc_new w2 (.cells #[vt, vb] 26))
  have HD2 := Lib.hid (hd2.low hA2 (by omega))
  have HB2 := Lib.hid ((grown_new HB1.out (by omega) hg2).trans (hA2.mono (by omega)))
  have HIT := Lib.hid (hit.bel hA2)
  have HST := Lib.hid (hst.bel hA2)
  obtain ⟨At, ct, rfl, -⟩ := hit.slice
  obtain ⟨Ab, cb, rfl, -⟩ := hst.slice
  clear hit hst hd2 hg2 hA2
  go_wp2_with fail
  generalize w2.alloc (.cells #[.slice At ts.length ct, .slice Ab l.length cb] 26) = W2 at *
  refine (sPointsOf_any _ _ ts l _ _ HIT.out.toS HST.out.toS (Nat.le_refl _) (by omega)).mono ?_
  rintro e w3 ⟨vp, rfl, hps, hb3⟩
  obtain ⟨Ap, cp, rfl, hcp, hpl⟩ := hps.slice
  have hs3 := hb3.size
  have HR3 := Lib.hid (row_below HR2.out hb3)
  have HRP3 := Lib.hid (row_below HRP.out hb3)
  have HD3 := Lib.hid (HD2.out.low hb3 (by omega))
  have HB3 := Lib.hid (HB2.out.trans (hb3.mono (by omega)))
  have HIT3 := Lib.hid (HIT.out.bel hb3)
  have HST3 := Lib.hid (HST.out.bel hb3)
  obtain ⟨np, hnp⟩ : ∃ np, np = (pointsP ts l).length := ⟨_, rfl⟩
  rw [← hnp] at hcp hpl ⊢
  have hnp61 : np ≤ 61 := by
    rw [hnp]; unfold pointsP
    split
    · rename_i hv; exact ptsP_le hv
    · simp
  clear hps hb3 hnp
  have hw2 : w.heap.size < w2.heap.size := by omega
  have q0 : w3.cell? ⟨w2.heap.size, 0, none⟩ = some (.slice At ts.length ct) := by rw [cell_of_row _ _ _ _ _ _ HRP3.out]; rfl
  have q1 : w3.cell? ⟨w2.heap.size, 1, none⟩ = some (.slice Ab l.length cb) := by rw [cell_of_row _ _ _ _ _ _ HRP3.out]; rfl
  by_cases hz : np = 0
  · have hz1 : ((np : Int) == 0) = true := by simp [hz]
    clear hz
    go_wp2_with fail
    have CN : Calls Tryz.prog 52 #[.pointer (some ⟨w.heap.size + 1, 0, none⟩), .slice (some ⟨w3.heap.size, 0, none⟩) 3 3] (w3.alloc (.cells #[.int .i64 (-1), .int .i64 60, .int .i64 0] 3)).drew (fun e w' => ∃ x : Int, e = .returned (.int .i64 x) ∧ x ∈ [-1, 60, 0] ∧ Dr w' (w.heap.size + 1) (p2 + 1) ∧ (w3.alloc (.cells #[.int .i64 (-1), .int .i64 60, .int .i64 0] 3)).drew.grownBy w' (some (w.heap.size + 1))) :=
      num_any (w.heap.size + 1) _ _ [-1, 60, 0] 3 _ (HD3.out.low ((bel_a w3 (.cells #[.int .i64 (-1), .int .i64 60, .int .i64 0] 3)).drew) (by omega)) (by omega) (RowB.new w3 _ _) (by omega) (by simp) (by simp)
    have HCN := Lib.hid CN
    have HWA := Lib.hid (bel_a w3 (.cells #[.int .i64 (-1), .int .i64 60, .int .i64 0] 3)).drew
    have HSW := Lib.hid (show (w3.alloc (.cells #[.int .i64 (-1), .int .i64 60, .int .i64 0] 3)).drew.heap.size = w3.heap.size + 1 by simp)
    clear CN
    go_region_held3 (fun w' => w'.cell? ⟨w2.heap.size, 0, none⟩ = some (.slice At ts.length ct) ∧ w'.cell? ⟨w2.heap.size, 1, none⟩ = some (.slice Ab l.length cb))
      (first | exact ⟨q0, q1⟩ | exact ⟨q07, q17⟩ | exact Q9.out | assumption | go_keep)
      (first
        | (go_at_call 52; (with_reducible refine HCN.out.mono ?_); (rintro e w7 ⟨x, rfl, hx, hd7, hg7⟩); (have hs7 := hg7.size); (rw [HSW.out] at hs7); (have hr7 := row_grown (row_below HR3.out HWA.out) hg7 (by omega)); (have hrp7 := row_grown (row_below HRP3.out HWA.out) hg7 (by omega)); (have q07 : w7.cell? ⟨w2.heap.size, 0, none⟩ = some (.slice At ts.length ct) := by (rw [cell_of_row _ _ _ _ _ _ hrp7]; rfl)); (have q17 : w7.cell? ⟨w2.heap.size, 1, none⟩ = some (.slice Ab l.length cb) := by (rw [cell_of_row _ _ _ _ _ _ hrp7]; rfl)); (have z07 : w7.cell? ⟨w.heap.size, 0, none⟩ = some (.slice none 0 0) := by (rw [cell_of_row _ _ _ _ _ _ hr7]; rfl)); (have z17 : w7.cell? ⟨w.heap.size, 1, none⟩ = some (.slice none 0 0) := by (rw [cell_of_row _ _ _ _ _ _ hr7]; rfl)); (have zf07 := frozen_of_row w7 w.heap.size 0 _ _ hr7); (have zf17 := frozen_of_row w7 w.heap.size 1 _ _ hr7); (have HR9 := Lib.hid hr7); (have HG9 := Lib.hid hg7); (have Q9 := Lib.hid (pl_set (Ne.symm (Nat.ne_of_lt hw2)) q07 q17 (.slice At ts.length ct) (.slice Ab l.length cb))); clear hx hd7 hg7 hr7 hrp7)
        | fail)
    have HB9 := Lib.hid (grown_new (HB3.out.trans (HWA.out.mono HB3.out.size)) (by omega) HG9.out)
    have HIT9 := Lib.hid (((HIT3.out.bel HWA.out).grown HG9.out (by show ¬ (w1.heap.size ≤ w.heap.size + 1); omega)))
    have HST9 := Lib.hid (((HST3.out.bel HWA.out).grown HG9.out (by show ¬ (w1.heap.size ≤ w.heap.size + 1); omega)))
    go_wp2_with fail
    refine bodyPost_ret (res_box (u := 3) rfl _ _ w.heap.size 26 _ (0, 0) _ rfl (box2 HR9.out _ _).1 Tryz.underlying26 rfl rfl) rfl ?_
    exact (pl_close (a := x) HB9.out (box2 HR9.out _ _).2 HIT9.out HST9.out (by omega) hts hsz)

  · have hz1 : ((np : Int) == 0) = false := by simpa using hz
    have hz2 : 0 < np := by omega
    clear hz
    go_wp2_with fail
    refine (pick_any (w.heap.size + 1) p2 _ _ HD3.out (by omega) (by omega) (by omega)).mono ?_
    rintro e w4 ⟨k, rfl, -, -, hd4, hg4⟩
    have hs4 := hg4.size
    have HR4 := Lib.hid (row_grown HR3.out hg4 (by omega))
    have HRP4 := Lib.hid (row_grown HRP3.out hg4 (by omega))
    have HD4 := Lib.hid hd4
    have HB4 := Lib.hid (grown_new HB3.out (by omega) hg4)
    have HIT4 := Lib.hid (HIT3.out.grown hg4 (by show ¬ (w1.heap.size ≤ w.heap.size + 1); omega))
    have HST4 := Lib.hid (HST3.out.grown hg4 (by show ¬ (w1.heap.size ≤ w.heap.size + 1); omega))
    clear hd4 hg4 q0 q1
    have q0 : w4.cell? ⟨w2.heap.size, 0, none⟩ = some (.slice At ts.length ct) := by rw [cell_of_row _ _ _ _ _ _ HRP4.out]; rfl
    have q1 : w4.cell? ⟨w2.heap.size, 1, none⟩ = some (.slice Ab l.length cb) := by rw [cell_of_row _ _ _ _ _ _ HRP4.out]; rfl
    by_cases hk : k = 0
    · subst hk
      go_wp2_with fail
      have CN : Calls Tryz.prog 52 #[.pointer (some ⟨w.heap.size + 1, 0, none⟩), .slice (some ⟨w4.heap.size, 0, none⟩) 3 3] (w4.alloc (.cells #[.int .i64 (-1), .int .i64 60, .int .i64 0] 3)).drew (fun e w' => ∃ x : Int, e = .returned (.int .i64 x) ∧ x ∈ [-1, 60, 0] ∧ Dr w' (w.heap.size + 1) ((p2 + 1) + 1) ∧ (w4.alloc (.cells #[.int .i64 (-1), .int .i64 60, .int .i64 0] 3)).drew.grownBy w' (some (w.heap.size + 1))) :=
        num_any (w.heap.size + 1) _ _ [-1, 60, 0] 3 _ (HD4.out.low ((bel_a w4 (.cells #[.int .i64 (-1), .int .i64 60, .int .i64 0] 3)).drew) (by omega)) (by omega) (RowB.new w4 _ _) (by omega) (by simp) (by simp)
      have HCN := Lib.hid CN
      have HWA := Lib.hid (bel_a w4 (.cells #[.int .i64 (-1), .int .i64 60, .int .i64 0] 3)).drew
      have HSW := Lib.hid (show (w4.alloc (.cells #[.int .i64 (-1), .int .i64 60, .int .i64 0] 3)).drew.heap.size = w4.heap.size + 1 by simp)
      clear CN
      go_region_held3 (fun w' => w'.cell? ⟨w2.heap.size, 0, none⟩ = some (.slice At ts.length ct) ∧ w'.cell? ⟨w2.heap.size, 1, none⟩ = some (.slice Ab l.length cb))
        (first | exact ⟨q0, q1⟩ | exact ⟨q07, q17⟩ | exact Q9.out | assumption | go_keep)
        (first
          | (go_at_call 52; (with_reducible refine HCN.out.mono ?_); (rintro e w7 ⟨x, rfl, hx, hd7, hg7⟩); (have hs7 := hg7.size); (rw [HSW.out] at hs7); (have hr7 := row_grown (row_below HR4.out HWA.out) hg7 (by omega)); (have hrp7 := row_grown (row_below HRP4.out HWA.out) hg7 (by omega)); (have q07 : w7.cell? ⟨w2.heap.size, 0, none⟩ = some (.slice At ts.length ct) := by (rw [cell_of_row _ _ _ _ _ _ hrp7]; rfl)); (have q17 : w7.cell? ⟨w2.heap.size, 1, none⟩ = some (.slice Ab l.length cb) := by (rw [cell_of_row _ _ _ _ _ _ hrp7]; rfl)); (have z07 : w7.cell? ⟨w.heap.size, 0, none⟩ = some (.slice none 0 0) := by (rw [cell_of_row _ _ _ _ _ _ hr7]; rfl)); (have z17 : w7.cell? ⟨w.heap.size, 1, none⟩ = some (.slice none 0 0) := by (rw [cell_of_row _ _ _ _ _ _ hr7]; rfl)); (have zf07 := frozen_of_row w7 w.heap.size 0 _ _ hr7); (have zf17 := frozen_of_row w7 w.heap.size 1 _ _ hr7); (have HR9 := Lib.hid hr7); (have HG9 := Lib.hid hg7); (have Q9 := Lib.hid (pl_set (Ne.symm (Nat.ne_of_lt hw2)) q07 q17 (.slice At ts.length ct) (.slice Ab l.length cb))); clear hx hd7 hg7 hr7 hrp7)
          | fail)
      have HB9 := Lib.hid (grown_new (HB4.out.trans (HWA.out.mono HB4.out.size)) (by omega) HG9.out)
      have HIT9 := Lib.hid (((HIT4.out.bel HWA.out).grown HG9.out (by show ¬ (w1.heap.size ≤ w.heap.size + 1); omega)))
      have HST9 := Lib.hid (((HST4.out.bel HWA.out).grown HG9.out (by show ¬ (w1.heap.size ≤ w.heap.size + 1); omega)))
      go_wp2_with fail
      refine bodyPost_ret (res_box (u := 3) rfl _ _ w.heap.size 26 _ (0, 0) _ rfl (box2 HR9.out _ _).1 Tryz.underlying26 rfl rfl) rfl ?_
      exact (pl_close (a := x) HB9.out (box2 HR9.out _ _).2 HIT9.out HST9.out (by omega) hts hsz)

    · have hk1 : (k == 0) = false := by simpa using hk
      clear hk
      go_wp2_with fail
      have HCN := Lib.hid (pick_any (w.heap.size + 1) (p2 + 1) ((np : Nat) : Int) w4.drew (HD4.out.low (Below.refl _ _).drew (by omega)) (by omega) (by omega) (by omega))
      have HWA := Lib.hid ((Below.refl w4.heap.size w4).drew)
      have HSW := Lib.hid (show w4.drew.heap.size = w4.heap.size by simp)
      go_region_held3 (fun w' => w'.cell? ⟨w2.heap.size, 0, none⟩ = some (.slice At ts.length ct) ∧ w'.cell? ⟨w2.heap.size, 1, none⟩ = some (.slice Ab l.length cb))
        (first | exact ⟨q0, q1⟩ | exact ⟨q07, q17⟩ | exact Q9.out | assumption | go_keep)
        (first
          | (go_at_call 51; (with_reducible refine HCN.out.mono ?_); (rintro e w7 ⟨x, rfl, -, -, hd7, hg7⟩); (have hs7 := hg7.size); (rw [HSW.out] at hs7); (have hr7 := row_grown (row_below HR4.out HWA.out) hg7 (by omega)); (have hrp7 := row_grown (row_below HRP4.out HWA.out) hg7 (by omega)); (have q07 : w7.cell? ⟨w2.heap.size, 0, none⟩ = some (.slice At ts.length ct) := by (rw [cell_of_row _ _ _ _ _ _ hrp7]; rfl)); (have q17 : w7.cell? ⟨w2.heap.size, 1, none⟩ = some (.slice Ab l.length cb) := by (rw [cell_of_row _ _ _ _ _ _ hrp7]; rfl)); (have z07 : w7.cell? ⟨w.heap.size, 0, none⟩ = some (.slice none 0 0) := by (rw [cell_of_row _ _ _ _ _ _ hr7]; rfl)); (have z17 : w7.cell? ⟨w.heap.size, 1, none⟩ = some (.slice none 0 0) := by (rw [cell_of_row _ _ _ _ _ _ hr7]; rfl)); (have zf07 := frozen_of_row w7 w.heap.size 0 _ _ hr7); (have zf17 := frozen_of_row w7 w.heap.size 1 _ _ hr7); (have HR9 := Lib.hid hr7); (have HG9 := Lib.hid hg7); (have Q9 := Lib.hid (pl_set (Ne.symm (Nat.ne_of_lt hw2)) q07 q17 (.slice At ts.length ct) (.slice Ab l.length cb))); clear hd7 hg7 hr7 hrp7)
          | fail)
      have HB9 := Lib.hid (grown_new (HB4.out.trans (HWA.out.mono HB4.out.size)) (by omega) HG9.out)
      have HIT9 := Lib.hid (((HIT4.out.bel HWA.out).grown HG9.out (by show ¬ (w1.heap.size ≤ w.heap.size + 1); omega)))
      have HST9 := Lib.hid (((HST4.out.bel HWA.out).grown HG9.out (by show ¬ (w1.heap.size ≤ w.heap.size + 1); omega)))
      go_wp2_with fail
      refine bodyPost_ret (res_box (u := 3) rfl _ _ w.heap.size 26 _ (0, 0) _ rfl (box2 HR9.out _ _).1 Tryz.underlying26 rfl rfl) rfl ?_
      exact (pl_close (a := x) HB9.out (box2 HR9.out _ _).2 HIT9.out HST9.out (by omega) hts hsz)




end Go.Proofs.YtidlifijgooceaaGreat

/- the draws of placed and live loans, and of the loans in a variable. -/
namespace Go.Proofs.YtidlifijgooceaaGreat
open Go.RowKit



set_option maxHeartbeats 4000000 in
set_option maxRecDepth 100000 in
theorem drawConflictsAt_any (A : Option Addr) (n c : Nat) (w : World) (hb : Byt w w.heap.size A n) (hn : n ≤ 1048576) (hc : n ≤ c) :
    Calls Tryz.prog 6 #[.slice A n c] w (PlRet w) := by
  have HB := Lib.hid hb
  clear hb
  go_enter Tryz.func6, Tryz.ntmps6
  go_wp2_with fail
  have hA := bel_a w (.cells #[.slice none 0 0, .slice none 0 0] 26)
  have hsA : (w.alloc (.cells #[.slice none 0 0, .slice none 0 0] 26)).heap.size = w.heap.size + 1 := by simp
  refine (l4Place_any A n c _ (by rw [hsA]; exact (HB.out.keep fun b o hb => hA.cell (p := ⟨b, o, none⟩) hb).more (by omega)) hn hc).mono ?_
  rintro e w1 ⟨vt, vb, ts, l, a, rfl, hit, hst, hts, hsz, hb1⟩
  rw [hsA] at hit hst
  have HR1 := Lib.hid (row_below (heap_alloc_new w (.cells #[.slice none 0 0, .slice none 0 0] 26)) hb1)
  have HB1 := Lib.hid (hA.trans (hb1.mono (by omega)))
  have hs1 : w.heap.size + 1 ≤ w1.heap.size := by rw [← hsA]; exact hb1.size
  have HIT := Lib.hid hit
  have HST := Lib.hid hst
  obtain ⟨At, ct, rfl, -⟩ := hit.slice
  obtain ⟨Ab, cb, rfl, -⟩ := hst.slice
  clear hb1 hA hsA hit hst
  have z0 : w1.cell? ⟨w.heap.size, 0, none⟩ = some (.slice none 0 0) := by rw [cell_of_row _ _ _ _ _ _ HR1.out]; rfl
  have z1 : w1.cell? ⟨w.heap.size, 1, none⟩ = some (.slice none 0 0) := by rw [cell_of_row _ _ _ _ _ _ HR1.out]; rfl
  have zf0 := frozen_of_row w1 w.heap.size 0 _ _ HR1.out
  have zf1 := frozen_of_row w1 w.heap.size 1 _ _ HR1.out
  go_wp2_with fail
  refine bodyPost_ret (res_box (u := 3) rfl _ _ w.heap.size 26 _ (0, 0) _ rfl (box2 HR1.out _ _).1 Tryz.underlying26 rfl rfl) rfl ?_
  have HE := DsE.mk' HB1.out (box2 HR1.out (.slice At ts.length ct) (.slice Ab l.length cb)).2 HIT.out HST.out (by omega)
  exact ⟨_, _, ts, l, a, rfl, HE.ht, HE.hl, hts, hsz, HE.bel⟩


end Go.Proofs.YtidlifijgooceaaGreat

/- Plain: what flows into variables along points (cells, numbers, setters, loans), as a least set. No program in sight. -/
namespace Go.Proofs.YtidlifijgooceaaGreat

/-- the sum of f below n -/
def sumN : Nat → (Nat → Nat) → Nat
  | 0, _ => 0
  | n + 1, f => sumN n f + f n
theorem sumN_le {n : Nat} {f g : Nat → Nat} (h : ∀ i, i < n → f i ≤ g i) : sumN n f ≤ sumN n g := by
  induction n with
  | zero => exact Nat.le_refl _
  | succ n ih => have := ih fun i hi => h i (by omega); have := h n (by omega); simp only [sumN]; omega
theorem sumN_lt {n k : Nat} {f g : Nat → Nat} (h : ∀ i, i < n → f i ≤ g i) (hk : k < n) (hlt : f k < g k) : sumN n f < sumN n g := by
  induction n with
  | zero => omega
  | succ n ih =>
    have h1 := h n (by omega)
    have h2 := sumN_le (n := n) (f := f) (g := g) fun i hi => h i (by omega)
    simp only [sumN]
    by_cases e : k = n
    · subst e; omega
    · have := ih (fun i hi => h i (by omega)) (by omega); omega
/-- how many entries are no -/
def muB (n m s : Nat) (st : Nat → Nat → Nat → Bool) : Nat := sumN n fun i => sumN m fun v => sumN s fun e => if st i v e then 0 else 1
theorem one_le {a b : Bool} (h : a = true → b = true) : (if b then 0 else 1) ≤ (if a then 0 else 1) := by
  cases a <;> cases b <;> simp at h ⊢
theorem muB_le {n m s : Nat} {st st' : Nat → Nat → Nat → Bool} (h : ∀ i v e, st i v e = true → st' i v e = true) : muB n m s st' ≤ muB n m s st :=
  sumN_le fun i _ => sumN_le fun v _ => sumN_le fun e _ => one_le (h i v e)
theorem muB_lt {n m s i v e : Nat} {st st' : Nat → Nat → Nat → Bool} (h : ∀ i v e, st i v e = true → st' i v e = true) (hi : i < n) (hv : v < m) (he : e < s) (h0 : st i v e = false) (h1 : st' i v e = true) : muB n m s st' < muB n m s st :=
  sumN_lt (fun i _ => sumN_le fun v _ => sumN_le fun e _ => one_le (h i v e)) hi
    (sumN_lt (fun v _ => sumN_le fun e _ => one_le (h i v e)) hv (sumN_lt (fun e _ => one_le (h i v e)) he (by rw [h0, h1]; decide)))

/-- what v has behind point i (p), where b says what there is before it -/
def aftB (ts : List Int) (G : Nat → Pt → Nat → Bool) (C : Pt → Bool) (i : Nat) (p : Pt) (b : Nat → Nat → Bool) (v e : Nat) : Bool :=
  if setsP p.op p.x = (v : Int) then G i p e || (C p && b p.y.toNat e) else b v e && !(useP ts p.op p.x p.y (v : Int) == 2)
/-- what v has before a point -/
inductive Fl (ts : List Int) (pts : List Pt) (G : Nat → Pt → Nat → Bool) (C : Pt → Bool) : Nat → Nat → Nat → Prop
  | gen {i k v e : Nat} {p : Pt} (hp : pts[i]? = some p) (hk : k ∈ p.next) (hv : v < ts.length) (hs : setsP p.op p.x = (v : Int)) (h : G i p e = true) : Fl ts pts G C k v e
  | copy {i k v e : Nat} {p : Pt} (hp : pts[i]? = some p) (hk : k ∈ p.next) (hv : v < ts.length) (hs : setsP p.op p.x = (v : Int)) (hc : C p = true) (hi : Fl ts pts G C i p.y.toNat e) : Fl ts pts G C k v e
  | keep {i k v e : Nat} {p : Pt} (hp : pts[i]? = some p) (hk : k ∈ p.next) (hv : v < ts.length) (hs : setsP p.op p.x ≠ (v : Int)) (ht : useP ts p.op p.x p.y (v : Int) ≠ 2) (hi : Fl ts pts G C i v e) : Fl ts pts G C k v e
theorem Fl.lt {ts : List Int} {pts : List Pt} {G : Nat → Pt → Nat → Bool} {C : Pt → Bool} {i v e : Nat} (h : Fl ts pts G C i v e) : v < ts.length := by
  cases h <;> assumption
theorem Fl.in_ {ts : List Int} {pts : List Pt} {G : Nat → Pt → Nat → Bool} {C : Pt → Bool} {i v e : Nat} (h : Fl ts pts G C i v e) (hn : ∀ p ∈ pts, ∀ k ∈ p.next, k < pts.length) : i < pts.length := by
  cases h with
  | gen hp hk => exact hn _ (List.mem_of_getElem? hp) _ hk
  | copy hp hk => exact hn _ (List.mem_of_getElem? hp) _ hk
  | keep hp hk => exact hn _ (List.mem_of_getElem? hp) _ hk
theorem Fl.size {ts : List Int} {pts : List Pt} {G : Nat → Pt → Nat → Bool} {C : Pt → Bool} {s i v e : Nat} (h : Fl ts pts G C i v e) (hg : ∀ i p e, pts[i]? = some p → G i p e = true → e < s) : e < s := by
  induction h with
  | gen hp _ _ _ h => exact hg _ _ _ hp h
  | copy _ _ _ _ _ _ ih => exact ih
  | keep _ _ _ _ _ _ ih => exact ih
/-- one step goes on being right -/
theorem Fl.aft {ts : List Int} {pts : List Pt} {G : Nat → Pt → Nat → Bool} {C : Pt → Bool} {b : Nat → Nat → Bool} {i k v e : Nat} {p : Pt} (hb : ∀ v e, b v e = true → Fl ts pts G C i v e) (hp : pts[i]? = some p) (hk : k ∈ p.next) (hv : v < ts.length) (h : aftB ts G C i p b v e = true) : Fl ts pts G C k v e := by
  unfold aftB at h
  split at h
  · rename_i hs
    rw [Bool.or_eq_true, Bool.and_eq_true] at h
    rcases h with h | ⟨hc, h⟩
    · exact .gen hp hk hv hs h
    · exact .copy hp hk hv hs hc (hb _ _ h)
  · rename_i hs
    rw [Bool.and_eq_true] at h
    exact .keep hp hk hv hs (by simpa using h.2) (hb _ _ h.1)
/-- where nothing is missing any more, all is there -/
theorem Fl.done {ts : List Int} {pts : List Pt} {G : Nat → Pt → Nat → Bool} {C : Pt → Bool} {st : Nat → Nat → Nat → Bool} {s : Nat} (hg : ∀ i p e, pts[i]? = some p → G i p e = true → e < s)
    (hc : ∀ i p k v e, pts[i]? = some p → k ∈ p.next → v < ts.length → e < s → aftB ts G C i p (st i) v e = true → st k v e = true) {i v e : Nat} (h : Fl ts pts G C i v e) : st i v e = true := by
  have hs := h.size hg
  induction h with
  | gen hp hk hv hs' h => exact hc _ _ _ _ _ hp hk hv hs (by unfold aftB; rw [if_pos hs', h]; rfl)
  | copy hp hk hv hs' hc' _ ih => exact hc _ _ _ _ _ hp hk hv hs (by unfold aftB; rw [if_pos hs', hc', ih hs]; simp)
  | keep hp hk hv hs' ht _ ih => exact hc _ _ _ _ _ hp hk hv hs (by unfold aftB; rw [if_neg hs', ih hs]; simpa using ht)

def Gcell (i : Nat) (p : Pt) (e : Nat) : Bool := p.op == 2 && e == i
def Ccell (p : Pt) : Bool := p.op == 3 || p.op == 4 || p.op == 5
def Gnum (_ : Nat) (p : Pt) (e : Nat) : Bool := (p.op == 1 && p.n == (e : Int)) || (p.op == 6 && decide (e < 10))
def Cnum (p : Pt) : Bool := p.op == 3
def Gset (i : Nat) (_ : Pt) (e : Nat) : Bool := e == i
def Cset (_ : Pt) : Bool := false
def Gloan (i : Nat) (p : Pt) (e : Nat) : Bool := (p.op == 4 || p.op == 5) && e == i
def Cloan (ts : List Int) (p : Pt) : Bool := p.op == 3 || ((p.op == 4 || p.op == 5) && isRefP (typeOfP ts p.y))

end Go.Proofs.YtidlifijgooceaaGreat

/- Plain: runs with choices. No program in sight. -/
namespace Go.Proofs.YtidlifijgooceaaGreat

/-- the point that comes next, the choices that are left -/
def stepP (p : Pt) (cs : List Int) : Nat := if p.next.length = 2 then (if (cs.headD 1) % 2 = 0 then p.next.getD 0 0 else p.next.getD 1 0) else p.next.getD 0 0
def restP (p : Pt) (cs : List Int) : List Int := if p.next.length = 2 then cs.drop 1 else cs
def ptD (pts : List Pt) (k : Nat) : Pt := pts.getD k ⟨11, 0, 0, 0, []⟩
theorem ptD_get {pts : List Pt} {k : Nat} (hk : k < pts.length) : ptD pts k = pts[k] := getD_lt hk
/-- a run from a point on, with at most m points before the last one -/
def runF (pts : List Pt) : Nat → Nat → List Int → List Nat × Bool
  | 0, a, _ => if (ptD pts a).op = 11 then ([a], true) else ([], false)
  | m + 1, a, cs => if (ptD pts a).op = 11 then ([a], true) else (a :: (runF pts m (stepP (ptD pts a) cs) (restP (ptD pts a) cs)).1, (runF pts m (stepP (ptD pts a) cs) (restP (ptD pts a) cs)).2)
theorem runF_end {pts : List Pt} {m a : Nat} {cs : List Int} (h : (ptD pts a).op = 11) : runF pts m a cs = ([a], true) := by
  cases m <;> simp only [runF, h, if_true]
theorem runF_cut {pts : List Pt} {a : Nat} {cs : List Int} (h : (ptD pts a).op ≠ 11) : runF pts 0 a cs = ([], false) := by
  simp only [runF, if_neg h]
theorem runF_go {pts : List Pt} {m a : Nat} {cs : List Int} (h : (ptD pts a).op ≠ 11) : runF pts (m + 1) a cs = (a :: (runF pts m (stepP (ptD pts a) cs) (restP (ptD pts a) cs)).1, (runF pts m (stepP (ptD pts a) cs) (restP (ptD pts a) cs)).2) := by
  simp only [runF, if_neg h]
theorem runF_len (pts : List Pt) (m a : Nat) (cs : List Int) : (runF pts m a cs).1.length ≤ m + 1 := by
  induction m generalizing a cs with
  | zero => simp only [runF]; split <;> simp
  | succ m ih =>
    simp only [runF]
    split
    · simp
    · have := ih (stepP (ptD pts a) cs) (restP (ptD pts a) cs); simp only [List.length_cons]; omega
theorem stepP_mem {p : Pt} (cs : List Int) (h1 : 1 ≤ p.next.length) : stepP p cs ∈ p.next := by
  unfold stepP
  repeat' split
  all_goals (rw [getD_lt (by omega)]; exact List.getElem_mem _)
/-- a run goes from point to next point -/
structure IsRun (pts : List Pt) (a : Nat) (r : List Nat) : Prop where
  inn : ∀ i, i < r.length → r.getD i 0 < pts.length
  edge : ∀ i, i + 1 < r.length → ∃ p, pts[r.getD i 0]? = some p ∧ r.getD (i + 1) 0 ∈ p.next
  first : 0 < r.length → r.getD 0 0 = a
theorem runF_run {pts : List Pt} (hn : ∀ p ∈ pts, ∀ k ∈ p.next, k < pts.length) (h1 : ∀ p ∈ pts, p.op ≠ 11 → 1 ≤ p.next.length) (m a : Nat) (cs : List Int) (ha : a < pts.length) : IsRun pts a (runF pts m a cs).1 := by
  have one : IsRun pts a [a] := ⟨fun i hi => by have : i = 0 := by simpa using hi
                                                subst this; exact ha, fun i hi => by simp at hi, fun _ => rfl⟩
  induction m generalizing a cs with
  | zero =>
    simp only [runF]
    split
    · exact one
    · exact ⟨fun i hi => by simp at hi, fun i hi => by simp at hi, fun h => by simp at h⟩
  | succ m ih =>
    simp only [runF]
    split
    · exact one
    · rename_i hop
      rw [ptD_get ha] at hop ⊢
      have hmem := stepP_mem cs (h1 _ (List.getElem_mem ha) hop)
      have hlt := hn _ (List.getElem_mem ha) _ hmem
      have hr := ih (stepP pts[a] cs) (restP pts[a] cs) hlt
        ⟨fun i hi => by have : i = 0 := by simpa using hi
                        subst this; exact hlt, fun i hi => by simp at hi, fun _ => rfl⟩
      generalize (runF pts m (stepP pts[a] cs) (restP pts[a] cs)).1 = r at *
      refine ⟨fun i hi => ?_, fun i hi => ?_, fun _ => rfl⟩
      · cases i with
        | zero => exact ha
        | succ i => exact hr.inn i (by simpa using hi)
      · cases i with
        | zero =>
          refine ⟨pts[a], List.getElem?_eq_getElem ha, ?_⟩
          show r.getD 0 0 ∈ _
          rw [hr.first (by simpa using hi)]
          exact hmem
        | succ i => exact hr.edge i (by simpa using hi)
theorem ptsP_next1 (l : List St) : ∀ p ∈ ptsP l, p.op ≠ 11 → 1 ≤ p.next.length := by
  intro p hp ho
  simp only [ptsP, List.mem_append, List.mem_singleton] at hp
  rcases hp with hp | rfl
  · exact (ptsL_next 0 l p hp).2.1
  · exact absurd rfl ho

end Go.Proofs.YtidlifijgooceaaGreat

/- Plain: which points lead to which. No program in sight. -/
namespace Go.Proofs.YtidlifijgooceaaGreat

/-- a leads to b in one step or more -/
inductive Lds (pts : List Pt) : Nat → Nat → Prop
  | one {a b : Nat} {p : Pt} (hp : pts[a]? = some p) (hb : b ∈ p.next) : Lds pts a b
  | more {a k b : Nat} {p : Pt} (hp : pts[a]? = some p) (hk : k ∈ p.next) (h : Lds pts k b) : Lds pts a b
theorem Lds.trans {pts : List Pt} {a b c : Nat} (h : Lds pts a b) (k : Lds pts b c) : Lds pts a c := by
  induction h with
  | one hp hb => exact .more hp hb k
  | more hp hk _ ih => exact .more hp hk (ih k)
theorem Lds.snoc {pts : List Pt} {a b c : Nat} {p : Pt} (h : Lds pts a b) (hp : pts[b]? = some p) (hc : c ∈ p.next) : Lds pts a c := h.trans (.one hp hc)
theorem Lds.in_ {pts : List Pt} {a b : Nat} (h : Lds pts a b) (hn : ∀ p ∈ pts, ∀ k ∈ p.next, k < pts.length) : b < pts.length := by
  induction h with
  | one hp hb => exact hn _ (List.mem_of_getElem? hp) _ hb
  | more _ _ _ ih => exact ih

theorem getD_setT {α : Type} {l : List α} {k i : Nat} {x d : α} (hk : k < l.length) : (l.set k x).getD i d = if i = k then x else l.getD i d := by
  by_cases h : i = k
  · subst h; simp [List.getD, hk]
  · simp [List.getD, h, Ne.symm h]
theorem count_set {fl : List Bool} {k : Nat} (hk : k < fl.length) (h : fl.getD k false = false) : (fl.set k true).count false + 1 = fl.count false := by
  induction fl generalizing k with
  | nil => simp at hk
  | cons b r ih =>
    cases k with
    | zero => simp at h; subst h; simp
    | succ k =>
      have := ih (k := k) (by simpa using hk) (by simpa using h)
      cases b <;> simp <;> omega
/-- the state of the search for what a leads to: marks, and the points that are still to be looked at -/
structure FrI (pts : List Pt) (a : Nat) (fl : List Bool) (q : List Nat) : Prop where
  len : fl.length = pts.length
  snd : ∀ k, fl.getD k false = true → Lds pts a k
  qok : ∀ k ∈ q, Lds pts a k ∧ k < pts.length
  st : ∀ p, pts[a]? = some p → ∀ k ∈ p.next, fl.getD k false = true ∨ k ∈ q
  cl : ∀ k p, fl.getD k false = true → pts[k]? = some p → ∀ j ∈ p.next, fl.getD j false = true ∨ j ∈ q
def muQ (fl : List Bool) (q : List Nat) : Nat := fl.count false * 3 + q.length
theorem FrI.init {pts : List Pt} {a : Nat} {p : Pt} (hp : pts[a]? = some p) (hn : ∀ p ∈ pts, ∀ k ∈ p.next, k < pts.length) : FrI pts a (List.replicate pts.length false) p.next := by
  have h0 : ∀ k, (List.replicate pts.length false).getD k false = false := fun k => by
    by_cases hk : k < pts.length
    · rw [getD_lt (by simpa using hk)]; simp
    · rw [getD_ge (by simpa using hk)]
  refine ⟨by simp, fun k hk => ?_, fun k hk => ⟨.one hp hk, hn _ (List.mem_of_getElem? hp) _ hk⟩, fun p' hp' k hk => ?_, fun k p' hk => ?_⟩
  · rw [h0] at hk; cases hk
  · rw [hp] at hp'; injection hp' with e; subst e; exact .inr hk
  · rw [h0] at hk; cases hk
theorem FrI.skip {pts : List Pt} {a k : Nat} {fl : List Bool} {r : List Nat} (h : FrI pts a fl (k :: r)) (hk : fl.getD k false = true) : FrI pts a fl r := by
  refine ⟨h.len, h.snd, fun j hj => h.qok j (List.mem_cons_of_mem _ hj), fun p hp j hj => ?_, fun i p hi hp j hj => ?_⟩
  · rcases h.st p hp j hj with h1 | h1
    · exact .inl h1
    · rcases List.mem_cons.1 h1 with rfl | h2
      · exact .inl hk
      · exact .inr h2
  · rcases h.cl i p hi hp j hj with h1 | h1
    · exact .inl h1
    · rcases List.mem_cons.1 h1 with rfl | h2
      · exact .inl hk
      · exact .inr h2
theorem FrI.mark {pts : List Pt} {a k : Nat} {fl : List Bool} {r : List Nat} {p : Pt} (h : FrI pts a fl (k :: r)) (hp : pts[k]? = some p) (hn : ∀ p ∈ pts, ∀ k ∈ p.next, k < pts.length) : FrI pts a (fl.set k true) (r ++ p.next) := by
  have hk := h.qok k List.mem_cons_self
  have hkl : k < fl.length := by rw [h.len]; exact hk.2
  have up : ∀ j, (fl.getD j false = true ∨ j ∈ k :: r) → ((fl.set k true).getD j false = true ∨ j ∈ r ++ p.next) := fun j hj => by
    rw [getD_setT hkl]
    by_cases e : j = k
    · rw [if_pos e]; exact .inl rfl
    · rw [if_neg e]
      rcases hj with h1 | h1
      · exact .inl h1
      · rcases List.mem_cons.1 h1 with h2 | h2
        · exact absurd h2 e
        · exact .inr (List.mem_append_left _ h2)
  refine ⟨by simp [h.len], fun j hj => ?_, fun j hj => ?_, fun p' hp' j hj => up j (h.st p' hp' j hj), fun i p' hi hp' j hj => ?_⟩
  · rw [getD_setT hkl] at hj
    split at hj
    · rename_i e; subst e; exact hk.1
    · exact h.snd j hj
  · rcases List.mem_append.1 hj with h1 | h1
    · exact h.qok j (List.mem_cons_of_mem _ h1)
    · exact ⟨hk.1.snoc hp h1, hn _ (List.mem_of_getElem? hp) _ h1⟩
  · rw [getD_setT hkl] at hi
    split at hi
    · rename_i e; subst e
      rw [hp] at hp'; injection hp' with e; subst e
      exact .inr (List.mem_append_right _ hj)
    · exact up j (h.cl i p' hi hp' j hj)
theorem FrI.done {pts : List Pt} {a : Nat} {fl : List Bool} (h : FrI pts a fl []) (k : Nat) : fl.getD k false = true ↔ Lds pts a k := by
  have cl : ∀ i k, fl.getD i false = true → Lds pts i k → fl.getD k false = true := fun i k hi hl => by
    induction hl with
    | one hp hb => exact (h.cl _ _ hi hp _ hb).resolve_right (by simp)
    | more hp hk _ ih => exact ih ((h.cl _ _ hi hp _ hk).resolve_right (by simp))
  refine ⟨h.snd k, fun hl => ?_⟩
  cases hl with
  | one hp hb => exact (h.st _ hp _ hb).resolve_right (by simp)
  | more hp hk hl => exact cl _ _ ((h.st _ hp _ hk).resolve_right (by simp)) hl
theorem muQ_skip {fl : List Bool} {k : Nat} {r : List Nat} : muQ fl r < muQ fl (k :: r) := by simp [muQ]
theorem muQ_mark {fl : List Bool} {k : Nat} {r nx : List Nat} (hk : k < fl.length) (h : fl.getD k false = false) (h2 : nx.length ≤ 2) : muQ (fl.set k true) (r ++ nx) < muQ fl (k :: r) := by
  have := count_set hk h
  simp only [muQ, List.length_append, List.length_cons]; omega

end Go.Proofs.YtidlifijgooceaaGreat
