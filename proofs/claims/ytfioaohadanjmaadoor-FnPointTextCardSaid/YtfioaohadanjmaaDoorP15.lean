import Derived.Test.YtfioaohadanjmaaDoorP14
import Derived.Test.YtfioaohadanjmaaDoorP06
import Derived.Deep.RegionHeld
import Derived.Below
import Derived.Deep.RegionHeld3
import Derived.Test.YtfioaohadanjmaaDoorP13
import Derived.Test.YtfioaohadanjmaaDoorP09
set_option linter.unusedVariables false

/- DrawNeedsOf, DrawTakesOf. -/
namespace Go.Proofs.YtfioaohadanjmaaDoor
open Go.RowKit

def DrRes (w : World) (e : Ending) (w' : World) : Prop :=
  ∃ (vt vb : Value) (ts : List Int) (l : List St), e = .returned (.agg #[vt, vb]) ∧ IntX w' (fun b => w.heap.size ≤ b) vt ts ∧ StX w' (fun b => w.heap.size ≤ b) vb l ∧ ts.length ≤ 700 ∧ szL l ≤ 100000 ∧ Below w.heap.size w w'
theorem grown_new {w a b : World} {g : Nat} (h : Below w.heap.size w a) (hg : w.heap.size ≤ g) (k : a.grownBy b (some g)) : Below w.heap.size w b :=
  ⟨k.os.trans h.os, k.tape.trans h.tape, k.output.trans h.output, Nat.le_trans h.size k.size, fun i hi => (k.block i (Nat.lt_of_lt_of_le hi h.size) (fun e => by injection e with e; omega)).trans (h.block i hi)⟩
end Go.Proofs.YtfioaohadanjmaaDoor

/- Plain: rows of bools that say what is live. No program in sight. -/
namespace Go.Proofs.YtfioaohadanjmaaDoor

def rget (rows : List (List Bool)) (i v : Nat) : Bool := (rows.getD i []).getD v false
def rset (rows : List (List Bool)) (i v : Nat) (b : Bool) : List (List Bool) := rows.set i ((rows.getD i []).set v b)
theorem getD_setL {α : Type} {l : List α} {i k : Nat} {d x : α} (hk : k < l.length) : (l.set k x).getD i d = if i = k then x else l.getD i d := by
  by_cases h : i = k
  · subst h; simp [List.getD, hk]
  · simp [List.getD, h, Ne.symm h]
theorem rget_rset {rows : List (List Bool)} {i v : Nat} {b : Bool} (hi : i < rows.length) (hv : v < (rows.getD i []).length) (j u : Nat) : rget (rset rows i v b) j u = if j = i ∧ u = v then b else rget rows j u := by
  unfold rget rset
  rw [getD_setL hi]
  by_cases hj : j = i
  · subst hj
    rw [if_pos rfl, getD_setL hv]
    by_cases hu : u = v
    · simp [hu]
    · simp [hu]
  · simp [hj]
theorem rset_len (rows : List (List Bool)) (i v : Nat) (b : Bool) : (rset rows i v b).length = rows.length := by simp [rset]
theorem rset_row {rows : List (List Bool)} {i v : Nat} {b : Bool} (hi : i < rows.length) (j : Nat) : ((rset rows i v b).getD j []).length = (rows.getD j []).length := by
  unfold rset
  rw [getD_setL hi]
  split
  · rename_i h; subst h; simp
  · rfl
/-- what is used at a point, or is live behind it and not set at it -/
def needB (ts : List Int) (q : Pt) (b : Bool) (v : Nat) : Bool := (useP ts q.op q.x q.y (v : Nat) != 0) || (b && decide (setsP q.op q.x ≠ (v : Nat)))
structure LvI (ts : List Int) (pts : List Pt) (rows : List (List Bool)) : Prop where
  len : rows.length = pts.length
  row : ∀ i, i < rows.length → (rows.getD i []).length = ts.length
  sound : ∀ i v, rget rows i v = true → ∃ p, pts[i]? = some p ∧ ∃ k ∈ p.next, Nd ts pts k v
theorem LvI.init (ts : List Int) (pts : List Pt) : LvI ts pts (List.replicate pts.length (List.replicate ts.length false)) := by
  have hr : ∀ i, i < pts.length → (List.replicate pts.length (List.replicate ts.length false)).getD i [] = List.replicate ts.length false := fun i hi => by
    rw [getD_lt (by simpa using hi)]; simp
  refine ⟨by simp, fun i hi => ?_, fun i v h => ?_⟩
  · rw [hr i (by simpa using hi)]; simp
  · exfalso
    unfold rget at h
    by_cases hi : i < pts.length
    · rw [hr i hi] at h
      by_cases hv : v < ts.length
      · rw [getD_lt (by simpa using hv)] at h; simp at h
      · rw [getD_ge (by simpa using hv)] at h; cases h
    · rw [getD_ge (l := List.replicate pts.length (List.replicate ts.length false)) (by simpa using hi)] at h; simp at h
theorem LvI.need {ts : List Int} {pts : List Pt} {rows : List (List Bool)} (h : LvI ts pts rows) {n v : Nat} {q : Pt} (hq : pts[n]? = some q) (hv : v < ts.length) (hn : needB ts q (rget rows n v) v = true) : Nd ts pts n v := by
  unfold needB at hn
  rw [Bool.or_eq_true, Bool.and_eq_true] at hn
  rcases hn with hn | ⟨hn, hs⟩
  · exact .use hq hv (by simpa using hn)
  · obtain ⟨p, hp, k, hk, hd⟩ := h.sound n v hn
    rw [hq] at hp; injection hp with hp; subst hp
    exact .flow hq hk hd (by simpa using hs)
theorem LvI.upd {ts : List Int} {pts : List Pt} {rows : List (List Bool)} (h : LvI ts pts rows) {i n v : Nat} {p q : Pt} (hp : pts[i]? = some p) (hn : n ∈ p.next) (hq : pts[n]? = some q) (hv : v < ts.length) (hi : i < rows.length) (hnd : needB ts q (rget rows n v) v = true) :
    LvI ts pts (rset rows i v true) := by
  have hd := h.need hq hv hnd
  refine ⟨by rw [rset_len, h.len], fun j hj => by rw [rset_row hi, h.row j (by simpa [rset_len] using hj)], fun j u hu => ?_⟩
  rw [rget_rset hi (by rw [h.row i hi]; exact hv)] at hu
  split at hu
  · rename_i e
    obtain ⟨rfl, rfl⟩ := e
    exact ⟨p, hp, n, hn, hd⟩
  · exact h.sound j u hu
end Go.Proofs.YtfioaohadanjmaaDoor

/- Words for rows of bools that a call makes. -/
namespace Go.Proofs.YtfioaohadanjmaaDoor
open Go.RowKit

end Go.Proofs.YtfioaohadanjmaaDoor

/- A region that draws its order, each of whose operations has a known value in every world that meets a condition S and keeps S: it may be walked in the order of the text. No program in sight. -/
namespace Go.Proofs.YtfioaohadanjmaaDoor
open Go Go.RowKit

section
variable {P : Program} {ops : Array Oper} {Q : Exit → Act → World → Prop} {md : Region.Mode} {S : World → Prop}

/-- what an operation does when it is carried out: it yields v and keeps S -/
def DoesS (P : Program) (S : World → Prop) (o : Oper) (v : Value) (a : Act) : Prop :=
  (∀ w, S w → ∃ w', (execOp a.eval o).run P w = .ok (.value v) w' ∧ S w') ∨
  (v = undef ∧ ∀ w, S w → ∃ w', (execOp a.eval o).run P w = .ok .skip w' ∧ S w') ∨
  (∃ f args, ∀ w, S w → (execOp a.eval o).run P w = .ok (.enter f args) w ∧ Calls P f args w fun e w' => e = .returned v ∧ S w')
def StepS (P : Program) (ops : Array Oper) (S : World → Prop) (o : Oper) (v : Value) (a : Act) : Prop :=
  (Region.wanted o (yielded ops a.tmps) = true ∧ DoesS P S o v a) ∨ (Region.wanted o (yielded ops a.tmps) = false ∧ v = undef)

theorem StepS.of_same {o : Oper} {v : Value} {a a' : Act} (hy : StepS P ops S o v a) (he : execOp a'.eval o = execOp a.eval o)
    (hw : Region.wanted o (yielded ops a'.tmps) = Region.wanted o (yielded ops a.tmps)) : StepS P ops S o v a' := by
  unfold StepS DoesS at *
  rw [he, hw]
  exact hy

/-- in whatever order -/
def Det (P : Program) (md : Region.Mode) (ops : Array Oper) (Q : Exit → Act → World → Prop) (S : World → Prop) : Nat → Array Bool → Act → Prop
  | 0, listed, a => Region.ready md ops listed = [] ∧ ∀ w, S w → Q .normal a w
  | fuel + 1, listed, a => (Region.ready md ops listed = [] → ∀ w, S w → Q .normal a w) ∧
    ∀ i ∈ Region.ready md ops listed, ∃ o v, ops[i]? = some o ∧ StepS P ops S o v a ∧ Det P md ops Q S fuel (listed.setIfInBounds i true) (a.put o.dst v)

theorem Det.first {i : Nat} {oi : Oper} {v : Value} (hi : ops[i]? = some oi) (hsel : ∀ (j : Nat) (o : Oper) cs b, ops[j]? = some o → o.op ≠ .select cs b) :
    ∀ (fuel : Nat) (listed : Array Bool) (a : Act),
      (∀ j oj, ops[j]? = some oj → j ≠ i → listed.getD j true = false → (∀ e ∈ oj.after, Region.binds md e = true → e.on ≠ i) → oi.apart ops oj = true) →
      i ∈ Region.ready md ops listed → StepS P ops S oi v a →
      Det P md ops Q S fuel (listed.setIfInBounds i true) (a.put oi.dst v) → Det P md ops Q S (fuel + 1) listed a := by
  intro fuel
  induction fuel with
  | zero =>
    intro listed a _ hr hy H
    refine ⟨fun h => (by rw [h] at hr; cases hr), fun j hj => ?_⟩
    by_cases hji : j = i
    · subst hji; exact ⟨oi, v, hi, hy, H⟩
    · have := ready_mono hj hji
      rw [H.1] at this
      cases this
  | succ fuel ih =>
    intro listed a hfree hr hy H
    refine ⟨fun h => (by rw [h] at hr; cases hr), fun j hj => ?_⟩
    by_cases hji : j = i
    · subst hji; exact ⟨oi, v, hi, hy, H⟩
    · obtain ⟨oj', u, hoj', hst, hd⟩ := H.2 j (ready_mono hj hji)
      obtain ⟨hjun, oj, hoj, hall⟩ := mem_ready.1 hj
      rw [hoj] at hoj'
      injection hoj' with e
      subst e
      have hnot : ∀ e ∈ oj.after, Region.binds md e = true → e.on ≠ i := fun e he hb heq => by
        have h1 := hall e he hb
        have h0 := (mem_ready.1 hr).1
        rw [heq] at h1
        rcases Nat.lt_or_ge i listed.size with h' | h'
        · simp [h'] at h0 h1; rw [h0] at h1; cases h1
        · simp [Array.getElem?_eq_none h'] at h1
      obtain ⟨h1, h2, h3⟩ := Oper.apart_spec (hfree j oj hoj hji hjun hnot)
      have hstj : StepS P ops S oj u a := hst.of_same (execOp_put oj (fun cs b => hsel j oj cs b hoj) a oi.dst v h1).symm (wanted_put oj a oi.dst v h1).symm
      have hsti : StepS P ops S oi v (a.put oj.dst u) := hy.of_same (execOp_put oi (fun cs b => hsel i oi cs b hi) a oj.dst u h3) (wanted_put oi a oj.dst u h3)
      have hfree' : ∀ k ok, ops[k]? = some ok → k ≠ i → (listed.setIfInBounds j true).getD k true = false →
          (∀ e ∈ ok.after, Region.binds md e = true → e.on ≠ i) → oi.apart ops ok = true := fun k ok hk hki hun hno => by
        refine hfree k ok hk hki ?_ hno
        by_cases hjk : j = k
        · subst hjk; exact hjun
        · rw [getD_set_ne true hjk] at hun; exact hun
      refine ⟨oj, u, hoj, hstj, ih (listed.setIfInBounds j true) (a.put oj.dst u) hfree' (ready_mono hr (Ne.symm hji)) hsti ?_⟩
      rw [Array.setIfInBounds_comm _ _ hji, ← Act.put_comm a v u h2]
      exact hd

/-- in the order of the text, from operation i on -/
def SeqS (P : Program) (ops : Array Oper) (Q : Exit → Act → World → Prop) (S : World → Prop) : List Oper → Act → Prop
  | [], a => ∀ w, S w → Q .normal a w
  | o :: rest, a => ∃ v, StepS P ops S o v a ∧ SeqS P ops Q S rest (a.put o.dst v)

theorem SeqS.skip {o : Oper} {rest : List Oper} {a : Act} (hw : Region.wanted o (yielded ops a.tmps) = false) (h : SeqS P ops Q S rest (a.put o.dst undef)) : SeqS P ops Q S (o :: rest) a :=
  ⟨undef, .inr ⟨hw, rfl⟩, h⟩
theorem SeqS.call {o : Oper} {rest : List Oper} {a : Act} {v : Value} {f : FuncId} {args : Array Value} (hw : Region.wanted o (yielded ops a.tmps) = true) (he : ∀ w, (execOp a.eval o).run P w = .ok (.enter f args) w) (hc : ∀ w, S w → Calls P f args w fun e w' => e = .returned v ∧ S w') (h : SeqS P ops Q S rest (a.put o.dst v)) : SeqS P ops Q S (o :: rest) a :=
  ⟨v, .inl ⟨hw, .inr (.inr ⟨f, args, fun w hS => ⟨he w, hc w hS⟩⟩)⟩, h⟩

end
end Go.Proofs.YtfioaohadanjmaaDoor

/- spec.l3Live. -/
namespace Go.Proofs.YtfioaohadanjmaaDoor
open Go.RowKit

set_option maxHeartbeats 8000000
set_option maxRecDepth 100000
end Go.Proofs.YtfioaohadanjmaaDoor

/- A slice that a call builds by append, beginning empty, while other memory that was there keeps its cells. -/
namespace Go.Proofs.YtfioaohadanjmaaDoor
open Go.RowKit

/-- every cell of w0 reads in w as it did -/
def Kp (w0 w : World) : Prop := (∀ b o x, w0.cell? ⟨b, o, none⟩ = some x → w.cell? ⟨b, o, none⟩ = some x) ∧ w0.heap.size ≤ w.heap.size
theorem Kp.refl (w : World) : Kp w w := ⟨fun _ _ _ h => h, Nat.le_refl _⟩
theorem Kp.trans {a b c : World} (h : Kp a b) (k : Kp b c) : Kp a c := ⟨fun x o u hu => k.1 x o u (h.1 x o u hu), Nat.le_trans h.2 k.2⟩
theorem Rd.imp {w w' : World} {B size n : Nat} {A : Option Addr} {xs : List Value} (h : Rd w B size A n xs) (hk : Kp w w') : Rd w' B size A n xs :=
  ⟨h.1, fun hn => by
    obtain ⟨b, off, e, hb, hc⟩ := h.2 hn
    exact ⟨b, off, e, hb, fun j u hu => hk.1 _ _ _ (hc j u hu)⟩⟩
theorem IntS.imp {w w' : World} {B : Nat} {v : Value} {l : List Int} (h : IntS w B v l) (hk : Kp w w') : IntS w' B v l := by
  obtain ⟨A, c, e, h1, h2, h3⟩ := h
  exact ⟨A, c, e, h1, h2, h3.imp hk⟩
theorem BoolS.imp {w w' : World} {B : Nat} {v : Value} {l : List Bool} (h : BoolS w B v l) (hk : Kp w w') : BoolS w' B v l := by
  obtain ⟨A, c, e, h1, h2, h3⟩ := h
  exact ⟨A, c, e, h1, h2, h3.imp hk⟩
theorem StS.imp {w w' : World} {B : Nat} {v : Value} {l : List St} (h : StS w B v l) (hk : Kp w w') : StS w' B v l := by
  induction h with
  | mk A c l tv ev hc hr ht he iht ihe =>
    refine .mk A c l tv ev hc (fun hn => ?_) iht ihe
    obtain ⟨b, off, e, hb, hcell⟩ := hr hn
    refine ⟨b, off, e, hb, fun i hi => ?_⟩
    obtain ⟨h0, h1, h2, h3, h4, h5⟩ := hcell i hi
    exact ⟨hk.1 _ _ _ h0, hk.1 _ _ _ h1, hk.1 _ _ _ h2, hk.1 _ _ _ h3, hk.1 _ _ _ h4, hk.1 _ _ _ h5⟩

/-- v is a slice of elements of type e (size cells each) that the call owns; what was in w0 keeps its cells -/
structure Out (w0 w : World) (base : Nat) (e : TypeId) (size : Nat) (v : Value) (n : Nat) (xs : List Value) : Prop where
  own : w.ownsRow base e size v n xs
  kp : Kp w0 w
  bel : Below base w0 w
  hb : base ≤ w0.heap.size
  blk : ∀ g, v.ownBlock = some g → ∀ o, w0.cell? ⟨g, o, none⟩ = none
theorem Out.le {w0 w : World} {base : Nat} {e : TypeId} {size : Nat} {v : Value} {n : Nat} {xs : List Value} (h : Out w0 w base e size v n xs) : base ≤ w.heap.size := Nat.le_trans h.hb h.kp.2
/-- ints -/
def OutI (w0 w : World) (base : Nat) (v : Value) (l : List Int) : Prop := Out w0 w base 3 1 v l.length (l.map (.int .i64))
theorem OutI.toS {w0 w : World} {base : Nat} {v : Value} {l : List Int} (h : OutI w0 w base v l) (hl : l.length ≤ 4194304) : IntS w w.heap.size v l := OInts.toS (base := base) h.own hl
end Go.Proofs.YtfioaohadanjmaaDoor

/- spec.LiveAfter, spec.NeedsOf. -/
namespace Go.Proofs.YtfioaohadanjmaaDoor
open Go.RowKit

/-- the box of a program's two slices, in a world behind it -/
structure Boxed (w W : World) (B : Nat) (vt vb : Value) (ts : List Int) (l : List St) : Prop where
  bel : Below w.heap.size w W
  lt : w.heap.size < W.heap.size
  c0 : W.cell? ⟨w.heap.size, 0, none⟩ = some vt
  c1 : W.cell? ⟨w.heap.size, 1, none⟩ = some vb
  ht : IntS W B vt ts
  hl : StS W B vb l
theorem Boxed.new {w : World} {B : Nat} {vt vb : Value} {ts : List Int} {l : List St} (ht : IntS w B vt ts) (hl : StS w B vb l) (hB : B ≤ w.heap.size) (t : TypeId) : Boxed w (w.alloc (.cells #[vt, vb] t)) B vt vb ts l := by
  have hb := bel_a w (.cells #[vt, vb] t)
  have hr := heap_alloc_new w (.cells #[vt, vb] t)
  exact ⟨hb, by simp, (cell_of_row _ _ _ _ _ _ hr).trans rfl, (cell_of_row _ _ _ _ _ _ hr).trans rfl, ht.low hb hB, hl.low hb hB⟩
theorem Boxed.bels {w W W' : World} {B : Nat} {vt vb : Value} {ts : List Int} {l : List St} (h : Boxed w W B vt vb ts l) (hb : Below W.heap.size W W') (hB : B ≤ w.heap.size) : Boxed w W' B vt vb ts l :=
  have hlt := h.lt
  ⟨h.bel.trans (hb.mono h.bel.size), Nat.lt_of_lt_of_le h.lt hb.size, (hb.cell (p := ⟨w.heap.size, 0, none⟩) h.lt).trans h.c0, (hb.cell (p := ⟨w.heap.size, 1, none⟩) h.lt).trans h.c1, h.ht.low hb (by omega), h.hl.low hb (by omega)⟩
theorem OInts.bel {w w' : World} {base : Nat} {v : Value} {l : List Int} (h : OInts w base v l) (hb : Below w.heap.size w w') : OInts w' base v l := h.move (Nat.le_refl _) fun b _ hl => hb.block b hl

set_option maxHeartbeats 4000000

set_option maxRecDepth 100000

end Go.Proofs.YtfioaohadanjmaaDoor

/- spec.l2Branch, l3Place, the draws of the flow laws. -/
namespace Go.Proofs.YtfioaohadanjmaaDoor
open Go.RowKit

def BrRet (w : World) (g p : Nat) (e : Ending) (w' : World) : Prop :=
  ∃ (vt vb : Value) (ts : List Int) (l : List St) (p' : Nat), e = .returned (.agg #[vt, vb]) ∧ IntX w' (fun b => w.heap.size ≤ b) vt ts ∧ StX w' (fun b => w.heap.size ≤ b) vb l ∧ ts.length ≤ 700 ∧ szL l ≤ 100000 ∧ p' ≤ p + 720 ∧ Dr w' g p' ∧ w.grownBy w' (some g)
theorem br_close {w w3 W : World} {g p p' : Nat} {vt vb : Value} {ts : List Int} {l : List St} (hg : g < w.heap.size) (h3 : w.grownBy w3 (some g)) (hW : w3.grownBy W (some w.heap.size)) (hd : Dr w3 g p') (hT : IntX w3 (fun b => w.heap.size + 1 ≤ b) vt ts) (hB : StX w3 (fun b => w.heap.size + 1 ≤ b) vb l) (ht : ts.length ≤ 700) (hl : szL l ≤ 100000) (hp : p' ≤ p + 720) (hlt : w.heap.size < w3.heap.size) :
    BrRet w g p (.returned (.agg #[vt, vb])) W := by
  have hk : ∀ b, w.heap.size + 1 ≤ b → b < w3.heap.size → w.heap.size ≤ b ∧ W.heap[b]? = w3.heap[b]? := fun b hb hl => ⟨by omega, hW.block b hl (fun e => by injection e with e; omega)⟩
  exact ⟨vt, vb, ts, l, p', rfl, hT.frame hW.size hk, hB.frame hW.size hk, ht, hl, hp, hd.low (grown_below hW hlt) hg, grown_base h3 (grown_below hW hlt)⟩

set_option maxHeartbeats 4000000
set_option maxRecDepth 100000
theorem l2Branch_any (g p : Nat) (w : World) (hd : Dr w g p) (hp : p + 720 ≤ 1000000) : Calls Tryd.prog 16 #[.pointer (some ⟨g, 0, none⟩)] w (BrRet w g p) := by
  have hg := hd.lt
  have HD := Lib.hid hd
  clear hd
  go_enter Tryd.func16, Tryd.ntmps16
  go_wp2_with fail
  refine (texts_any _).mono ?_
  rintro e w1 ⟨tl, rfl, htl, hok, hrow, hb1⟩
  have hs1 := hb1.size
  have hsa : (w.alloc (.cells #[.slice none 0 0, .slice none 0 0] 29)).heap.size = w.heap.size + 1 := by simp
  have hr0 := row_below (heap_alloc_new w (.cells #[.slice none 0 0, .slice none 0 0] 29)) hb1
  have HR0 := Lib.hid hr0
  have hlt1 := hrow.lt
  have HTX := Lib.hid hrow
  have HOK := Lib.hid hok
  have HTL := Lib.hid htl
  have HD1 := Lib.hid ((HD.out.low (bel_a w _) hg).low hb1 (by simp; omega))
  have HG1 := Lib.hid (grown_below' (grown_bel (bel_a w (.cells #[.slice none 0 0, .slice none 0 0] 29)) (Nat.le_refl _) (some g)) hb1)
  clear hb1 hr0 hrow hok htl
  rw [hsa] at hs1 hlt1 HTX ⊢
  clear hsa
  go_wp2_with fail
  refine (pick_any g p _ _ HD1.out (by omega) (by omega) (by omega)).mono ?_
  rintro e w2 ⟨k, rfl, k0, k1, hd2, hg2⟩
  have HR2 := Lib.hid (row_grown HR0.out hg2 (by omega))
  have HTX2 := Lib.hid (row_grown HTX.out hg2 (by omega))
  have HD2 := Lib.hid hd2
  have HG2 := Lib.hid (grown_tr HG1.out hg2)
  have hs2 := hg2.size
  clear hd2 hg2 k1
  by_cases hk : k = 0
  · subst hk
    go_wp2_with fail
    refine (pick_any g (p + 1) _ _ HD2.out (by omega) (by omega) (by omega)).mono ?_
    rintro e w3 ⟨j, rfl, j0, j1, hd3, hg3⟩
    have j2 := j1 (by omega)
    clear j1
    obtain ⟨j, rfl⟩ := Int.eq_ofNat_of_zero_le j0
    have hj : j < 8 := by omega
    obtain ⟨s, hs, hs600⟩ := strOk_get HOK.out (k := 9 + j) (by rw [HTL.out]; omega)
    have hr := row_grown HTX2.out hg3 (by omega)
    have hck : w3.cell? ⟨w.heap.size + 1, 9 + j, none⟩ = some (.string s) := (cell_of_row _ _ (9 + j) _ _ _ hr).trans (by simpa using hs)
    have hix : (9 : Int) + (j : Int) = ((9 + j : Nat) : Int) := by omega
    have hjl : (9 + j : Nat) < 25 := by omega
    have HD3 := Lib.hid hd3
    have HG3 := Lib.hid (grown_tr HG2.out hg3)
    have HR3 := Lib.hid (row_grown HR2.out hg3 (by omega))
    have hs3 := hg3.size
    clear hr hs hd3 hg3 hix
    go_wp2_with fail
    refine (parseProgram_any s _ hs600).mono ?_
    rintro e w4 ⟨vt, vb, ts, l, okb, rfl, hit, hsb, hlt, hlb, hb4⟩
    have hs4 := hb4.size
    have hA4 := bel_a w4 (.cells #[vt, vb] 29)
    have hsW : (w4.alloc (.cells #[vt, vb] 29)).heap.size = w4.heap.size + 1 := by simp
    have HR4 := Lib.hid (row_below (row_below HR3.out hb4) hA4)
    have HD4 := Lib.hid ((HD3.out.low hb4 HD3.out.lt).low hA4 (by omega))
    have HG4 := Lib.hid (grown_alloc (grown_below' HG3.out hb4) (.cells #[vt, vb] 29))
    have HIT := Lib.hid (hit.bel hA4)
    have HST := Lib.hid (hsb.bel hA4)
    obtain ⟨At, ct, rfl, -⟩ := hit.slice
    obtain ⟨Ab, cb, rfl, -⟩ := hsb.slice
    clear hit hsb hb4 hck hA4
    go_wp2_with fail
    generalize w4.alloc (.cells #[.slice At ts.length ct, .slice Ab l.length cb] 29) = W4 at *
    refine (mutate_any g (p + 1 + 1) _ _ ts l _ _ HIT.out.toS HST.out.toS (Nat.le_refl _) hlt hlb HD4.out (by omega)).mono ?_
    rintro e w5 ⟨vt', vb', ts', l', p5, rfl, hit', hst', hts', hsz', hp5, hd5, hg5⟩
    obtain ⟨At', ct', rfl, -⟩ := hit'.slice
    obtain ⟨Ab', cb', rfl, -⟩ := hst'.slice
    have hs5 := hg5.size
    have HR5 := Lib.hid (row_grown HR4.out hg5 (by omega))
    have HG5 := Lib.hid (grown_tr HG4.out hg5)
    have HD5 := Lib.hid hd5
    have HIT5 := Lib.hid hit'
    have HST5 := Lib.hid hst'
    clear hit' hst' hd5 hg5
    have z0 : w5.cell? ⟨w.heap.size, 0, none⟩ = some (.slice none 0 0) := by rw [cell_of_row _ _ _ _ _ _ HR5.out]; rfl
    have z1 : w5.cell? ⟨w.heap.size, 1, none⟩ = some (.slice none 0 0) := by rw [cell_of_row _ _ _ _ _ _ HR5.out]; rfl
    have zf0 := frozen_of_row w5 w.heap.size 0 _ _ HR5.out
    have zf1 := frozen_of_row w5 w.heap.size 1 _ _ HR5.out
    go_wp2_with fail
    exact bodyPost_ret (results_cell_row rfl _ _ w.heap.size 29 _ (0, 0) _ rfl (box2 HR5.out _ _).1 Tryd.underlying29 rfl rfl) rfl
      (br_close hg HG5.out (box2 HR5.out _ _).2 HD5.out (HIT5.out.frame (Nat.le_refl _) fun b hb _ => ⟨by have hb' : W4.heap.size ≤ b := hb; show w.heap.size + 1 ≤ b; omega, rfl⟩) (HST5.out.frame (Nat.le_refl _) fun b hb _ => ⟨by have hb' : W4.heap.size ≤ b := hb; show w.heap.size + 1 ≤ b; omega, rfl⟩) hts' hsz' (by omega) (by omega))
  · have hk1 : (k == 0) = false := by simpa using hk
    clear hk
    go_wp2_with fail
    refine (l1Draw_any g (p + 1) _ HD2.out (by omega)).mono ?_
    rintro e w3 ⟨vt, vb, ts, l, p3, rfl, hit, hst, hts, hsz, hp3, hd3, hg3⟩
    have HR3 := Lib.hid (row_grown HR2.out hg3 (by omega))
    have HG3 := Lib.hid (grown_tr HG2.out hg3)
    have hs3 := hg3.size
    have HD3 := Lib.hid hd3
    have HIT := Lib.hid hit
    have HST := Lib.hid hst
    clear hit hst hd3 hg3
    go_wp2_with fail
    refine (mutate_any g p3 _ _ ts l _ _ HIT.out.toS HST.out.toS (Nat.le_refl _) hts hsz HD3.out (by omega)).mono ?_
    rintro e w4 ⟨vt', vb', ts', l', p4, rfl, hit', hst', hts', hsz', hp4, hd4, hg4⟩
    obtain ⟨At, ct, rfl, -⟩ := hit'.slice
    obtain ⟨Ab, cb, rfl, -⟩ := hst'.slice
    have hs4 := hg4.size
    have HR4 := Lib.hid (row_grown HR3.out hg4 (by omega))
    have HG4 := Lib.hid (grown_tr HG3.out hg4)
    have HD4 := Lib.hid hd4
    have HIT4 := Lib.hid hit'
    have HST4 := Lib.hid hst'
    clear hit' hst' hd4 hg4
    have z0 : w4.cell? ⟨w.heap.size, 0, none⟩ = some (.slice none 0 0) := by rw [cell_of_row _ _ _ _ _ _ HR4.out]; rfl
    have z1 : w4.cell? ⟨w.heap.size, 1, none⟩ = some (.slice none 0 0) := by rw [cell_of_row _ _ _ _ _ _ HR4.out]; rfl
    have zf0 := frozen_of_row w4 w.heap.size 0 _ _ HR4.out
    have zf1 := frozen_of_row w4 w.heap.size 1 _ _ HR4.out
    go_wp2_with fail
    exact bodyPost_ret (results_cell_row rfl _ _ w.heap.size 29 _ (0, 0) _ rfl (box2 HR4.out _ _).1 Tryd.underlying29 rfl rfl) rfl
      (br_close hg HG4.out (box2 HR4.out _ _).2 HD4.out (HIT4.out.frame (Nat.le_refl _) fun b hb _ => ⟨by have hb' : w3.heap.size ≤ b := hb; show w.heap.size + 1 ≤ b; omega, rfl⟩) (HST4.out.frame (Nat.le_refl _) fun b hb _ => ⟨by have hb' : w3.heap.size ≤ b := hb; show w.heap.size + 1 ≤ b; omega, rfl⟩) hts' hsz' (by omega) (by omega))

end Go.Proofs.YtfioaohadanjmaaDoor

/- FnTakesOf: the draw, the plain law, the walk. -/
namespace Go.Proofs.YtfioaohadanjmaaDoor
open Go.RowKit

def LawRet (w : World) (e : Ending) (w' : World) : Prop := e = .returned (.bool true) ∧ Below w.heap.size w w'

end Go.Proofs.YtfioaohadanjmaaDoor

/- Words for the laws' walks: a drawn program in its box. The plain law of NeedsOpen. -/
namespace Go.Proofs.YtfioaohadanjmaaDoor
open Go.RowKit

/-- the program (vt, vb) lies in the box g and reads as (ts, l); what was in w is as it was -/
structure PgB (w W : World) (g : Nat) (vt vb : Value) (ts : List Int) (l : List St) : Prop where
  bel : Below w.heap.size w W
  row : W.heap[g]? = some (.cells #[vt, vb] 29 (0, 0))
  ht : IntS W W.heap.size vt ts
  hl : StS W W.heap.size vb l
theorem PgB.lt {w W : World} {g : Nat} {vt vb : Value} {ts : List Int} {l : List St} (h : PgB w W g vt vb ts l) : g < W.heap.size := row_lt h.row
theorem PgB.c0 {w W : World} {g : Nat} {vt vb : Value} {ts : List Int} {l : List St} (h : PgB w W g vt vb ts l) : W.cell? ⟨g, 0, none⟩ = some vt := by rw [cell_of_row _ _ _ _ _ _ h.row]; rfl
theorem PgB.c1 {w W : World} {g : Nat} {vt vb : Value} {ts : List Int} {l : List St} (h : PgB w W g vt vb ts l) : W.cell? ⟨g, 1, none⟩ = some vb := by rw [cell_of_row _ _ _ _ _ _ h.row]; rfl
theorem PgB.bels {w W W' : World} {g : Nat} {vt vb : Value} {ts : List Int} {l : List St} (h : PgB w W g vt vb ts l) (hb : Below W.heap.size W W') : PgB w W' g vt vb ts l :=
  ⟨h.bel.trans (hb.mono h.bel.size), row_below h.row hb, (h.ht.low hb (Nat.le_refl _)).more hb.size, (h.hl.low hb (Nat.le_refl _)).more hb.size⟩
theorem PgB.new {w w1 : World} {vt vb : Value} {ts : List Int} {l : List St} {P Q : Nat → Prop} (ht : IntX w1 P vt ts) (hl : StX w1 Q vb l) (hb : Below w.heap.size w w1) : PgB w (w1.alloc (.cells #[vt, vb] 29)) w1.heap.size vt vb ts l := by
  have hA := bel_a w1 (.cells #[vt, vb] 29)
  exact ⟨hb.trans (hA.mono hb.size), heap_alloc_new w1 _, ((ht.toS).low hA (Nat.le_refl _)).more hA.size, ((hl.toS).low hA (Nat.le_refl _)).more hA.size⟩
theorem IntS.bel {w w' : World} {v : Value} {l : List Int} (h : IntS w w.heap.size v l) (hb : Below w.heap.size w w') : IntS w' w'.heap.size v l := (h.low hb (Nat.le_refl _)).more hb.size
theorem PtS.bel {w w' : World} {v : Value} {pts : List Pt} (h : PtS w w.heap.size v pts) (hb : Below w.heap.size w w') : PtS w' w'.heap.size v pts := (h.low hb (Nat.le_refl _)).more hb.size

end Go.Proofs.YtfioaohadanjmaaDoor

/- exact texts: letters, digits (l1Letter, letter, l17Dec, strconv.Itoa below ten). -/
namespace Go.Proofs.YtfioaohadanjmaaDoor
open Go.RowKit

/-- the text of one byte -/
def bch (x : Int) : ByteArray := ⟨#[UInt8.ofNat x.toNat]⟩
/-- a call answers this text -/
def TxRet (s : ByteArray) (w : World) (e : Ending) (w' : World) : Prop := e = .returned (.string s) ∧ Below w.heap.size w w'
theorem one_ch (w : World) (x : Int) : (convert 22 9 (.slice (some ⟨w.heap.size, 0, none⟩) 1 1)).run Tryd.prog (w.alloc (.cells #[.int .u8 x] 5)) = .ok (.string (bch x)) (w.alloc (.cells #[.int .u8 x] 5)) := by
  rw [run_convert_bytes_string _ _ _ 5 _ _ _ Tryd.underlying22 Tryd.underlying5 Tryd.underlying9]
  refine run_bytesToString _ _ _ _ [x] ?_
  refine run_loadCells_list (P := Tryd.prog) (w.alloc (.cells #[.int .u8 x] 5)) ⟨w.heap.size, 0, none⟩ [.int .u8 x] (fun j v hj => ?_)
  have hj0 : j = 0 := by
    rcases Nat.eq_zero_or_pos j with h | h
    · exact h
    · rw [List.getElem?_eq_none (by simp; omega)] at hj; cases hj
  subst hj0
  simp at hj
  subst hj
  show (w.alloc (.cells #[.int .u8 x] 5)).cell? ⟨w.heap.size, 0, none⟩ = _
  rw [World.cell?_alloc_mark]; rfl
set_option maxRecDepth 100000 in
theorem letterX_any (v : Int) (w : World) (h0 : 0 ≤ v) (h5 : v ≤ 5) : Calls Tryd.prog 34 #[.int .i64 v] w (TxRet (bch (97 + v)) w) := by
  have hr := one_ch w (97 + v)
  have hm : v % 256 = v := by omega
  have hm2 : (97 + v) % 256 = 97 + v := by omega
  go_enter Tryd.func34, Tryd.ntmps34
  go_wp2_with fail
  go_ret
  exact ⟨rfl, (Below.refl _ _).alloc (Nat.le_refl _) _⟩
set_option maxRecDepth 100000 in
theorem iletter_any (v : Int) (w : World) (h0 : 0 ≤ v) (h5 : v ≤ 5) : Calls Tryd.prog 32 #[.int .i64 v] w (TxRet (bch (97 + v)) w) := by
  have hr := one_ch w (97 + v)
  have hm2 : (97 + v) % 256 = 97 + v := by omega
  go_enter Tryd.func32, Tryd.ntmps32
  go_wp2_with fail
  go_ret
  exact ⟨rfl, (Below.refl _ _).alloc (Nat.le_refl _) _⟩
set_option maxRecDepth 100000 in
theorem decX_any (v : Int) (w : World) (h0 : 0 ≤ v) (h9 : v ≤ 9) : Calls Tryd.prog 35 #[.int .i64 v] w (TxRet (bch (48 + v)) w) := by
  have hr := one_ch w (48 + v)
  go_enter Tryd.func35, Tryd.ntmps35
  go_wp2_with fail
  refine wp_loop_rounds 1 ?_
  rw [rounds_succ]
  go_wp2_with fail
  go_ret
  exact ⟨rfl, (Below.refl _ _).alloc (Nat.le_refl _) _⟩
set_option maxRecDepth 100000 in
theorem small_any (v : Int) (w : World) (h0 : 0 ≤ v) (h9 : v ≤ 9) : Calls Tryd.prog 62 #[.int .i64 v] w fun e w' => e = .returned (.string (bch (48 + v))) ∧ w = w' := by
  have hv : v = 0 ∨ v = 1 ∨ v = 2 ∨ v = 3 ∨ v = 4 ∨ v = 5 ∨ v = 6 ∨ v = 7 ∨ v = 8 ∨ v = 9 := by omega
  rcases hv with rfl | rfl | rfl | rfl | rfl | rfl | rfl | rfl | rfl | rfl <;>
  (go_enter Tryd.func62, Tryd.ntmps62
   go_wp2_with fail
   go_ret
   exact ⟨rfl, rfl⟩)
set_option maxRecDepth 100000 in
theorem formatInt_any (v : Int) (w : World) (h0 : 0 ≤ v) (h9 : v ≤ 9) : Calls Tryd.prog 55 #[.int .i64 v, .int .i64 10] w fun e w' => e = .returned (.string (bch (48 + v))) ∧ w = w' := by
  go_enter Tryd.func55, Tryd.ntmps55
  go_wp2_with fail
  refine (small_any v w h0 h9).mono ?_
  rintro e w1 ⟨rfl, rfl⟩
  go_wp2_with fail
  go_ret
  exact ⟨rfl, rfl⟩
set_option maxRecDepth 100000 in
theorem iItoa_any (v : Int) (w : World) (h0 : 0 ≤ v) (h9 : v ≤ 9) : Calls Tryd.prog 45 #[.int .i64 v] w fun e w' => e = .returned (.string (bch (48 + v))) ∧ w = w' := by
  go_enter Tryd.func45, Tryd.ntmps45
  go_wp2_with fail
  refine (formatInt_any v w h0 h9).mono ?_
  rintro e w1 ⟨rfl, rfl⟩
  go_wp2_with fail
  go_ret
  exact ⟨rfl, rfl⟩
set_option maxRecDepth 100000 in
theorem itoa_any (v : Int) (w : World) (h0 : 0 ≤ v) (h9 : v ≤ 9) : Calls Tryd.prog 33 #[.int .i64 v] w (TxRet (bch (48 + v)) w) := by
  go_enter Tryd.func33, Tryd.ntmps33
  go_wp2_with fail
  refine (iItoa_any v w h0 h9).mono ?_
  rintro e w1 ⟨rfl, rfl⟩
  go_wp2_with fail
  go_ret
  exact ⟨rfl, Below.refl _ _⟩

end Go.Proofs.YtfioaohadanjmaaDoor
