import Derived.Test.YtidlifijgooceaaJ30
import Derived.Test.YtidlifijgooceaaJ20
import Derived.Laws.OwnMore
import Derived.Test.YtidlifijgooceaaJ29
import Derived.ArgAppend
import Derived.Test.YtidlifijgooceaaJ28
import Derived.Test.YtidlifijgooceaaJ11
import Derived.Test.YtidlifijgooceaaJ06
set_option linter.unusedVariables false

/- DrawNeedsOf, DrawTakesOf. -/
namespace Go.Proofs.Ytidlifijgooceaa
open Go.RowKit

theorem grown_new {w a b : World} {g : Nat} (h : Below w.heap.size w a) (hg : w.heap.size ≤ g) (k : a.grownBy b (some g)) : Below w.heap.size w b :=
  ⟨k.os.trans h.os, k.tape.trans h.tape, k.output.trans h.output, Nat.le_trans h.size k.size, fun i hi => (k.block i (Nat.lt_of_lt_of_le hi h.size) (fun e => by injection e with e; omega)).trans (h.block i hi)⟩
end Go.Proofs.Ytidlifijgooceaa

/- spec.l2Branch, l3Place, the draws of the flow laws. -/
namespace Go.Proofs.Ytidlifijgooceaa
open Go.RowKit

set_option maxHeartbeats 4000000
set_option maxRecDepth 100000

end Go.Proofs.Ytidlifijgooceaa

/- FnTakesOf: the draw, the plain law, the walk. -/
namespace Go.Proofs.Ytidlifijgooceaa
open Go.RowKit

end Go.Proofs.Ytidlifijgooceaa

/- Words for the laws' walks: a drawn program in its box. The plain law of NeedsOpen. -/
namespace Go.Proofs.Ytidlifijgooceaa
open Go.RowKit

/-- the program (vt, vb) lies in the box g and reads as (ts, l); what was in w is as it was -/
structure PgB (w W : World) (g : Nat) (vt vb : Value) (ts : List Int) (l : List St) : Prop where
  bel : Below w.heap.size w W
  row : W.heap[g]? = some (.cells #[vt, vb] 26 (0, 0))
  ht : IntS W W.heap.size vt ts
  hl : StS W W.heap.size vb l
theorem PgB.lt {w W : World} {g : Nat} {vt vb : Value} {ts : List Int} {l : List St} (h : PgB w W g vt vb ts l) : g < W.heap.size := row_lt h.row
theorem PgB.c0 {w W : World} {g : Nat} {vt vb : Value} {ts : List Int} {l : List St} (h : PgB w W g vt vb ts l) : W.cell? ⟨g, 0, none⟩ = some vt := by rw [cell_of_row _ _ _ _ _ _ h.row]; rfl
theorem PgB.c1 {w W : World} {g : Nat} {vt vb : Value} {ts : List Int} {l : List St} (h : PgB w W g vt vb ts l) : W.cell? ⟨g, 1, none⟩ = some vb := by rw [cell_of_row _ _ _ _ _ _ h.row]; rfl
theorem PgB.bels {w W W' : World} {g : Nat} {vt vb : Value} {ts : List Int} {l : List St} (h : PgB w W g vt vb ts l) (hb : Below W.heap.size W W') : PgB w W' g vt vb ts l :=
  ⟨h.bel.trans (hb.mono h.bel.size), row_below h.row hb, (h.ht.low hb (Nat.le_refl _)).more hb.size, (h.hl.low hb (Nat.le_refl _)).more hb.size⟩
theorem PgB.new {w w1 : World} {vt vb : Value} {ts : List Int} {l : List St} {P Q : Nat → Prop} (ht : IntX w1 P vt ts) (hl : StX w1 Q vb l) (hb : Below w.heap.size w w1) : PgB w (w1.alloc (.cells #[vt, vb] 26)) w1.heap.size vt vb ts l := by
  have hA := bel_a w1 (.cells #[vt, vb] 26)
  exact ⟨hb.trans (hA.mono hb.size), heap_alloc_new w1 _, ((ht.toS).low hA (Nat.le_refl _)).more hA.size, ((hl.toS).low hA (Nat.le_refl _)).more hA.size⟩
theorem IntS.bel {w w' : World} {v : Value} {l : List Int} (h : IntS w w.heap.size v l) (hb : Below w.heap.size w w') : IntS w' w'.heap.size v l := (h.low hb (Nat.le_refl _)).more hb.size
theorem PtS.bel {w w' : World} {v : Value} {pts : List Pt} (h : PtS w w.heap.size v pts) (hb : Below w.heap.size w w') : PtS w' w'.heap.size v pts := (h.low hb (Nat.le_refl _)).more hb.size

end Go.Proofs.Ytidlifijgooceaa

/- Rows of bools that a call owns; spec.l3After. -/
namespace Go.Proofs.Ytidlifijgooceaa
open Go.RowKit

def OBools (w : World) (base : Nat) (v : Value) (l : List Bool) : Prop := w.ownsRow base 4 1 v l.length (bv l)
theorem OBools.empty (w : World) (base : Nat) (hb : base ≤ w.heap.size) : OBools (w.alloc (.cells #[] 4)) base (.slice (some ⟨w.heap.size, 0, none⟩) 0 0) [] :=
  World.ownsRow_lit (base := base) (e := 4) (size := 1) w #[] 0 hb (by simp [maxLen]) rfl
theorem OBools.slice {w : World} {base : Nat} {v : Value} {l : List Bool} (h : OBools w base v l) : ∃ A c, v = .slice A l.length c ∧ l.length ≤ c := by
  rcases h.2 with ⟨rfl, h0⟩ | ⟨g, cap, cur, rfl, _, _, hc, _⟩
  · exact ⟨none, 0, by rw [h0], by omega⟩
  · exact ⟨_, cap, rfl, hc⟩
theorem OBools.bel {w w' : World} {base : Nat} {v : Value} {l : List Bool} (h : OBools w base v l) (hb : Below w.heap.size w w') : OBools w' base v l :=
  h.kept (grown_bel hb (Nat.le_refl _) none) (by cases v.ownBlock <;> simp)
theorem OBools.base {w : World} {base base' : Nat} {v : Value} {l : List Bool} (h : OBools w base v l) (hb : base' ≤ base) : OBools w base' v l := by
  refine ⟨h.1, ?_⟩
  rcases h.2 with h' | ⟨g, cap, cur, rfl, hbg, rest⟩
  · exact .inl h'
  · exact .inr ⟨g, cap, cur, rfl, by omega, rest⟩
theorem OBools.at_ {w : World} {base : Nat} {A : Option Addr} {n c : Nat} {l : List Bool} (h : OBools w base (.slice A n c) l) {k : Nat} (hk : k < l.length) :
    ∃ g, A = some ⟨g, 0, none⟩ ∧ base ≤ g ∧ g < w.heap.size ∧ n = l.length ∧ w.cell? ⟨g, k, none⟩ = some (.bool (l.getD k false)) ∧ w.frozen? ⟨g, k, none⟩ = false := by
  obtain ⟨A', c', e, _⟩ := h.slice
  injection e with _ e2 _
  subst e2
  obtain ⟨g, cap, e, hb, hlt⟩ := h.form (by omega)
  injection e with e1 _ e3
  subst e1 e3
  exact ⟨g, rfl, hb, hlt, rfl, by rw [h.cellAt k (by omega), bv_get hk], h.frozenAt k⟩
theorem OBools.toS {w : World} {base : Nat} {v : Value} {l : List Bool} (h : OBools w base v l) (hl : l.length ≤ 4194304) : BoolS w w.heap.size v l := by
  obtain ⟨A, c, rfl, hc⟩ := h.slice
  refine ⟨A, c, rfl, hc, hl, by simp, fun hn => ?_⟩
  obtain ⟨g, cap, e, hb, hlt⟩ := h.form hn
  injection e with e1 _ e2
  subst e1 e2
  refine ⟨g, 0, rfl, hlt, fun j u hu => ?_⟩
  rw [Nat.zero_add, h.cellAt j (by have := (List.getElem?_eq_some_iff.1 hu).1; simp at this; omega)]
  exact hu
theorem OBools.set {w : World} {base g n c : Nat} {l : List Bool} (h : OBools w base (.slice (some ⟨g, 0, none⟩) n c) l) (k : Nat) (b : Bool) : OBools (w.setCell ⟨g, k, none⟩ (.bool b)) base (.slice (some ⟨g, 0, none⟩) n c) (l.set k b) := by
  have hn : n = l.length := by
    obtain ⟨A, c', e, _⟩ := h.slice
    injection e
  subst hn
  have := (World.ownsRow.stored h k (.bool b)).1
  unfold OBools
  rw [List.length_set, ← bv_set]
  exact this
theorem run_appb_nil (w : World) (base : Nat) (ty : TypeId) (v : Value) (l : List Bool) (hP : OBools w base v l) (c : Nat) : (Builtin.append_ #[88, 88] ty #[v, .slice none 0 c]).run Try.prog w = .ok v w := by
  obtain ⟨i0, hi0, hz0, hz1, hz2⟩ := info_parts Try.infoBool
  rcases hP.2 with ⟨rfl, h0⟩ | ⟨g, cap, cur, rfl, _, _, hnc, _⟩
  · simp [Builtin.append_, run_underlying Try.underlying88, sizeOf, typeInfo, hi0, Builtin.lenOf, Builtin.firstCells]
  · simp [Builtin.append_, run_underlying Try.underlying88, sizeOf, typeInfo, hi0, Builtin.lenOf, Builtin.firstCells, hnc, storeCells]
theorem run_app_bools (w : World) (base : Nat) (ty : TypeId) (v : Value) (l : List Bool) (hP : OBools w base v l) (B : Nat) (vs : Value) (ts : List Bool) (hr : BoolS w B vs ts) (hb : base ≤ w.heap.size) (hn : l.length + ts.length ≤ 8388608) :
    ∃ v' w', (Builtin.append_ #[88, 88] ty #[v, vs]).run Try.prog w = .ok v' w' ∧ OBools w' base v' (l ++ ts) ∧ w.grownBy w' v.ownBlock ∧ (v'.ownBlock = v.ownBlock ∨ v'.ownBlock = some w.heap.size) := by
  obtain ⟨A, c, rfl, hc, hm, hrd⟩ := hr
  rcases Nat.eq_zero_or_pos ts.length with h0 | h0
  · have hts : ts = [] := List.length_eq_zero_iff.1 h0
    subst hts
    rcases A with _ | ad
    · exact ⟨v, w, run_appb_nil w base ty v l hP c, by simpa using hP, World.grownBy.refl w _, .inl rfl⟩
    · obtain ⟨i0, hi0, hz0, hz1, hz2⟩ := info_parts Try.infoBool
      obtain ⟨v', w', hrun, h2, h3, _, h5⟩ := run_append_own_at (P := Try.prog) w base 88 ty 4 i0 _ 1 1 Try.underlying88 hi0 hz0 hz1 hz2 rfl (by omega) v l.length _ hP ad 0 c [] rfl (fun j u h => by simp at h) (fun u h => by simp at h) (by simp only [maxLen]; omega) (by omega) hb
      exact ⟨v', w', hrun, by simpa [OBools] using h2, h3, h5⟩
  · obtain ⟨b, off, rfl, hbl, hcell⟩ := hrd.2 h0
    obtain ⟨i0, hi0, hz0, hz1, hz2⟩ := info_parts Try.infoBool
    obtain ⟨v', w', hrun, h2, h3, _, h5⟩ := run_append_own_at (P := Try.prog) w base 88 ty 4 i0 _ 1 1 Try.underlying88 hi0 hz0 hz1 hz2 rfl (by omega) v l.length _ hP ⟨b, off, none⟩ ts.length c (ts.map .bool) (by simp)
      (fun j u h => by
        rcases Nat.eq_zero_or_pos j with hj | hj
        · subst hj; simpa [Addr.add] using hcell 0 u h
        · have := hcell j u h
          have hj0 : j ≠ 0 := by omega
          simpa [Addr.add, hj0] using this)
      (fun u h => by obtain ⟨x, _, rfl⟩ := List.mem_map.1 h; rfl) (by simp only [maxLen]; omega) (by omega) hb
    exact ⟨v', w', hrun, by simpa [OBools, bv] using h2, h3, h5⟩
theorem wpList_app_bools {ops : Array Oper} {rest : List Oper} {o : Oper} {a : Act} {Q : Exit → Act → World → Prop} {w : World} (hgd : o.guard = none) (s x : Operand)
    (ho : o.op = .call { callee := .builtin .append, args := #[s, x], argTypes := #[88, 88] })
    (base : Nat) (v : Value) (l : List Bool) (hs : a.eval s = v) (hP : OBools w base v l) (B : Nat) (vs : Value) (ts : List Bool) (hx : a.eval x = vs) (hr : BoolS w B vs ts) (hb : base ≤ w.heap.size) (hn : l.length + ts.length ≤ 8388608)
    (h : ∀ v' w', OBools w' base v' (l ++ ts) → w.grownBy w' v.ownBlock → (v'.ownBlock = v.ownBlock ∨ v'.ownBlock = some w.heap.size) → wpList Try.prog ops Q rest (a.put o.dst v') w') : wpList Try.prog ops Q (o :: rest) a w := by
  refine wpList_plain hgd fun K hK => ?_
  obtain ⟨v', w', hrun, h2, h3, h4⟩ := run_app_bools w base o.type v l hP B vs ts hr hb hn
  unfold Oper.wp execOp
  simp only [ho, resolve, invoke, builtin, Sem.run_bind, Sem.run_pure, Result.andThen_ok, List.map_toArray, List.map_cons, List.map_nil, hs, hx, hrun]
  exact hK _ _ (h v' w' h2 h3 h4)

/-- what v's place reads behind a point, b being what it read before -/
def vlB (ts : List Int) (p : Pt) (b : Bool) (v : Nat) : Bool := (b && !(useP ts p.op p.x p.y (v : Nat) == 2)) || decide (setsP p.op p.x = (v : Nat))
set_option maxHeartbeats 4000000
set_option maxRecDepth 100000
end Go.Proofs.Ytidlifijgooceaa

/- spec.l3Join, spec.l3Equal. -/
namespace Go.Proofs.Ytidlifijgooceaa
open Go.RowKit

def jnB (al o a : Bool) : Bool := if al then o && a else o || a
def joinP (al : Bool) (old aft : List Bool) : List Bool := (List.range aft.length).map fun v => if v < old.length then jnB al (old.getD v false) (aft.getD v false) else aft.getD v false
theorem join_len (al : Bool) (old aft : List Bool) : (joinP al old aft).length = aft.length := by simp [joinP]
theorem join_get (al : Bool) (old aft : List Bool) {v : Nat} (hv : v < aft.length) : (joinP al old aft).getD v false = if v < old.length then jnB al (old.getD v false) (aft.getD v false) else aft.getD v false := by
  rw [getD_lt (by rw [join_len]; exact hv)]; simp [joinP]
set_option maxHeartbeats 4000000
set_option maxRecDepth 100000
end Go.Proofs.Ytidlifijgooceaa

/- Plain: the search forward that walks a queue of points. No program in sight. -/
namespace Go.Proofs.Ytidlifijgooceaa

def acR (ev : Bool) (rows : List (List Bool)) (i v : Nat) : Bool := rget rows i v != ev
theorem jn_acc (ev o a : Bool) : (jnB ev o a != ev) = ((o != ev) || (a != ev)) := by cases ev <;> cases o <;> cases a <;> rfl
theorem vl_acc (ev : Bool) {ts : List Int} {p : Pt} {b : Bool} {v : Nat} (hv : v < ts.length) : (vlB ts p b v != ev) = trB ev ts p (b != ev) v := by
  unfold vlB trB
  have h1 : (takenP ts p.op p.x p.y).testBit v = (useP ts p.op p.x p.y (v : Nat) == 2) := by unfold takenP; rw [bm_bit, decide_eq_true hv, Bool.true_and]
  rw [h1, setBit_bit]
  cases ev <;> cases b <;> cases (useP ts p.op p.x p.y (v : Nat) == 2) <;> cases decide (setsP p.op p.x = (v : Nat)) <;> rfl

def seenAt (seen : List Bool) (i : Nat) : Prop := seen.getD i false = true
instance (seen : List Bool) (i : Nat) : Decidable (seenAt seen i) := by unfold seenAt; infer_instance
structure WkI (ev : Bool) (ts : List Int) (pts : List Pt) (rows : List (List Bool)) (seen : List Bool) (q : List Nat) : Prop where
  len : rows.length = pts.length
  slen : seen.length = pts.length
  row : ∀ i, i < pts.length → seenAt seen i → (rows.getD i []).length = ts.length
  nrow : ∀ i, i < pts.length → ¬ seenAt seen i → rows.getD i [] = []
  sound : ∀ i v, i < pts.length → v < ts.length → seenAt seen i → acR ev rows i v = true → Ac ev ts pts 0 i v
  ini : seenAt seen 0
  inv : ev = true → ∀ v, v < ts.length → acR ev rows 0 v = true
  qs : ∀ i ∈ q, i < pts.length ∧ seenAt seen i
/-- point i's row is closed along its edges -/
def WkC (ev : Bool) (ts : List Int) (pts : List Pt) (rows : List (List Bool)) (seen : List Bool) (r0 : List Bool) (i k : Nat) : Prop :=
  ∀ p, pts[i]? = some p → ∀ n ∈ p.next.take k, seenAt seen n ∧ ∀ v, v < ts.length → (vlB ts p (r0.getD v false) v != ev) = true → acR ev rows n v = true
/-- between two points of the queue -/
structure WkO (ev : Bool) (ts : List Int) (pts : List Pt) (rows : List (List Bool)) (seen : List Bool) (q : List Nat) : Prop where
  i : WkI ev ts pts rows seen q
  c : ∀ i, i < pts.length → seenAt seen i → i ∈ q ∨ ∀ k, WkC ev ts pts rows seen (rows.getD i []) i k
/-- at point a, behind its first k edges; r0 is the row that was there when a was taken -/
structure WkN (ev : Bool) (ts : List Int) (pts : List Pt) (a : Nat) (r0 : List Bool) (k : Nat) (rows : List (List Bool)) (seen : List Bool) (q : List Nat) : Prop where
  i : WkI ev ts pts rows seen q
  c : ∀ i, i < pts.length → seenAt seen i → i ∈ q ∨ i = a ∨ ∀ k, WkC ev ts pts rows seen (rows.getD i []) i k
  e : WkC ev ts pts rows seen r0 a k
  s : a ∈ q ∨ rows.getD a [] = r0
  r : ∀ v, v < ts.length → (r0.getD v false != ev) = true → Ac ev ts pts 0 a v
theorem WkO.pop {ev : Bool} {ts : List Int} {pts : List Pt} {rows : List (List Bool)} {seen : List Bool} {a : Nat} {q : List Nat} (h : WkO ev ts pts rows seen (a :: q)) : WkN ev ts pts a (rows.getD a []) 0 rows seen q := by
  have ha := h.i.qs a (by simp)
  refine ⟨⟨h.i.len, h.i.slen, h.i.row, h.i.nrow, h.i.sound, h.i.ini, h.i.inv, fun i hi => h.i.qs i (by simp [hi])⟩, fun i hi hs => ?_, fun p _ n hn => by simp at hn, .inr rfl, fun v hv => h.i.sound a v ha.1 hv ha.2⟩
  rcases h.c i hi hs with h1 | h1
  · rcases List.mem_cons.1 h1 with h2 | h2
    · exact .inr (.inl h2)
    · exact .inl h2
  · exact .inr (.inr h1)
theorem WkN.out {ev : Bool} {ts : List Int} {pts : List Pt} {rows : List (List Bool)} {seen : List Bool} {a k : Nat} {r0 : List Bool} {q : List Nat} (h : WkN ev ts pts a r0 k rows seen q) (hk : ∀ p, pts[a]? = some p → p.next.length ≤ k) : WkO ev ts pts rows seen q := by
  refine ⟨h.i, fun i hi hs => ?_⟩
  rcases h.c i hi hs with h1 | h1 | h1
  · exact .inl h1
  · subst h1
    rcases h.s with h2 | h2
    · exact .inl h2
    · refine .inr fun j p hp n hn => ?_
      rw [h2]
      exact h.e p hp n (by rw [List.take_of_length_le (hk p hp)]; exact List.mem_of_mem_take hn)
  · exact .inr h1
theorem seen_set {seen : List Bool} {n i : Nat} (hn : n < seen.length) : seenAt (seen.set n true) i ↔ (i = n ∨ seenAt seen i) := by
  unfold seenAt
  rw [getD_setB hn]
  split
  · rename_i h; simp [h]
  · rename_i h; simp [h]
theorem row_set {rows : List (List Bool)} {n i : Nat} {r : List Bool} (hn : n < rows.length) : (rows.set n r).getD i [] = if i = n then r else rows.getD i [] := by
  by_cases h : i = n
  · subst h; simp [List.getD, hn]
  · rw [if_neg h]; simp [List.getD, Ne.symm h]
/-- row n joined -/
theorem WkN.step {ev : Bool} {ts : List Int} {pts : List Pt} {rows : List (List Bool)} {seen : List Bool} {a k n : Nat} {r0 aft : List Bool} {q q' : List Nat} {p : Pt} (h : WkN ev ts pts a r0 k rows seen q)
    (hp : pts[a]? = some p) (hk : k < p.next.length) (hn : n = p.next[k]) (hnl : n < pts.length) (hal : aft.length = ts.length) (haf : ∀ v, v < ts.length → aft.getD v false = vlB ts p (r0.getD v false) v)
    (hq : q' = q ++ [n] ∨ (q' = q ∧ seenAt seen n ∧ rows.getD n [] = joinP ev (rows.getD n []) aft)) :
    WkN ev ts pts a r0 (k + 1) (rows.set n (joinP ev (rows.getD n []) aft)) (seen.set n true) q' := by
  have hnr : n < rows.length := by rw [h.i.len]; exact hnl
  have hns : n < seen.length := by rw [h.i.slen]; exact hnl
  have hold : (rows.getD n []).length ≤ aft.length := by
    by_cases hs : seenAt seen n
    · rw [h.i.row n hnl hs, hal]; exact Nat.le_refl _
    · rw [h.i.nrow n hnl hs]; simp
  have hnew : ∀ v, v < ts.length → acR ev (rows.set n (joinP ev (rows.getD n []) aft)) n v = ((decide (seenAt seen n) && acR ev rows n v) || (vlB ts p (r0.getD v false) v != ev)) := by
    intro v hv
    unfold acR rget
    rw [row_set hnr, if_pos rfl, join_get _ _ _ (by omega)]
    by_cases hs : seenAt seen n
    · rw [if_pos (by rw [h.i.row n hnl hs]; exact hv), jn_acc, haf v hv, decide_eq_true hs, Bool.true_and]
    · rw [if_neg (by rw [h.i.nrow n hnl hs]; simp), haf v hv, decide_eq_false hs, Bool.false_and, Bool.false_or]
  have hoth : ∀ i v, i ≠ n → acR ev (rows.set n (joinP ev (rows.getD n []) aft)) i v = acR ev rows i v := by
    intro i v hi
    unfold acR rget
    rw [row_set hnr, if_neg hi]
  have hmono : ∀ i v, v < ts.length → seenAt seen i → acR ev rows i v = true → acR ev (rows.set n (joinP ev (rows.getD n []) aft)) i v = true := by
    intro i v hv hs ha
    by_cases hi : i = n
    · subst hi; rw [hnew v hv, decide_eq_true hs, ha]; rfl
    · rw [hoth i v hi]; exact ha
  have hqq : ∀ i, i ∈ q → i ∈ q' := by
    intro i hi
    rcases hq with rfl | ⟨rfl, -, -⟩
    · simp [hi]
    · exact hi
  have hsm : ∀ i, seenAt seen i → seenAt (seen.set n true) i := fun i hs => (seen_set hns).2 (.inr hs)
  have hnm : n ∈ p.next := by rw [hn]; exact List.getElem_mem hk
  have hset : n ∈ q' ∨ rows.set n (joinP ev (rows.getD n []) aft) = rows := by
    rcases hq with rfl | ⟨rfl, -, he⟩
    · exact .inl (by simp)
    · refine .inr ?_
      rw [← he]
      rw [getD_lt hnr]
      exact List.set_getElem_self hnr
  have hC : ∀ r i j, WkC ev ts pts rows seen r i j → WkC ev ts pts (rows.set n (joinP ev (rows.getD n []) aft)) (seen.set n true) r i j := fun r i j hc p' hp' m hm =>
    ⟨hsm m (hc p' hp' m hm).1, fun v hv hx => hmono m v hv (hc p' hp' m hm).1 ((hc p' hp' m hm).2 v hv hx)⟩
  have hrc : ∀ i, i ∈ q' ∨ (rows.set n (joinP ev (rows.getD n []) aft)).getD i [] = rows.getD i [] := by
    intro i
    rcases hset with h1 | h1
    · by_cases hi : i = n
      · subst hi; exact .inl h1
      · right; rw [row_set hnr, if_neg hi]
    · right; rw [h1]
  refine ⟨⟨?_, ?_, fun i hi hs => ?_, fun i hi hs => ?_, fun i v hi hv hs ha => ?_, hsm 0 h.i.ini, fun he v hv => hmono 0 v hv h.i.ini (h.i.inv he v hv), fun i hi => ?_⟩, fun i hi hs => ?_, fun p' hp' m hm => ?_, ?_, h.r⟩
  · rw [List.length_set, h.i.len]
  · rw [List.length_set, h.i.slen]
  · rw [row_set hnr]
    split
    · rw [join_len, hal]
    · rename_i hne
      exact h.i.row i hi (((seen_set hns).1 hs).resolve_left hne)
  · rw [row_set hnr, if_neg (fun e => hs ((seen_set hns).2 (.inl e)))]
    exact h.i.nrow i hi fun e => hs (hsm i e)
  · by_cases hin : i = n
    · subst hin
      rw [hnew v hv] at ha
      rcases Bool.or_eq_true_iff.1 ha with h1 | h1
      · have h2 := Bool.and_eq_true_iff.1 h1
        exact h.i.sound i v hi hv (of_decide_eq_true h2.1) h2.2
      · rw [vl_acc ev hv] at h1
        cases hb : (r0.getD v false != ev)
        · rw [hb] at h1; exact .gen hp hnm hv h1
        · rw [hb] at h1; exact .keep hp hnm (h.r v hv hb) h1
    · rw [hoth i v hin] at ha
      exact h.i.sound i v hi hv (((seen_set hns).1 hs).resolve_left hin) ha
  · rcases hq with rfl | ⟨rfl, -, -⟩
    · rcases List.mem_append.1 hi with h1 | h1
      · exact ⟨(h.i.qs i h1).1, hsm i (h.i.qs i h1).2⟩
      · obtain rfl : i = n := by simpa using h1
        exact ⟨hnl, (seen_set hns).2 (.inl rfl)⟩
    · exact ⟨(h.i.qs i hi).1, hsm i (h.i.qs i hi).2⟩
  · rcases (seen_set hns).1 hs with h1 | h1
    · subst h1
      rcases hq with rfl | ⟨rfl, h2, -⟩
      · exact .inl (by simp)
      · rcases h.c i hi h2 with h3 | h3 | h3
        · exact .inl h3
        · exact .inr (.inl h3)
        · rcases hrc i with h4 | h4
          · exact .inl h4
          · exact .inr (.inr fun j => by rw [h4]; exact hC _ _ _ (h3 j))
    · rcases h.c i hi h1 with h3 | h3 | h3
      · exact .inl (hqq i h3)
      · exact .inr (.inl h3)
      · rcases hrc i with h4 | h4
        · exact .inl h4
        · exact .inr (.inr fun j => by rw [h4]; exact hC _ _ _ (h3 j))
  · have hpe : p' = p := by rw [hp] at hp'; exact (Option.some.inj hp').symm
    subst hpe
    rw [List.take_succ_eq_append_getElem hk] at hm
    rcases List.mem_append.1 hm with h1 | h1
    · exact hC _ _ _ h.e p' hp m h1
    · obtain rfl : m = n := by rw [hn]; simpa using h1
      exact ⟨(seen_set hns).2 (.inl rfl), fun v hv hx => by rw [hnew v hv, hx]; simp⟩
  · rcases h.s with h1 | h1
    · exact .inl (hqq a h1)
    · rcases hrc a with h2 | h2
      · exact .inl h2
      · exact .inr (by rw [h2]; exact h1)

/-- at the end the rows are what is gathered -/
theorem WkO.done {ev : Bool} {ts : List Int} {pts : List Pt} {rows : List (List Bool)} {seen : List Bool} (h : WkO ev ts pts rows seen []) (h0 : 0 < pts.length) (hnx : ∀ p ∈ pts, ∀ k ∈ p.next, k < pts.length) (hr : ∀ k, k < pts.length → Rch pts k) {i : Nat} (hi : i < pts.length) :
    (rows.getD i []).length = ts.length ∧ ∀ v, v < ts.length → rget rows i v = (dec (Ac ev ts pts 0 i v) != ev) := by
  have hc : ∀ i, i < pts.length → seenAt seen i → ∀ k, WkC ev ts pts rows seen (rows.getD i []) i k := fun i hi hs => (h.c i hi hs).resolve_left (by simp)
  have hlt : ∀ {i : Nat} {p : Pt}, pts[i]? = some p → i < pts.length := fun {i p} hp => (List.getElem?_eq_some_iff.1 hp).1
  have hall : ∀ k, Rch pts k → seenAt seen k := by
    intro k hk
    induction hk with
    | start => exact h.i.ini
    | @step i k p hk hp hkn ih => exact ((hc i (hlt hp) ih p.next.length) p hp k (by rw [List.take_length]; exact hkn)).1
  have hac : ∀ i v, Ac ev ts pts 0 i v → i < pts.length ∧ acR ev rows i v = true := by
    intro i v ha
    induction ha with
    | @init v hv h1 => exact ⟨h0, h.i.inv (by cases ev <;> simp [accB] at h1 ⊢) v hv⟩
    | @gen i k v p hp hk hv h1 =>
      refine ⟨hnx p (List.mem_of_getElem? hp) k hk, ((hc i (hlt hp) (hall i (hr i (hlt hp))) p.next.length) p hp k (by rw [List.take_length]; exact hk)).2 v hv ?_⟩
      rw [vl_acc ev hv, trB_mono, h1]; rfl
    | @keep i k v p hp hk ha h1 ih =>
      refine ⟨hnx p (List.mem_of_getElem? hp) k hk, ((hc i (hlt hp) (hall i (hr i (hlt hp))) p.next.length) p hp k (by rw [List.take_length]; exact hk)).2 v ha.lt ?_⟩
      have e := ih.2
      unfold acR rget at e
      rw [vl_acc ev ha.lt, trB_mono, e, h1]; simp
  have hs := hall i (hr i hi)
  refine ⟨h.i.row i hi hs, fun v hv => ?_⟩
  have e : dec (Ac ev ts pts 0 i v) = acR ev rows i v := by
    rw [Bool.eq_iff_iff, dec_iff]
    exact ⟨fun ha => (hac i v ha).2, fun ha => h.i.sound i v hi hv hs ha⟩
  rw [e]
  unfold acR
  cases rget rows i v <;> cases ev <;> rfl

end Go.Proofs.Ytidlifijgooceaa

/- Plain: rows of bools that say what always has a value. No program in sight. -/
namespace Go.Proofs.Ytidlifijgooceaa

structure FdI (ts : List Int) (pts : List Pt) (gv : Nat) (rows : List (List Bool)) : Prop where
  len : rows.length = pts.length
  row : ∀ i, i < rows.length → (rows.getD i []).length = ts.length
  sound : ∀ i v, i < rows.length → v < ts.length → rget rows i v = false → Ac true ts pts gv i v
  init : ∀ v, v < ts.length → gv.testBit v = false → rget rows 0 v = false
theorem vl_tr {ts : List Int} {p : Pt} {b : Bool} {v : Nat} (hv : v < ts.length) : vlB ts p b v = !trB true ts p (!b) v := by
  unfold vlB trB
  have h1 : (takenP ts p.op p.x p.y).testBit v = (useP ts p.op p.x p.y (v : Nat) == 2) := by unfold takenP; rw [bm_bit, decide_eq_true hv, Bool.true_and]
  rw [h1, setBit_bit]
  cases b <;> cases (useP ts p.op p.x p.y (v : Nat) == 2) <;> cases decide (setsP p.op p.x = (v : Nat)) <;> rfl
/-- what is not there behind a point is lacked at each Next -/
theorem FdI.aft {ts : List Int} {pts : List Pt} {gv : Nat} {rows : List (List Bool)} (h : FdI ts pts gv rows) {i v : Nat} {p : Pt} (hp : pts[i]? = some p) (hi : i < rows.length) (hv : v < ts.length) (ha : vlB ts p (rget rows i v) v = false) : ∀ k ∈ p.next, Ac true ts pts gv k v := by
  intro k hk
  rw [vl_tr hv, Bool.not_eq_false'] at ha
  cases hb : rget rows i v
  · rw [hb] at ha; exact .keep hp hk (h.sound i v hi hv hb) ha
  · rw [hb] at ha; exact .gen hp hk hv ha
theorem FdI.upd {ts : List Int} {pts : List Pt} {gv : Nat} {rows : List (List Bool)} (h : FdI ts pts gv rows) {n v : Nat} (hn : n < rows.length) (hv : v < ts.length) (ha : Ac true ts pts gv n v) : FdI ts pts gv (rset rows n v false) := by
  refine ⟨by rw [rset_len, h.len], fun j hj => by rw [rset_row hn, h.row j (by simpa [rset_len] using hj)], fun j u hj hu hr => ?_, fun u hu hg => ?_⟩
  · rw [rget_rset hn (by rw [h.row n hn]; exact hv)] at hr
    split at hr
    · rename_i e; obtain ⟨rfl, rfl⟩ := e; exact ha
    · exact h.sound j u (by simpa [rset_len] using hj) hu hr
  · rw [rget_rset hn (by rw [h.row n hn]; exact hv)]
    split
    · rfl
    · exact h.init u hu hg
/-- the rows r0 are closed along the edge from i to n for the first u variables -/
def FdV (ts : List Int) (r0 : List (List Bool)) (p : Pt) (i n u : Nat) : Prop := ∀ v, v < u → rget r0 n v = true → vlB ts p (rget r0 i v) v = true
def FdC (ts : List Int) (pts : List Pt) (r0 : List (List Bool)) (k : Nat) : Prop := ∀ i p, i < k → pts[i]? = some p → ∀ n ∈ p.next, FdV ts r0 p i n ts.length
theorem FdI.done {ts : List Int} {pts : List Pt} {gv : Nat} {rows : List (List Bool)} (h : FdI ts pts gv rows) (hpos : 0 < pts.length) (hnx : ∀ p ∈ pts, ∀ k ∈ p.next, k < pts.length) (hc : FdC ts pts rows pts.length) {i v : Nat} (hi : i < pts.length) (hv : v < ts.length) :
    rget rows i v = !dec (Ac true ts pts gv i v) := by
  have hac : ∀ i v, Ac true ts pts gv i v → i < pts.length ∧ rget rows i v = false := by
    intro i v ha
    induction ha with
    | init hv h1 => exact ⟨hpos, h.init _ hv (by simpa [accB] using h1)⟩
    | @gen i k v p hp hk hv h1 =>
      have hi : i < pts.length := by
        rcases Nat.lt_or_ge i pts.length with h | h
        · exact h
        · rw [List.getElem?_eq_none h] at hp; cases hp
      refine ⟨hnx p (List.mem_of_getElem? hp) k hk, ?_⟩
      cases hr : rget rows k v
      · rfl
      · have := hc i p hi hp k hk v hv hr
        rw [vl_tr hv, trB_mono, h1] at this
        simp at this
    | @keep i k v p hp hk ha h1 ih =>
      have hi := ih.1
      refine ⟨hnx p (List.mem_of_getElem? hp) k hk, ?_⟩
      cases hr : rget rows k v
      · rfl
      · have := hc i p hi hp k hk v ha.lt hr
        rw [vl_tr ha.lt, ih.2, Bool.not_false, h1] at this
        simp at this
  cases hr : rget rows i v
  · rw [dec_true (h.sound i v (by rw [h.len]; exact hi) hv hr)]; rfl
  · rw [dec_false fun ha => by rw [(hac i v ha).2] at hr; cases hr]; rfl
/-- the first rows -/
def row0 (ts : List Int) (gv : Nat) (i : Nat) : List Bool := (List.range ts.length).map fun v => decide (0 < i) || gv.testBit v
theorem row0_get {ts : List Int} {gv i v : Nat} (hv : v < ts.length) : (row0 ts gv i).getD v false = (decide (0 < i) || gv.testBit v) := by
  unfold row0; rw [getD_lt (by simpa using hv)]; simp
theorem row0_len (ts : List Int) (gv i : Nat) : (row0 ts gv i).length = ts.length := by simp [row0]
theorem FdI.first (ts : List Int) (pts : List Pt) (gv : Nat) (hpos : 0 < pts.length) : FdI ts pts gv ((List.range pts.length).map (row0 ts gv)) := by
  have hg : ∀ i, i < pts.length → ((List.range pts.length).map (row0 ts gv)).getD i [] = row0 ts gv i := fun i hi => by rw [getD_lt (by simpa using hi)]; simp
  refine ⟨by simp, fun i hi => by rw [hg i (by simpa using hi), row0_len], fun i v hi hv hr => ?_, fun v hv hgv => ?_⟩
  · unfold rget at hr
    rw [hg i (by simpa using hi), row0_get hv, Bool.or_eq_false_iff] at hr
    have h0 : i = 0 := by have := hr.1; simp at this; exact this
    subst h0
    exact .init hv (by simp [accB, hr.2])
  · unfold rget
    rw [hg 0 hpos, row0_get hv, hgv]; rfl

end Go.Proofs.Ytidlifijgooceaa

/- More words for rows of bools: a row that was filled before it is appended. -/
namespace Go.Proofs.Ytidlifijgooceaa
open Go.RowKit

theorem OBools.other {w : World} {base g : Nat} {v : Value} {l : List Bool} (h : OBools w base v l) (hg : g < base) (i : Nat) (u : Value) : OBools (w.setCell ⟨g, i, none⟩ u) base v l :=
  h.kept (grown_set w g i u) (.inr (by
    cases e : v.ownBlock with
    | none => simp
    | some k => intro e'; injection e' with e'; have := (World.ownsRow.lt h k e).1; omega))
end Go.Proofs.Ytidlifijgooceaa

/- Words for a queue of ints, and for the rows that stand beside it. -/
namespace Go.Proofs.Ytidlifijgooceaa
open Go.RowKit

/-- a slice of a block of its own, that loses its head and grows at its end -/
def Qu (w : World) (base : Nat) (v : Value) (q : List Nat) : Prop :=
  ∃ g off cap, ∃ cur : Array Value, v = .slice (some ⟨g, off, none⟩) q.length cap ∧ base ≤ g ∧ w.heap[g]? = some (.cells cur 3 (0, 0)) ∧ q.length ≤ cap ∧ off + cap ≤ cur.size ∧ ∀ j, j < q.length → cur[off + j]? = some (.int .i64 (q.getD j 0 : Nat))
theorem Qu.bel {w w' : World} {base : Nat} {v : Value} {q : List Nat} (h : Qu w base v q) (hb : Below w.heap.size w w') : Qu w' base v q := by
  obtain ⟨g, off, cap, cur, e, h1, h2, h3⟩ := h
  have hg : g < w.heap.size := by
    rcases Nat.lt_or_ge g w.heap.size with h | h
    · exact h
    · rw [Array.getElem?_eq_none h] at h2; cases h2
  exact ⟨g, off, cap, cur, e, h1, (hb.block g hg).trans h2, h3⟩
theorem Qu.other {w : World} {base : Nat} {v : Value} {q : List Nat} (h : Qu w base v q) {b : Nat} (hb : b < base) (i : Nat) (u : Value) : Qu (w.setCell ⟨b, i, none⟩ u) base v q := by
  obtain ⟨g, off, cap, cur, e, h1, h2, h3⟩ := h
  exact ⟨g, off, cap, cur, e, h1, (heap_setCell_other w ⟨b, i, none⟩ g u (by show g ≠ b; omega)).trans h2, h3⟩
theorem Qu.head {w : World} {base : Nat} {v : Value} {a : Nat} {q : List Nat} (h : Qu w base v (a :: q)) :
    ∃ g off c, v = .slice (some ⟨g, off, none⟩) (q.length + 1) (c + 1) ∧ q.length ≤ c ∧ g < w.heap.size ∧ w.cell? ⟨g, off, none⟩ = some (.int .i64 (a : Nat)) ∧ (∀ off', (off' = off ∧ c = 0 ∨ off' = off + 1) → Qu w base (.slice (some ⟨g, off', none⟩) q.length c) q) := by
  obtain ⟨g, off, cap, cur, e, h1, h2, h3, h4, h5⟩ := h
  obtain ⟨c, rfl⟩ : ∃ c, cap = c + 1 := ⟨cap - 1, by simp at h3; omega⟩
  simp only [List.length_cons] at h3 h5
  have hg : g < w.heap.size := by
    rcases Nat.lt_or_ge g w.heap.size with h | h
    · exact h
    · rw [Array.getElem?_eq_none h] at h2; cases h2
  refine ⟨g, off, c, e, by omega, hg, ?_, fun off' ho => ⟨g, off', c, cur, rfl, h1, h2, by omega, by omega, fun j hj => ?_⟩⟩
  · rw [cell_of_row _ _ _ _ _ _ h2]
    have := h5 0 (by omega)
    simpa using this
  · rcases ho with ⟨-, hc⟩ | rfl
    · omega
    · have := h5 (j + 1) (by omega)
      rw [show off + 1 + j = off + (j + 1) by omega, this]
      simp [List.getD]

/-- the memory of spec.l3Forward -/
structure FQ (W : World) (G S : Nat) (rows : List (List Bool)) (seen : List Bool) (vs : List Value) (vq : Value) (q : List Nat) : Prop where
  lt : G < S
  out : RowB W G 88 vs
  vl : vs.length = rows.length
  row : ∀ i, i < rows.length → OBools W (S + 1) (vs.getD i (.slice none 0 0)) (rows.getD i [])
  sn : RowB W S 4 (bv seen)
  que : Qu W (S + 1) vq q
theorem FQ.bel {W W' : World} {G S : Nat} {rows : List (List Bool)} {seen : List Bool} {vs : List Value} {vq : Value} {q : List Nat} (h : FQ W G S rows seen vs vq q) (hb : Below W.heap.size W W') : FQ W' G S rows seen vs vq q :=
  ⟨h.lt, h.out.low hb h.out.lt, h.vl, fun i hi => (h.row i hi).bel hb, h.sn.low hb h.sn.lt, h.que.bel hb⟩
theorem FQ.put {W : World} {G S : Nat} {rows : List (List Bool)} {seen : List Bool} {vs : List Value} {vq : Value} {q : List Nat} (h : FQ W G S rows seen vs vq q) {n : Nat} {v : Value} {r : List Bool} (hn : n < rows.length) (hv : OBools W (S + 1) v r) : FQ (W.setCell ⟨G, n, none⟩ v) G S (rows.set n r) seen (vs.set n v) vq q := by
  have hl := h.lt
  refine ⟨h.lt, h.out.set_ n v, by rw [List.length_set, List.length_set, h.vl], fun i hi => ?_, h.sn.other (by omega) _ _, h.que.other (by omega) _ _⟩
  rw [row_set hn]
  by_cases hi' : i = n
  · subst hi'
    rw [if_pos rfl, show (vs.set i v).getD i (.slice none 0 0) = v by simp [List.getD, show i < vs.length by rw [h.vl]; exact hn]]
    exact hv.other (by omega) _ _
  · rw [if_neg hi', show (vs.set n v).getD i (.slice none 0 0) = vs.getD i (.slice none 0 0) by simp [List.getD, Ne.symm hi']]
    exact (h.row i (by simpa using hi)).other (by omega) _ _
theorem getD_rep {α : Type} (m i : Nat) (x d : α) (h : i < m) : (List.replicate m x).getD i d = x := by simp [List.getD, h]
theorem FQ.first (w1 : World) (m nt : Nat) (r0 : List Bool) (hr : r0.length = nt) (h2 : nt ≤ 1000) :
    FQ ((((w1.alloc (.cells (Value.slice (some ⟨w1.heap.size + 1 + 1, 0, none⟩) nt nt :: List.replicate m (Value.slice none 0 0)).toArray 88)).alloc (.cells (Value.bool true :: bv (List.replicate m false)).toArray 4)).alloc (.cells (bv r0).toArray 4)).alloc (.cells #[.int .i64 0] 3))
      w1.heap.size (w1.heap.size + 1) (r0 :: List.replicate m []) (true :: List.replicate m false) (Value.slice (some ⟨w1.heap.size + 1 + 1, 0, none⟩) nt nt :: List.replicate m (Value.slice none 0 0)) (.slice (some ⟨w1.heap.size + 1 + 1 + 1, 0, none⟩) 1 1) [0] := by
  have k1 := RowB.new w1 (Value.slice (some ⟨w1.heap.size + 1 + 1, 0, none⟩) nt nt :: List.replicate m (Value.slice none 0 0)) 88
  have s1 : (w1.alloc (.cells (Value.slice (some ⟨w1.heap.size + 1 + 1, 0, none⟩) nt nt :: List.replicate m (Value.slice none 0 0)).toArray 88)).heap.size = w1.heap.size + 1 := by simp
  generalize w1.alloc (.cells (Value.slice (some ⟨w1.heap.size + 1 + 1, 0, none⟩) nt nt :: List.replicate m (Value.slice none 0 0)).toArray 88) = w2 at *
  have k2 := RowB.new w2 (Value.bool true :: bv (List.replicate m false)) 4
  have s2 : (w2.alloc (.cells (Value.bool true :: bv (List.replicate m false)).toArray 4)).heap.size = w2.heap.size + 1 := by simp
  have k1' := k1.alloc (.cells (Value.bool true :: bv (List.replicate m false)).toArray 4)
  generalize w2.alloc (.cells (Value.bool true :: bv (List.replicate m false)).toArray 4) = w3 at *
  have k3 := RowB.new w3 (bv r0) 4
  have s3 : (w3.alloc (.cells (bv r0).toArray 4)).heap.size = w3.heap.size + 1 := by simp
  have k1'' := k1'.alloc (.cells (bv r0).toArray 4)
  have k2'' := k2.alloc (.cells (bv r0).toArray 4)
  generalize w3.alloc (.cells (bv r0).toArray 4) = w4 at *
  have k4 := RowB.new w4 [.int .i64 0] 3
  rw [s1] at k2''
  rw [s2, s1] at k3
  rw [s3, s2, s1] at k4
  refine ⟨by omega, k1''.alloc _, by simp, fun i hi => ?_, k2''.alloc _, ⟨w1.heap.size + 1 + 1 + 1, 0, 1, #[.int .i64 0], rfl, by omega, k4, by simp, by simp, fun j hj => ?_⟩⟩
  · cases i with
    | zero =>
      refine ⟨by simp [bv], .inr ⟨w1.heap.size + 1 + 1, nt, (bv r0).toArray, by simp [hr], by omega, k3.alloc _, by simp [hr], by simp only [maxLen]; omega, by simp [bv, hr], ?_⟩⟩
      simp [bv]
      exact List.take_of_length_le (by simp)
    | succ i =>
      have him : i < m := by simpa using hi
      have e1 : (r0 :: List.replicate m ([] : List Bool)).getD (i + 1) [] = [] := getD_rep m i [] [] him
      have e2 : (Value.slice (some ⟨w1.heap.size + 1 + 1, 0, none⟩) nt nt :: List.replicate m (Value.slice none 0 0)).getD (i + 1) (Value.slice none 0 0) = Value.slice none 0 0 := getD_rep m i _ _ him
      rw [e1, e2]
      exact World.ownsRow_nil _ _ _ _
  · obtain rfl : j = 0 := by simp at hj; omega
    rfl
theorem WkO.first (ev : Bool) (ts : List Int) (pts : List Pt) (m : Nat) (hm : pts.length = m + 1) : WkO ev ts pts (List.replicate ts.length false :: List.replicate m []) (true :: List.replicate m false) [0] := by
  have hs : ∀ i, i < pts.length → seenAt (true :: List.replicate m false) i → i = 0 := by
    intro i hi hs
    cases i with
    | zero => rfl
    | succ i =>
      have e : (true :: List.replicate m false).getD (i + 1) false = false := getD_rep m i _ _ (by omega)
      unfold seenAt at hs
      rw [e] at hs; cases hs
  have ha : ∀ v, v < ts.length → acR ev (List.replicate ts.length false :: List.replicate m []) 0 v = (false != ev) := by
    intro v hv
    unfold acR rget
    rw [show (List.replicate ts.length false :: List.replicate m ([] : List Bool)).getD 0 [] = List.replicate ts.length false from rfl, getD_rep _ _ _ _ hv]
  refine ⟨⟨by simp [hm], by simp [hm], fun i hi h => ?_, fun i hi h => ?_, fun i v hi hv h ha' => ?_, rfl, fun he v hv => by rw [ha v hv, he]; rfl, fun i hi => ?_⟩, fun i hi h => .inl (by rw [hs i hi h]; simp)⟩
  · rw [hs i hi h]; simp
  · cases i with
    | zero => exact absurd rfl h
    | succ i => exact getD_rep m i _ _ (by omega)
  · rw [hs i hi h] at ha' ⊢
    rw [ha v hv] at ha'
    exact .init hv (by simpa [accB] using ha')
  · obtain rfl : i = 0 := by simpa using hi
    exact ⟨by omega, rfl⟩

theorem FQ.old {W : World} {G S : Nat} {rows : List (List Bool)} {seen : List Bool} {vs : List Value} {vq : Value} {q : List Nat} (h : FQ W G S rows seen vs vq q) {n c : Nat} {A : Option Addr} (hn : n < rows.length) (h6 : (rows.getD n []).length ≤ 1000) (e : vs.getD n (.slice none 0 0) = .slice A (rows.getD n []).length c) : BoolS W W.heap.size (.slice A (rows.getD n []).length c) (rows.getD n []) := by
  have := (h.row n hn).toS (by omega)
  rwa [e] at this
theorem WkN.go {ev : Bool} {ts : List Int} {pts : List Pt} {rows : List (List Bool)} {seen : List Bool} {a k n : Nat} {r0 aft : List Bool} {q : List Nat} {p : Pt} (h : WkN ev ts pts a r0 k rows seen q)
    (hp : pts[a]? = some p) (hn : p.next[k]? = some n) (hnl : n < pts.length) (hal : aft.length = ts.length) (haf : ∀ v, v < ts.length → aft.getD v false = vlB ts p (r0.getD v false) v) :
    WkN ev ts pts a r0 (k + 1) (rows.set n (joinP ev (rows.getD n []) aft)) (seen.set n true) (q ++ [n]) := by
  obtain ⟨hk, e⟩ := List.getElem?_eq_some_iff.1 hn
  exact h.step hp hk e.symm hnl hal haf (.inl rfl)
end Go.Proofs.Ytidlifijgooceaa

/- Words for a queue of ints: a whole slice is appended to it. -/
namespace Go.Proofs.Ytidlifijgooceaa
open Go.RowKit

theorem RowB.setCells {g : Nat} {t : TypeId} : ∀ (vs : List Value) (o : Nat) (w : World) (L : List Value), RowB w g t L → o + vs.length ≤ L.length → ∃ L', RowB (w.setCells g o vs) g t L' ∧ L'.length = L.length ∧ ∀ j, L'[j]? = if o ≤ j ∧ j < o + vs.length then vs[j - o]? else L[j]?
  | [], o, w, L, h, _ => ⟨L, h, rfl, fun j => by rw [if_neg (by simp only [List.length_nil]; omega)]⟩
  | v :: vs, o, w, L, h, hl => by
    simp only [List.length_cons] at hl
    obtain ⟨L', h1, h2, h3⟩ := RowB.setCells vs (o + 1) (w.setCell ⟨g, o, none⟩ v) (L.set o v) (h.set_ o v) (by simp; omega)
    refine ⟨L', h1, by rw [h2]; simp, fun j => ?_⟩
    rw [h3]
    simp only [List.length_cons]
    by_cases e : j = o
    · subst e
      rw [if_neg (by omega), if_pos ⟨by omega, by omega⟩, List.getElem?_set_self (by omega), Nat.sub_self]; rfl
    · by_cases e2 : o + 1 ≤ j ∧ j < o + 1 + vs.length
      · rw [if_pos e2, if_pos ⟨by omega, by omega⟩, show j - o = (j - (o + 1)) + 1 by omega]; rfl
      · rw [if_neg e2, if_neg (by omega), List.getElem?_set_ne (Ne.symm e)]
theorem below_setL {B g : Nat} (hg : B ≤ g) : ∀ (vs : List Value) (o : Nat) (w : World), Below B w (w.setCells g o vs)
  | [], _, w => Below.refl B w
  | v :: r, o, w => ((Below.refl B w).setCell (p := ⟨g, o, none⟩) hg v).trans (below_setL hg r (o + 1) _)
theorem Qu.one {w : World} {base : Nat} (hb : base ≤ w.heap.size) (a : Nat) : Qu (w.alloc (.cells #[.int .i64 (a : Nat)] 3)) base (.slice (some ⟨w.heap.size, 0, none⟩) 1 1) [a] :=
  ⟨w.heap.size, 0, 1, #[.int .i64 (a : Nat)], rfl, hb, heap_alloc_new w _, Nat.le_refl _, by simp, fun j hj => by
    obtain rfl : j = 0 := by simpa using hj
    rfl⟩
theorem Qu.slice {w : World} {base : Nat} {v : Value} {q : List Nat} (h : Qu w base v q) : ∃ g off cap, v = .slice (some ⟨g, off, none⟩) q.length cap ∧ q.length ≤ cap := by
  obtain ⟨g, off, cap, cur, e, h1, h2, h3, h4⟩ := h
  exact ⟨g, off, cap, e, h3⟩
/-- append(work, list...) -/
theorem wpList_app_q {ops : Array Oper} {rest : List Oper} {o : Oper} {a : Act} {Q : Exit → Act → World → Prop} {W : World} {base : Nat} {v : Value} {q : List Nat} (hgd : o.guard = none) (s x : Operand)
    (ho : o.op = .call { callee := .builtin .append, args := #[s, x], argTypes := #[23, 23] })
    (h : Qu W base v q) (hb : base ≤ W.heap.size) (hq : q.length ≤ 100000) {B : Nat} {vs : Value} {nx : List Nat} (hn : IntS W B vs (msk nx)) (hnx : nx.length ≤ 1000) (hs : a.eval s = v) (hx : a.eval x = vs)
    (hK : ∀ v' w', Qu w' base v' (q ++ nx) → Below base W w' → wpList Try.prog ops Q rest (a.put o.dst v') w') :
    wpList Try.prog ops Q (o :: rest) a W := by
  obtain ⟨i0, hi0, hz0, hz1, hz2⟩ := info_parts Try.infoInt
  obtain ⟨g, off, cap, cur, e, h1, h2, h3, h4, h5⟩ := h
  subst e
  obtain ⟨A, c, rfl, hc, hm, hr⟩ := hn
  rw [msk_len] at hc hm hx
  have hcell : ∀ j u, (q.map fun (m : Nat) => Value.int .i64 (m : Int))[j]? = some u → W.cell? ⟨g, off + j, none⟩ = some u := by
    intro j u hu
    have hj : j < q.length := by
      rcases Nat.lt_or_ge j q.length with hh | hh
      · exact hh
      · rw [List.getElem?_eq_none (by simpa using hh)] at hu; cases hu
    rw [cell_of_row _ _ _ _ _ _ h2, h5 j hj]
    rw [List.getElem?_map, List.getElem?_eq_getElem hj] at hu
    rw [getD_lt hj]
    simpa using hu
  cases A with
  | none =>
    have h0 : nx = [] := by
      rcases Nat.eq_zero_or_pos nx.length with h0 | h0
      · exact List.length_eq_zero_iff.1 h0
      · obtain ⟨b, off', e, _⟩ := hr.2 (by rw [msk_len]; exact h0)
        cases e
    subst h0
    refine wpList_plain hgd fun K hK' => ?_
    unfold Oper.wp
    simp [execOp, ho, resolve, invoke, builtin, hs, hx, Builtin.append_, run_underlying Try.underlying23, sizeOf, typeInfo, hi0, Builtin.lenOf, Builtin.firstCells, h3, storeCells, Result.andThen]
    exact hK' _ _ (hK _ _ (by rw [List.append_nil]; exact ⟨g, off, cap, cur, rfl, h1, h2, h3, h4, h5⟩) (Below.refl _ _))
  | some ad =>
    have hsrc : ∀ j u, ((msk nx).map (Value.int .i64))[j]? = some u → W.cell? (ad.add j) = some u := fun j u hu => by
      have hj : 0 < (msk nx).length := by
        rcases Nat.eq_zero_or_pos (msk nx).length with hh | hh
        · rw [List.getElem?_eq_none (by simp only [List.length_map]; omega)] at hu; cases hu
        · exact hh
      obtain ⟨b, off', e, _, hcl⟩ := hr.2 hj
      have e' := Option.some.inj e
      subst e'
      rw [Addr.add_lit]
      exact hcl j u hu
    have hnl : ((msk nx).map (Value.int .i64)).length = nx.length * 1 := by rw [List.length_map, msk_len, Nat.mul_one]
    have hng : ∀ j, j < nx.length → ((msk nx).map (Value.int .i64))[j]? = some (.int .i64 (nx.getD j 0 : Nat)) := fun j hj => by
      rw [getD_lt hj]; simp [msk, hj]
    refine wpList_append_arg W hgd s x 23 ho 3 i0 _ 1 8 Try.underlying23 hi0 hz0 hz1 hz2 rfl (by omega) g off q.length cap (q.map fun (m : Nat) => Value.int .i64 (m : Int)) hs (by simp) hcell ad nx.length c ((msk nx).map (Value.int .i64)) hx hnl hsrc (fun u hu => by obtain ⟨z, _, rfl⟩ := List.mem_map.1 hu; rfl) (fun hroom j hj => ?_) (by simp only [maxLen]; omega) (by omega) (fun hroom => ?_) (fun hgrow v' w' hown hgr => ?_)
    · rw [hnl] at hj
      refine ⟨?_, frozen_of_row _ _ _ _ _ h2⟩
      rw [cell_of_row _ _ _ _ _ _ h2, Array.getElem?_eq_getElem (by omega)]; rfl
    · refine hK _ _ ?_ (below_setL h1 _ _ _)
      have hrow : RowB W g 3 cur.toList := by unfold RowB; simpa using h2
      obtain ⟨L', k1, k2, k3⟩ := RowB.setCells ((msk nx).map (Value.int .i64)) (off + q.length * 1) W cur.toList hrow (by rw [hnl]; simp; omega)
      refine ⟨g, off, cap, L'.toArray, by rw [List.length_append], h1, k1, by rw [List.length_append]; exact hroom, by simp [k2]; omega, fun j hj => ?_⟩
      rw [List.length_append] at hj
      rw [List.getElem?_toArray, k3, hnl]
      by_cases hjq : j < q.length
      · rw [if_neg (by omega), show (q ++ nx).getD j 0 = q.getD j 0 by rw [getD_lt (by simp; omega), getD_lt hjq, List.getElem_append_left hjq], ← h5 j hjq]
        simp
      · rw [if_pos (by omega), show off + j - (off + q.length * 1) = j - q.length by omega, hng _ (by omega), show (q ++ nx).getD j 0 = nx.getD (j - q.length) 0 by
          rw [getD_lt (by simp; omega), getD_lt (show j - q.length < nx.length by omega), List.getElem_append_right (by omega)]]
    · have hb3 : Below W.heap.size W w' := ⟨hgr.os, hgr.tape, hgr.output, hgr.size, fun k hk => hgr.block k hk (by simp)⟩
      refine hK _ _ ?_ (hb3.mono hb)
      rcases hown.2 with ⟨_, h0⟩ | ⟨g', cap', cur', hv, hbg, hh, hc1, _, hc2, hc3⟩
      · omega
      · refine ⟨g', 0, cap', cur', by rw [hv, List.length_append], by omega, hh, by rw [List.length_append]; exact hc1, by omega, fun j hj => ?_⟩
        rw [List.length_append] at hj
        have e1 : (cur'.toList.take ((q.length + nx.length) * 1))[j]? = cur'[0 + j]? := by
          rw [List.getElem?_take, if_pos (by simpa using hj)]
          simp
        rw [← e1, hc3]
        by_cases hjq : j < q.length
        · rw [List.getElem?_append_left (by simpa using hjq), show (q ++ nx).getD j 0 = q.getD j 0 by rw [getD_lt (by simp; omega), getD_lt hjq, List.getElem_append_left hjq], getD_lt hjq]
          simp [hjq]
        · rw [List.getElem?_append_right (by simp; omega), List.length_map, hng _ (by omega), show (q ++ nx).getD j 0 = nx.getD (j - q.length) 0 by
            rw [getD_lt (by simp; omega), getD_lt (show j - q.length < nx.length by omega), List.getElem_append_right (by omega)]]

end Go.Proofs.Ytidlifijgooceaa

/- impl.indices, impl.PathsFrom. -/
namespace Go.Proofs.Ytidlifijgooceaa
open Go.RowKit

end Go.Proofs.Ytidlifijgooceaa

/- Plain: what flows, beside what may be set, what is needed, what leads where. No program in sight. -/
namespace Go.Proofs.Ytidlifijgooceaa

theorem Fl.used {ts : List Int} {pts : List Pt} {i v e : Nat} (h : Fl ts pts Gset Cset i v e) (hn : Nd ts pts i v) : ∃ p, pts[e]? = some p ∧ setsP p.op p.x = (v : Nat) ∧ ∃ j ∈ p.next, Nd ts pts j v := by
  induction h with
  | gen hp hk _ hs h =>
    have h' := (beq_iff_eq.1 h)
    subst h'
    exact ⟨_, hp, hs, _, hk, hn⟩
  | copy _ _ _ _ hc _ _ => simp [Cset] at hc
  | keep hp hk _ hs _ _ ih => exact ih (.flow hp hk hn hs)
/-- what a loan is of, lies in it afterwards; and stays where it was -/
theorem Fl.loan {ts : List Int} {pts : List Pt} {i k e : Nat} {p : Pt} (hp : pts[i]? = some p) (hk : k ∈ p.next) (ho : p.op = 4 ∨ p.op = 5) (g : Good ts pts) (h : Fl ts pts Gcell Ccell i p.y.toNat e) :
    Fl ts pts Gcell Ccell k p.x.toNat e ∧ Fl ts pts Gcell Ccell k p.y.toNat e := by
  rcases g.ok p (List.mem_of_getElem? hp) with hh | hh | hh | hh
  · omega
  · omega
  · omega
  · have hx := typeOf_in (simple_x hh).2.2
    have hy := typeOf_in (simple_y hh (by omega))
    have hxn : ((p.x.toNat : Nat) : Int) = p.x := by omega
    have hyn : ((p.y.toNat : Nat) : Int) = p.y := by omega
    have hs : setsP p.op p.x = p.x := by unfold setsP; rw [if_pos (by omega)]
    have hne : p.x ≠ p.y := by rcases ho with ho | ho <;> rw [ho] at hh <;> simp [simpleP] at hh <;> exact hh.2.2
    refine ⟨.copy hp hk (by omega) (by rw [hs, hxn]) (by rcases ho with ho | ho <;> simp [Ccell, ho]) h, .keep hp hk (by omega) (by rw [hs, hyn]; exact hne) ?_ h⟩
    rw [hyn]
    rcases ho with ho | ho <;> simp [useP, ho]

end Go.Proofs.Ytidlifijgooceaa

/- Plain: loans: from which of them values come, where they are placed. No program in sight. -/
namespace Go.Proofs.Ytidlifijgooceaa

def lonB (p : Pt) : Bool := p.op == 4 || p.op == 5
theorem lonB_iff {p : Pt} : lonB p = true ↔ p.op = 4 ∨ p.op = 5 := by simp [lonB]
theorem Gloan_iff {i e : Nat} {p : Pt} : Gloan i p e = true ↔ (p.op = 4 ∨ p.op = 5) ∧ e = i := by simp [Gloan]
theorem Gloan_lt64 {pts : List Pt} (h : pts.length ≤ 61) : ∀ i p e, pts[i]? = some p → Gloan i p e = true → e < 64 := fun i p e hp h2 => by
  have := (Gloan_iff.1 h2).2
  have hi := (List.getElem?_eq_some_iff.1 hp).1
  omega
/-- what comes from a loan: the loan's point, which leads there; and it is a reference -/
theorem Fl.loanOf {ts : List Int} {pts : List Pt} {i v e : Nat} (h : Fl ts pts Gloan (Cloan ts) i v e) (g : Good ts pts) : (∃ p, pts[e]? = some p ∧ (p.op = 4 ∨ p.op = 5)) ∧ Lds pts e i ∧ isRefP (typeOfP ts (v : Nat)) = true := by
  induction h with
  | @gen i k v e p hp hk hv hs h =>
    obtain ⟨ho, rfl⟩ := Gloan_iff.1 h
    refine ⟨⟨p, hp, ho⟩, .one hp hk, ?_⟩
    rcases g.ok p (List.mem_of_getElem? hp) with hh | hh | hh | hh
    · omega
    · omega
    · omega
    · have hx : p.x = (v : Nat) := by rw [← hs]; unfold setsP; rw [if_pos (by omega)]
      rw [← hx]
      rcases ho with ho | ho <;> rw [ho] at hh <;> simp [simpleP] at hh <;> (rw [hh.2.1.1]; rfl)
  | @copy i k v e p hp hk hv hs hc hi ih =>
    obtain ⟨ih1, ih2, ih3⟩ := ih
    refine ⟨ih1, ih2.snoc hp hk, ?_⟩
    have ho : p.op = 3 ∨ p.op = 4 ∨ p.op = 5 := by
      unfold Cloan at hc
      simp at hc
      rcases hc with h | ⟨h, _⟩ <;> omega
    rcases g.ok p (List.mem_of_getElem? hp) with hh | hh | hh | hh
    · omega
    · omega
    · omega
    · have hx : p.x = (v : Nat) := by rw [← hs]; unfold setsP; rw [if_pos (by omega)]
      have hy := typeOf_in (simple_y hh (by omega))
      have hyn : ((p.y.toNat : Nat) : Int) = p.y := by omega
      rw [hyn] at ih3
      rw [← hx]
      rcases ho with ho | ho | ho <;> rw [ho] at hh <;> simp [simpleP] at hh
      · rw [hh.2.1.1]; exact ih3
      · rw [hh.2.1.1]; rfl
      · rw [hh.2.1.1]; rfl
  | keep hp hk _ _ _ _ ih => exact ⟨ih.1, ih.2.1.snoc hp hk, ih.2.2⟩

/-- does p end the placing of the loan at e? -/
def killB (ts : List Int) (pts : List Pt) (p : Pt) (e : Nat) : Bool := match pts[e]? with
  | some q => lonB q && (useP ts p.op p.x p.y q.y == 2 || setsP p.op p.x == q.y)
  | none => false
/-- which loans are placed before a point -/
inductive Pld (ts : List Int) (pts : List Pt) : Nat → Nat → Prop
  | gen {i k : Nat} {p : Pt} (hp : pts[i]? = some p) (hk : k ∈ p.next) (hl : lonB p = true) : Pld ts pts k i
  | keep {i k e : Nat} {p : Pt} (hp : pts[i]? = some p) (hk : k ∈ p.next) (hn : killB ts pts p e = false) (hi : Pld ts pts i e) : Pld ts pts k e
theorem Pld.loan {ts : List Int} {pts : List Pt} {k e : Nat} (h : Pld ts pts k e) : (∃ p, pts[e]? = some p ∧ lonB p = true) ∧ Lds pts e k := by
  induction h with
  | gen hp hk hl => exact ⟨⟨_, hp, hl⟩, .one hp hk⟩
  | keep hp hk _ _ ih => exact ⟨ih.1, ih.2.snoc hp hk⟩
theorem Pld.lt {ts : List Int} {pts : List Pt} {k e : Nat} (h : Pld ts pts k e) : e < pts.length := by
  obtain ⟨⟨p, hp, -⟩, -⟩ := h.loan
  exact (List.getElem?_eq_some_iff.1 hp).1
def aftP (ts : List Int) (pts : List Pt) (i : Nat) (p : Pt) (b : Nat → Bool) (e : Nat) : Bool := (b e && !killB ts pts p e) || (lonB p && e == i)
theorem Pld.aft {ts : List Int} {pts : List Pt} {i k e : Nat} {p : Pt} {b : Nat → Bool} (hb : ∀ e, b e = true → Pld ts pts i e) (hp : pts[i]? = some p) (hk : k ∈ p.next) (h : aftP ts pts i p b e = true) : Pld ts pts k e := by
  unfold aftP at h
  rw [Bool.or_eq_true, Bool.and_eq_true, Bool.and_eq_true] at h
  rcases h with ⟨h1, h2⟩ | ⟨h1, h2⟩
  · exact .keep hp hk (by simpa using h2) (hb e h1)
  · obtain rfl := beq_iff_eq.1 h2
    exact .gen hp hk h1
theorem Pld.done {ts : List Int} {pts : List Pt} {st : Nat → Nat → Bool} (hc : ∀ i p k e, pts[i]? = some p → k ∈ p.next → e < pts.length → aftP ts pts i p (st i) e = true → st k e = true) {k e : Nat} (h : Pld ts pts k e) : st k e = true := by
  have hl := h.lt
  induction h with
  | gen hp hk hl2 => exact hc _ _ _ _ hp hk hl (by unfold aftP; rw [hl2]; simp)
  | keep hp hk hn hi ih => exact hc _ _ _ _ hp hk hl (by unfold aftP; rw [ih hl, hn]; rfl)

/-- the search for what is placed, its sets numbers of 64 bits -/
def stP (os : List Nat) (i e : Nat) : Bool := (os.getD i 0).testBit e
structure PlI (ts : List Int) (pts : List Pt) (os : List Nat) : Prop where
  len : os.length = pts.length
  small : ∀ m ∈ os, m < top64
  snd : ∀ i e, stP os i e = true → Pld ts pts i e
theorem PlI.init (ts : List Int) (pts : List Pt) : PlI ts pts (List.replicate pts.length 0) := by
  refine ⟨by simp, fun m hm => ?_, fun i e h => ?_⟩
  · rw [(List.mem_replicate.1 hm).2]; exact Nat.two_pow_pos _
  · have h0 : (List.replicate pts.length 0).getD i 0 = 0 := by
      by_cases hk : i < pts.length
      · rw [getD_lt (by simpa using hk)]; simp
      · rw [getD_ge (by simpa using hk)]
    unfold stP at h
    rw [h0] at h; simp at h
theorem stP_set {os : List Nat} {k s i e : Nat} (hk : k < os.length) : stP (os.set k (os.getD k 0 ||| s)) i e = (stP os i e || (decide (i = k) && s.testBit e)) := by
  unfold stP
  rw [getD_setT hk]
  by_cases e1 : i = k
  · rw [if_pos e1, e1, Nat.testBit_or]; simp
  · rw [if_neg e1]; simp [e1]
theorem PlI.upd {ts : List Int} {pts : List Pt} {os : List Nat} {k s : Nat} (h : PlI ts pts os) (hk : k < pts.length) (hs : s < top64) (hf : ∀ e, s.testBit e = true → Pld ts pts k e) : PlI ts pts (os.set k (os.getD k 0 ||| s)) := by
  have hl : k < os.length := by rw [h.len]; omega
  refine ⟨by simp [h.len], fun m hm => ?_, fun i e he => ?_⟩
  · rcases List.mem_or_eq_of_mem_set hm with hm | rfl
    · exact h.small m hm
    · exact or_top (getD_small h.small _) hs
  · rw [stP_set hl, Bool.or_eq_true] at he
    rcases he with he | he
    · exact h.snd i e he
    · simp only [Bool.and_eq_true, decide_eq_true_eq] at he
      obtain ⟨rfl, he⟩ := he
      exact hf e he
def muP (n : Nat) (os : List Nat) : Nat := muB n 1 64 (fun i _ e => stP os i e)
theorem PlI.mu {os : List Nat} {n k s : Nat} (hl : os.length = n) (hsm : ∀ m ∈ os, m < top64) (hk : k < n) (hs : s < top64) (hne : os.getD k 0 ||| s ≠ os.getD k 0) : muP n (os.set k (os.getD k 0 ||| s)) < muP n os := by
  have hkl : k < os.length := by rw [hl]; exact hk
  obtain ⟨e, he, h0, h1⟩ := or_new (getD_small hsm _) hs hne
  unfold muP
  refine muB_lt (i := k) (v := 0) (e := e) (fun i u e h => ?_) hk (by omega) he ?_ ?_
  · rw [stP_set hkl, h]; rfl
  · unfold stP; exact h0
  · rw [stP_set hkl, h1]; simp
/-- along all edges of point i nothing is missing -/
def ClP (ts : List Int) (pts : List Pt) (os : List Nat) (i : Nat) : Prop := ∀ p, pts[i]? = some p → ∀ k ∈ p.next, ∀ e, aftP ts pts i p (stP os i) e = true → stP os k e = true
theorem PlI.done {ts : List Int} {pts : List Pt} {os : List Nat} (h : PlI ts pts os) (hc : ∀ i, i < pts.length → ClP ts pts os i) (i e : Nat) : stP os i e = true ↔ Pld ts pts i e := by
  refine ⟨h.snd i e, fun hf => Pld.done (st := stP os) (fun i p k e hp hk _ ha => ?_) hf⟩
  exact hc i (List.getElem?_eq_some_iff.1 hp).1 p hp k hk e ha

end Go.Proofs.Ytidlifijgooceaa
