import Derived.Test.YtfioaohadanjmaaC11
import Derived.Deep.RegionLaw
import Derived.Test.YtfioaohadanjmaaC13
import Derived.Test.YtfioaohadanjmaaC18
set_option linter.unusedVariables false

/- Words for l1Mutate: a field of a statement turns; a statement is struck; a statement is put behind. -/
namespace Go.Proofs.Ytfioaohadanjmaa
open Go.RowKit

theorem szL_set {l : List St} {k : Nat} (hk : k < l.length) (s : St) (h : s.sz = l[k].sz) : szL (l.set k s) = szL l := by
  induction l generalizing k with
  | nil => simp at hk
  | cons a r ih =>
    cases k with
    | zero => simp only [List.set_cons_zero, szL]; simp at h; omega
    | succ k =>
      have := ih (k := k) (by simpa using hk) (by simpa using h)
      simp only [List.set_cons_succ, szL]; omega
def St.upd (j : Nat) (x : Int) : St → St
  | .mk op a b n th el => if j = 0 then .mk x a b n th el else if j = 1 then .mk op x b n th el else if j = 2 then .mk op a x n th el else .mk op a b x th el
theorem St.upd_sz (j : Nat) (x : Int) (s : St) : (s.upd j x).sz = s.sz := by
  cases s; simp only [St.upd]; repeat' split
  all_goals rfl
theorem St.upd_th (j : Nat) (x : Int) (s : St) : (s.upd j x).th = s.th ∧ (s.upd j x).el = s.el := by
  cases s; simp only [St.upd]; repeat' split
  all_goals exact ⟨rfl, rfl⟩
theorem St.upd_eq {j : Nat} (x : Int) (s : St) (hj : j < 4) : s.upd j x = .mk (if j = 0 then x else s.op) (if j = 1 then x else s.x) (if j = 2 then x else s.y) (if j = 3 then x else s.n) s.th s.el := by
  cases s
  rcases (show j = 0 ∨ j = 1 ∨ j = 2 ∨ j = 3 by omega) with rfl | rfl | rfl | rfl <;> rfl
theorem cell_set_same {w : World} {b o : Nat} {u v : Value} (h : w.cell? ⟨b, o, none⟩ = some u) : (w.setCell ⟨b, o, none⟩ v).cell? ⟨b, o, none⟩ = some v := World.cell?_setCell_same (w := w) (a := ⟨b, o, none⟩) (v := v) (u := u) h
theorem cell_set_off {w : World} {b o o' : Nat} {v : Value} (h : o ≠ o') : (w.setCell ⟨b, o, none⟩ v).cell? ⟨b, o', none⟩ = w.cell? ⟨b, o', none⟩ := World.cell?_setCell_other (w := w) (a := ⟨b, o, none⟩) (b := ⟨b, o', none⟩) (v := v) (fun e => h (by injection e))
theorem OSt.form {w : World} {base : Nat} {v : Value} {l : List St} (h : OSt w base v l) (hn : 0 < l.length) : ∃ g cap, v = .slice (some ⟨g, 0, none⟩) l.length cap ∧ base ≤ g ∧ g < w.heap.size ∧ l.length ≤ cap ∧
    (∀ i (hi : i < l.length), ∃ tv ev, w.cell? ⟨g, i * 6, none⟩ = some (.int .i64 l[i].op) ∧ w.cell? ⟨g, i * 6 + 1, none⟩ = some (.int .i64 l[i].x) ∧ w.cell? ⟨g, i * 6 + 2, none⟩ = some (.int .i64 l[i].y) ∧ w.cell? ⟨g, i * 6 + 3, none⟩ = some (.int .i64 l[i].n) ∧
      w.cell? ⟨g, i * 6 + 4, none⟩ = some tv ∧ w.cell? ⟨g, i * 6 + 5, none⟩ = some ev ∧ StX w (fun b => base ≤ b ∧ g ≠ b) tv l[i].th ∧ StX w (fun b => base ≤ b ∧ g ≠ b) ev l[i].el) ∧ (∀ j, w.frozen? ⟨g, j, none⟩ = false) := by
  obtain ⟨es, rfl, h2, h3⟩ := h
  simp only [List.length_map] at hn
  obtain ⟨g, cap, rfl, hb, hlt⟩ := h2.form hn
  refine ⟨g, cap, by simp, hb, hlt, ?_, fun i hi => ?_, fun j => ?_⟩
  · rcases h2.2 with ⟨e, _⟩ | ⟨g', cap', cur, e, _, _, hc, _⟩
    · cases e
    · injection e with e1 e2 e3; subst e3; simpa using hc
  · have hi' : i < es.length := by simpa using hi
    obtain ⟨a0, a1, a2, a3, a4, a5⟩ := seCells_at hi'
    have hat : ∀ j, j < 6 → w.cell? ⟨g, i * 6 + j, none⟩ = (seCells es)[i * 6 + j]? := fun j hj => h2.cellAt _ (by omega)
    have hat0 : w.cell? ⟨g, i * 6, none⟩ = (seCells es)[i * 6]? := hat 0 (by omega)
    have k := h3 es[i] (List.getElem_mem hi')
    refine ⟨es[i].tv, es[i].ev, ?_⟩
    simp only [hat0, hat 1 (by omega), hat 2 (by omega), hat 3 (by omega), hat 4 (by omega), hat 5 (by omega), a0, a1, a2, a3, a4, a5, List.getElem_map]
    refine ⟨by first | trivial | rfl, by first | trivial | rfl, by first | trivial | rfl, by first | trivial | rfl, by first | trivial | rfl, by first | trivial | rfl, ?_, ?_⟩
    · exact k.1.frame (Nat.le_refl _) fun b hb' _ => ⟨⟨hb'.1, fun e => hb'.2 (by rw [e]; rfl)⟩, rfl⟩
    · exact k.2.frame (Nat.le_refl _) fun b hb' _ => ⟨⟨hb'.1, fun e => hb'.2 (by rw [e]; rfl)⟩, rfl⟩
  · rcases h2.2 with ⟨e, _⟩ | ⟨g', cap', cur, e, _, hh, _⟩
    · cases e
    · injection e with e1 e2 e3
      injection e1 with e1
      injection e1 with e1
      subst e1
      exact frozen_of_row w g j _ _ hh
/-- a field of a statement of an owned row turns -/
theorem OSt.upd {w : World} {base g cap : Nat} {l : List St} (h : OSt w base (.slice (some ⟨g, 0, none⟩) l.length cap) l) {k : Nat} (hk : k < l.length) (j : Nat) (hj : j < 4) (x : Int) :
    ∃ l', StX (w.setCell ⟨g, k * 6 + j, none⟩ (.int .i64 x)) (fun b => base ≤ b) (.slice (some ⟨g, 0, none⟩) l.length cap) l' ∧ szL l' = szL l := by
  obtain ⟨g', cap', e, hb, hlt, hc, hcell, _⟩ := h.form (by omega)
  injection e with e1 e2 e3
  injection e1 with e1
  injection e1 with e1
  subst e1 e3
  refine ⟨l.set k (l[k].upd j x), ?_, szL_set hk _ (St.upd_sz _ _ _)⟩
  have hlen : l.length = (l.set k (l[k].upd j x)).length := by simp
  have hgs := grown_set w g (k * 6 + j) (.int .i64 x)
  have hcl := fun (i : Nat) (hi : i < l.length) => hcell i hi
  have hget : ∀ i (hi : i < (l.set k (l[k].upd j x)).length), (l.set k (l[k].upd j x))[i] = if k = i then l[k].upd j x else l[i]'(by simpa using hi) := fun i hi => List.getElem_set ..
  rw [show (Value.slice (some ⟨g, 0, none⟩) l.length cap) = .slice (some ⟨g, 0, none⟩) (l.set k (l[k].upd j x)).length cap by rw [← hlen]]
  refine .mk _ cap _ (fun i => if hi : i < l.length then (hcl i hi).choose else .slice none 0 0) (fun i => if hi : i < l.length then (hcl i hi).choose_spec.choose else .slice none 0 0) (by simpa using hc) (fun hn => ⟨g, 0, rfl, hb, by rw [size_set]; exact hlt, fun i hi => ?_⟩) (fun i hi => ?_) (fun i hi => ?_)
  · have hi' : i < l.length := by simpa using hi
    obtain ⟨c0, c1, c2, c3, c4, c5, -, -⟩ := (hcl i hi').choose_spec.choose_spec
    rw [hget]
    simp only [Nat.zero_add, dif_pos hi']
    by_cases hki : k = i
    · subst hki
      rw [if_pos rfl]
      have hoff : ∀ j', j ≠ j' → ∀ u, w.cell? ⟨g, k * 6 + j', none⟩ = some u → (w.setCell ⟨g, k * 6 + j, none⟩ (.int .i64 x)).cell? ⟨g, k * 6 + j', none⟩ = some u := fun j' hj' u hu => (cell_set_off (by omega)).trans hu
      have hoff0 : j ≠ 0 → (w.setCell ⟨g, k * 6 + j, none⟩ (.int .i64 x)).cell? ⟨g, k * 6, none⟩ = some (.int .i64 l[k].op) := fun hj' => (cell_set_off (by omega)).trans c0
      rw [St.upd_eq x l[k] hj]
      rcases (show j = 0 ∨ j = 1 ∨ j = 2 ∨ j = 3 by omega) with rfl | rfl | rfl | rfl
      · exact ⟨cell_set_same c0, hoff 1 (by omega) _ c1, hoff 2 (by omega) _ c2, hoff 3 (by omega) _ c3, hoff 4 (by omega) _ c4, hoff 5 (by omega) _ c5⟩
      · exact ⟨hoff0 (by omega), cell_set_same c1, hoff 2 (by omega) _ c2, hoff 3 (by omega) _ c3, hoff 4 (by omega) _ c4, hoff 5 (by omega) _ c5⟩
      · exact ⟨hoff0 (by omega), hoff 1 (by omega) _ c1, cell_set_same c2, hoff 3 (by omega) _ c3, hoff 4 (by omega) _ c4, hoff 5 (by omega) _ c5⟩
      · exact ⟨hoff0 (by omega), hoff 1 (by omega) _ c1, hoff 2 (by omega) _ c2, cell_set_same c3, hoff 4 (by omega) _ c4, hoff 5 (by omega) _ c5⟩
    · rw [if_neg hki]
      exact ⟨(cell_set_off (by omega)).trans c0, (cell_set_off (by omega)).trans c1, (cell_set_off (by omega)).trans c2, (cell_set_off (by omega)).trans c3, (cell_set_off (by omega)).trans c4, (cell_set_off (by omega)).trans c5⟩
  · have hi' : i < l.length := by simpa using hi
    obtain ⟨-, -, -, -, -, -, t, -⟩ := (hcl i hi').choose_spec.choose_spec
    rw [hget, dif_pos hi']
    have : (if k = i then l[k].upd j x else l[i]).th = l[i].th := by
      split
      · rename_i e; subst e; exact (St.upd_th _ _ _).1
      · rfl
    rw [this]
    exact t.frame hgs.size fun b hb' hl' => ⟨hb'.1, hgs.block b hl' (fun e => by injection e with e; exact hb'.2 e.symm)⟩
  · have hi' : i < l.length := by simpa using hi
    obtain ⟨-, -, -, -, -, -, -, t⟩ := (hcl i hi').choose_spec.choose_spec
    rw [hget, dif_pos hi']
    have : (if k = i then l[k].upd j x else l[i]).el = l[i].el := by
      split
      · rename_i e; subst e; exact (St.upd_th _ _ _).2
      · rfl
    rw [this]
    exact t.frame hgs.size fun b hb' hl' => ⟨hb'.1, hgs.block b hl' (fun e => by injection e with e; exact hb'.2 e.symm)⟩

/-- an owned row of statements whose statements' own rows lie in blocks of R -/
def OStR (w : World) (base : Nat) (R : Nat → Prop) (v : Value) (l : List St) : Prop :=
  ∃ es : List Se, l = es.map Se.st ∧ w.ownsRow base 111 6 v es.length (seCells es) ∧
    ∀ e ∈ es, StX w (fun b => (base ≤ b ∧ R b) ∧ v.ownBlock ≠ some b) e.tv e.th ∧ StX w (fun b => (base ≤ b ∧ R b) ∧ v.ownBlock ≠ some b) e.ev e.el
theorem OStR.to {w : World} {base : Nat} {R : Nat → Prop} {v : Value} {l : List St} (h : OStR w base R v l) : OSt w base v l := by
  obtain ⟨es, rfl, h2, h3⟩ := h
  exact ⟨es, rfl, h2, fun e he => ⟨(h3 e he).1.frame (Nat.le_refl _) fun b hb _ => ⟨⟨hb.1.1, hb.2⟩, rfl⟩, (h3 e he).2.frame (Nat.le_refl _) fun b hb _ => ⟨⟨hb.1.1, hb.2⟩, rfl⟩⟩⟩
theorem OSt.toR {w w' : World} {base : Nat} {R : Nat → Prop} {v : Value} {l : List St} (h : OSt w base v l) (hs : w.heap.size ≤ w'.heap.size) (hk : ∀ b, base ≤ b → b < w.heap.size → R b ∧ w'.heap[b]? = w.heap[b]?) : OStR w' base R v l := by
  obtain ⟨es, rfl, h2, h3⟩ := h
  refine ⟨es, rfl, ⟨h2.1, ?_⟩, fun e he => ?_⟩
  · rcases h2.2 with h' | ⟨g, cap, cur, rfl, hbg, hh, rest⟩
    · exact .inl h'
    · exact .inr ⟨g, cap, cur, rfl, hbg, (hk g hbg (row_lt hh)).2.trans hh, rest⟩
  · obtain ⟨k1, k2⟩ := h3 e he
    have hk' : ∀ b, (base ≤ b ∧ v.ownBlock ≠ some b) → b < w.heap.size → ((base ≤ b ∧ R b) ∧ v.ownBlock ≠ some b) ∧ w'.heap[b]? = w.heap[b]? := fun b hb' hl => ⟨⟨⟨hb'.1, (hk b hb'.1 hl).1⟩, hb'.2⟩, (hk b hb'.1 hl).2⟩
    exact ⟨k1.frame hs hk', k2.frame hs hk'⟩
/-- what leaves alone the rows from base on that are of R -/
theorem OStR.move {w w' : World} {base : Nat} {R : Nat → Prop} {v : Value} {l : List St} (h : OStR w base R v l) (hs : w.heap.size ≤ w'.heap.size) (hown : ∀ g, v.ownBlock = some g → w'.heap[g]? = w.heap[g]?) (hk : ∀ b, base ≤ b → R b → b < w.heap.size → w'.heap[b]? = w.heap[b]?) : OStR w' base R v l := by
  obtain ⟨es, rfl, h2, h3⟩ := h
  refine ⟨es, rfl, ⟨h2.1, ?_⟩, fun e he => ?_⟩
  · rcases h2.2 with h' | ⟨g, cap, cur, rfl, hbg, hh, rest⟩
    · exact .inl h'
    · exact .inr ⟨g, cap, cur, rfl, hbg, (hown g rfl).trans hh, rest⟩
  · obtain ⟨k1, k2⟩ := h3 e he
    have hk' : ∀ b, ((base ≤ b ∧ R b) ∧ v.ownBlock ≠ some b) → b < w.heap.size → ((base ≤ b ∧ R b) ∧ v.ownBlock ≠ some b) ∧ w'.heap[b]? = w.heap[b]? := fun b hb' hl => ⟨hb', hk b hb'.1.1 hb'.1.2 hl⟩
    exact ⟨k1.frame hs hk', k2.frame hs hk'⟩
theorem OStR.first {w : World} {base : Nat} {R : Nat → Prop} {v : Value} {l : List St} (h : OStR w base R v l) (hn : 0 < l.length) : ∃ (g cap : Nat) (e : Se), v = .slice (some ⟨g, 0, none⟩) l.length cap ∧ base ≤ g ∧ g < w.heap.size ∧ l.head? = some e.st ∧
    w.cell? ⟨g, 0, none⟩ = some (.int .i64 e.op) ∧ w.cell? ⟨g, 1, none⟩ = some (.int .i64 e.x) ∧ w.cell? ⟨g, 2, none⟩ = some (.int .i64 e.y) ∧ w.cell? ⟨g, 3, none⟩ = some (.int .i64 e.n) ∧ w.cell? ⟨g, 4, none⟩ = some e.tv ∧ w.cell? ⟨g, 5, none⟩ = some e.ev ∧
    StX w (fun b => (base ≤ b ∧ R b) ∧ v.ownBlock ≠ some b) e.tv e.th ∧ StX w (fun b => (base ≤ b ∧ R b) ∧ v.ownBlock ≠ some b) e.ev e.el := by
  obtain ⟨es, rfl, h2, h3⟩ := h
  simp only [List.length_map] at hn
  obtain ⟨e, r, rfl⟩ : ∃ e r, es = e :: r := by
    cases es with
    | nil => simp at hn
    | cons e r => exact ⟨e, r, rfl⟩
  obtain ⟨g, cap, rfl, hb, hlt⟩ := h2.form hn
  have hat : ∀ j, j < 6 → w.cell? ⟨g, j, none⟩ = (seCells (e :: r))[j]? := fun j hj => h2.cellAt _ (by simp; omega)
  exact ⟨g, cap, e, by simp, hb, hlt, rfl, hat 0 (by omega), hat 1 (by omega), hat 2 (by omega), hat 3 (by omega), hat 4 (by omega), hat 5 (by omega), (h3 e (by simp)).1, (h3 e (by simp)).2⟩
theorem OStR.own_ne {w : World} {base b : Nat} {R : Nat → Prop} {v : Value} {l : List St} {cs : Array Value} {T : TypeId} {fr : Nat × Nat} (h : OStR w base R v l) (hr : w.heap[b]? = some (.cells cs T fr)) (hT : T ≠ 111) : v.ownBlock ≠ some b := by
  obtain ⟨es, rfl, h2, _⟩ := h
  rcases h2.2 with ⟨rfl, _⟩ | ⟨g, cap, cur, rfl, _, hh, _⟩
  · simp [Value.ownBlock]
  · intro e
    injection e with e
    have e' : g = b := e
    subst e'
    rw [hr] at hh
    injection hh with hh
    injection hh with _ hT'
    exact hT hT'
end Go.Proofs.Ytfioaohadanjmaa

/- l1Mutate. -/
namespace Go.Proofs.Ytfioaohadanjmaa
open Go.RowKit

end Go.Proofs.Ytfioaohadanjmaa

/- DrawNeedsOf, DrawTakesOf. -/
namespace Go.Proofs.Ytfioaohadanjmaa
open Go.RowKit

theorem grown_new {w a b : World} {g : Nat} (h : Below w.heap.size w a) (hg : w.heap.size ≤ g) (k : a.grownBy b (some g)) : Below w.heap.size w b :=
  ⟨k.os.trans h.os, k.tape.trans h.tape, k.output.trans h.output, Nat.le_trans h.size k.size, fun i hi => (k.block i (Nat.lt_of_lt_of_le hi h.size) (fun e => by injection e with e; omega)).trans (h.block i hi)⟩
/-- statements without the first -/
theorem StX.tail {w : World} {P : Nat → Prop} {b off n c : Nat} {l : List St} (h : StX w P (.slice (some ⟨b, off, none⟩) n c) l) (hn : 0 < l.length) : StX w P (.slice (some ⟨b, off + 6, none⟩) (n - 1) (c - 1)) l.tail := by
  cases h with
  | mk A c l tv ev hc hr ht he =>
    obtain ⟨b', off', e, hb, hlt, hcell⟩ := hr hn
    injection e with e
    injection e with e1 e2
    subst e1 e2
    have hlen : l.length - 1 = l.tail.length := by simp
    rw [hlen]
    have hget : ∀ i (hi : i < l.tail.length), l.tail[i] = l[i + 1]'(by simp at hi; omega) := fun i hi => by simp
    refine .mk _ _ _ (fun i => tv (i + 1)) (fun i => ev (i + 1)) (by simp; omega) (fun _ => ⟨b, off + 6, rfl, hb, hlt, fun i hi => ?_⟩) (fun i hi => ?_) (fun i hi => ?_)
    · have := hcell (i + 1) (by simp at hi; omega)
      rw [hget]
      have e : off + (i + 1) * 6 = off + 6 + i * 6 := by omega
      rw [e] at this
      exact this
    · rw [hget]; exact ht (i + 1) (by simp at hi; omega)
    · rw [hget]; exact he (i + 1) (by simp at hi; omega)
end Go.Proofs.Ytfioaohadanjmaa

/- spec.l2Branch, l3Place, the draws of the flow laws. -/
namespace Go.Proofs.Ytfioaohadanjmaa
open Go.RowKit

set_option maxHeartbeats 4000000
set_option maxRecDepth 100000

end Go.Proofs.Ytfioaohadanjmaa

/- FnTakesOf: the draw, the plain law, the walk. -/
namespace Go.Proofs.Ytfioaohadanjmaa
open Go.RowKit

end Go.Proofs.Ytfioaohadanjmaa

/- Words for the laws' walks: a drawn program in its box. The plain law of NeedsOpen. -/
namespace Go.Proofs.Ytfioaohadanjmaa
open Go.RowKit

/-- the program (vt, vb) lies in the box g and reads as (ts, l); what was in w is as it was -/
structure PgB (w W : World) (g : Nat) (vt vb : Value) (ts : List Int) (l : List St) : Prop where
  bel : Below w.heap.size w W
  row : W.heap[g]? = some (.cells #[vt, vb] 30 (0, 0))
  ht : IntS W W.heap.size vt ts
  hl : StS W W.heap.size vb l
theorem PgB.lt {w W : World} {g : Nat} {vt vb : Value} {ts : List Int} {l : List St} (h : PgB w W g vt vb ts l) : g < W.heap.size := row_lt h.row
theorem PgB.c0 {w W : World} {g : Nat} {vt vb : Value} {ts : List Int} {l : List St} (h : PgB w W g vt vb ts l) : W.cell? ⟨g, 0, none⟩ = some vt := by rw [cell_of_row _ _ _ _ _ _ h.row]; rfl
theorem PgB.c1 {w W : World} {g : Nat} {vt vb : Value} {ts : List Int} {l : List St} (h : PgB w W g vt vb ts l) : W.cell? ⟨g, 1, none⟩ = some vb := by rw [cell_of_row _ _ _ _ _ _ h.row]; rfl
theorem PgB.bels {w W W' : World} {g : Nat} {vt vb : Value} {ts : List Int} {l : List St} (h : PgB w W g vt vb ts l) (hb : Below W.heap.size W W') : PgB w W' g vt vb ts l :=
  ⟨h.bel.trans (hb.mono h.bel.size), row_below h.row hb, (h.ht.low hb (Nat.le_refl _)).more hb.size, (h.hl.low hb (Nat.le_refl _)).more hb.size⟩
theorem PgB.new {w w1 : World} {vt vb : Value} {ts : List Int} {l : List St} {P Q : Nat → Prop} (ht : IntX w1 P vt ts) (hl : StX w1 Q vb l) (hb : Below w.heap.size w w1) : PgB w (w1.alloc (.cells #[vt, vb] 30)) w1.heap.size vt vb ts l := by
  have hA := bel_a w1 (.cells #[vt, vb] 30)
  exact ⟨hb.trans (hA.mono hb.size), heap_alloc_new w1 _, ((ht.toS).low hA (Nat.le_refl _)).more hA.size, ((hl.toS).low hA (Nat.le_refl _)).more hA.size⟩
theorem IntS.bel {w w' : World} {v : Value} {l : List Int} (h : IntS w w.heap.size v l) (hb : Below w.heap.size w w') : IntS w' w'.heap.size v l := (h.low hb (Nat.le_refl _)).more hb.size
theorem PtS.bel {w w' : World} {v : Value} {pts : List Pt} (h : PtS w w.heap.size v pts) (hb : Below w.heap.size w w') : PtS w' w'.heap.size v pts := (h.low hb (Nat.le_refl _)).more hb.size

end Go.Proofs.Ytfioaohadanjmaa

/- spec.l14Case and the draws that hand it on. -/
namespace Go.Proofs.Ytfioaohadanjmaa
open Go.RowKit

/-- below 'base' only block g has turned -/
structure Gb (base g : Nat) (W w : World) : Prop where
  os : w.os = W.os
  tape : w.tape = W.tape
  output : w.output = W.output
  size : W.heap.size ≤ w.heap.size
  block : ∀ b, b < base → b ≠ g → w.heap[b]? = W.heap[b]?
theorem Gb.refl (base g : Nat) (W : World) : Gb base g W W := ⟨rfl, rfl, rfl, Nat.le_refl _, fun _ _ _ => rfl⟩
theorem Gb.bel {base g : Nat} {W a b : World} (h : Gb base g W a) (k : Below base a b) : Gb base g W b :=
  ⟨k.os.trans h.os, k.tape.trans h.tape, k.output.trans h.output, Nat.le_trans h.size k.size, fun i hi hne => (k.block i hi).trans (h.block i hi hne)⟩
set_option maxHeartbeats 4000000
set_option maxRecDepth 100000

end Go.Proofs.Ytfioaohadanjmaa

/- the draws of a program and small numbers (spec.l10Case and what stands on it). -/
namespace Go.Proofs.Ytfioaohadanjmaa
open Go.RowKit

/-- what the ends of these draws need -/
structure DsE (w W : World) (vt vb : Value) (ts : List Int) (l : List St) : Prop where
  ht : IntX W (fun b => w.heap.size ≤ b) vt ts
  hl : StX W (fun b => w.heap.size ≤ b) vb l
  bel : Below w.heap.size w W
theorem DsE.mk' {w w3 W : World} {vt vb : Value} {ts : List Int} {l : List St} {lo : Nat} (h3 : Below w.heap.size w w3) (hW : w3.grownBy W (some w.heap.size)) (hT : IntX w3 (fun b => lo ≤ b) vt ts) (hB : StX w3 (fun b => lo ≤ b) vb l) (hlo : w.heap.size < lo) : DsE w W vt vb ts l := by
  have hk : ∀ b, lo ≤ b → b < w3.heap.size → w.heap.size ≤ b ∧ W.heap[b]? = w3.heap[b]? := fun b hb hl => ⟨by omega, hW.block b hl (fun e => by injection e with e; omega)⟩
  exact ⟨hT.frame hW.size hk, hB.frame hW.size hk, grown_new h3 (Nat.le_refl _) hW⟩

theorem belC {B : Nat} {w w' : World} {b o : Nat} {x : Option Value} (h : Below B w w') (e : w.cell? ⟨b, o, none⟩ = x) (hb : b < B) : w'.cell? ⟨b, o, none⟩ = x := (h.cell (p := ⟨b, o, none⟩) hb).trans e

end Go.Proofs.Ytfioaohadanjmaa

/- Loans: impl.graph.cameFrom, loansIn; impl.LoansIn. -/
namespace Go.Proofs.Ytfioaohadanjmaa
open Go.RowKit

/-- a row of six numbers is stored over another one -/
theorem set6 {w : World} {b : Nat} {t : TypeId} {l : List Nat} {a0 a1 a2 a3 a4 a5 : Nat} (h : RowB w b t (uv l)) (hl : l.length = 6) :
    ((((((w.setCell ⟨b, 0, none⟩ (.int .u64 (a0 : Nat))).setCell ⟨b, 1, none⟩ (.int .u64 (a1 : Nat))).setCell ⟨b, 2, none⟩ (.int .u64 (a2 : Nat))).setCell ⟨b, 3, none⟩ (.int .u64 (a3 : Nat))).setCell ⟨b, 4, none⟩ (.int .u64 (a4 : Nat))).setCell ⟨b, 5, none⟩ (.int .u64 (a5 : Nat))).heap[b]? = some (.cells #[.int .u64 (a0 : Nat), .int .u64 (a1 : Nat), .int .u64 (a2 : Nat), .int .u64 (a3 : Nat), .int .u64 (a4 : Nat), .int .u64 (a5 : Nat)] t (0, 0)) ∧
    w.grownBy ((((((w.setCell ⟨b, 0, none⟩ (.int .u64 (a0 : Nat))).setCell ⟨b, 1, none⟩ (.int .u64 (a1 : Nat))).setCell ⟨b, 2, none⟩ (.int .u64 (a2 : Nat))).setCell ⟨b, 3, none⟩ (.int .u64 (a3 : Nat))).setCell ⟨b, 4, none⟩ (.int .u64 (a4 : Nat))).setCell ⟨b, 5, none⟩ (.int .u64 (a5 : Nat))) (some b) := by
  obtain ⟨b0, b1, b2, b3, b4, b5, rfl⟩ := list6 hl
  exact box6 h _ _ _ _ _ _
theorem OInts.base {w : World} {base base' : Nat} {v : Value} {l : List Int} (h : OInts w base v l) (hb : base' ≤ base) : OInts w base' v l := by
  refine ⟨h.1, ?_⟩
  rcases h.2 with h' | ⟨g, cap, cur, rfl, hbg, rest⟩
  · exact .inl h'
  · exact .inr ⟨g, cap, cur, rfl, by omega, rest⟩
end Go.Proofs.Ytfioaohadanjmaa
