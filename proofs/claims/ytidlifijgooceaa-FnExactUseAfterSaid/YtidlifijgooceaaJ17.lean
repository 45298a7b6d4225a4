import Derived.Test.YtidlifijgooceaaJ16
import Derived.RegionTactic
import Derived.Deep.RegionHeld3
import Derived.Test.YtidlifijgooceaaJ06
import Derived.Test.YtidlifijgooceaaJ09
import Derived.Deep.RegionHeld
import Derived.Below
set_option linter.unusedVariables false

/- append of a whole slice of ints; l1CopyOf. -/
namespace Go.Proofs.Ytidlifijgooceaa
open Go.RowKit

theorem run_app_nil (w : World) (base : Nat) (ty : TypeId) (v : Value) (l : List Int) (hP : OInts w base v l) (c : Nat) : (Builtin.append_ #[23, 23] ty #[v, .slice none 0 c]).run Try.prog w = .ok v w := by
  obtain ⟨i0, hi0, hz0, hz1, hz2⟩ := info_parts Try.infoInt
  rcases hP.2 with ⟨rfl, h0⟩ | ⟨g, cap, cur, rfl, _, _, hnc, _⟩
  · simp [Builtin.append_, run_underlying Try.underlying23, sizeOf, typeInfo, hi0, Builtin.lenOf, Builtin.firstCells]
  · simp [Builtin.append_, run_underlying Try.underlying23, sizeOf, typeInfo, hi0, Builtin.lenOf, Builtin.firstCells, hnc, storeCells]
theorem run_app_ints (w : World) (base : Nat) (ty : TypeId) (v : Value) (l : List Int) (hP : OInts w base v l) (B : Nat) (vs : Value) (ts : List Int) (hr : IntS w B vs ts) (hb : base ≤ w.heap.size) (hn : l.length + ts.length ≤ 8388608) :
    ∃ v' w', (Builtin.append_ #[23, 23] ty #[v, vs]).run Try.prog w = .ok v' w' ∧ OInts w' base v' (l ++ ts) ∧ w.grownBy w' v.ownBlock ∧ (v'.ownBlock = v.ownBlock ∨ v'.ownBlock = some w.heap.size) := by
  obtain ⟨A, c, rfl, hc, hm, hrd⟩ := hr
  rcases Nat.eq_zero_or_pos ts.length with h0 | h0
  · have hts : ts = [] := List.length_eq_zero_iff.1 h0
    subst hts
    rcases A with _ | ad
    · exact ⟨v, w, run_app_nil w base ty v l hP c, by simpa using hP, World.grownBy.refl w _, .inl rfl⟩
    · obtain ⟨i0, hi0, hz0, hz1, hz2⟩ := info_parts Try.infoInt
      obtain ⟨v', w', hrun, h2, h3, _, h5⟩ := run_append_own_at (P := Try.prog) w base 23 ty 3 i0 _ 1 8 Try.underlying23 hi0 hz0 hz1 hz2 rfl (by omega) v l.length _ hP ad 0 c [] rfl (fun j u h => by simp at h) (fun u h => by simp at h) (by simp only [maxLen]; omega) (by omega) hb
      exact ⟨v', w', hrun, by simpa [OInts] using h2, h3, h5⟩
  · obtain ⟨b, off, rfl, hbl, hcell⟩ := hrd.2 h0
    obtain ⟨i0, hi0, hz0, hz1, hz2⟩ := info_parts Try.infoInt
    obtain ⟨v', w', hrun, h2, h3, _, h5⟩ := run_append_own_at (P := Try.prog) w base 23 ty 3 i0 _ 1 8 Try.underlying23 hi0 hz0 hz1 hz2 rfl (by omega) v l.length _ hP ⟨b, off, none⟩ ts.length c (ts.map (.int .i64)) (by simp)
      (fun j u h => by
        rcases Nat.eq_zero_or_pos j with hj | hj
        · subst hj; simpa [Addr.add] using hcell 0 u h
        · have := hcell j u h
          have hj0 : j ≠ 0 := by omega
          simpa [Addr.add, hj0] using this)
      (fun u h => by obtain ⟨x, _, rfl⟩ := List.mem_map.1 h; rfl) (by simp only [maxLen]; omega) (by omega) hb
    exact ⟨v', w', hrun, by simpa [OInts] using h2, h3, h5⟩
theorem wp_app_ints {o : Oper} {a : Act} {K : Act → World → Prop} {Q : Exit → Act → World → Prop} {w : World} (s x : Operand)
    (ho : o.op = .call { callee := .builtin .append, args := #[s, x], argTypes := #[23, 23] })
    (base : Nat) (v : Value) (l : List Int) (hs : a.eval s = v) (hP : OInts w base v l) (B : Nat) (vs : Value) (ts : List Int) (hx : a.eval x = vs) (hr : IntS w B vs ts) (hb : base ≤ w.heap.size) (hn : l.length + ts.length ≤ 8388608)
    (h : ∀ v' w', OInts w' base v' (l ++ ts) → w.grownBy w' v.ownBlock → (v'.ownBlock = v.ownBlock ∨ v'.ownBlock = some w.heap.size) → K (a.put o.dst v') w') : o.wp Try.prog a w K Q := by
  obtain ⟨v', w', hrun, h2, h3, h4⟩ := run_app_ints w base o.type v l hP B vs ts hr hb hn
  unfold Oper.wp execOp
  simp only [ho, resolve, invoke, builtin, Sem.run_bind, Sem.run_pure, Result.andThen_ok, List.map_toArray, List.map_cons, List.map_nil, hs, hx, hrun]
  exact h v' w' h2 h3 h4
theorem OInts.move {w w' : World} {base base' : Nat} {v : Value} {l : List Int} (h : OInts w base v l) (hb : base' ≤ base) (hk : ∀ b, base ≤ b → b < w.heap.size → w'.heap[b]? = w.heap[b]?) : OInts w' base' v l := by
  refine ⟨h.1, ?_⟩
  rcases h.2 with h' | ⟨g, cap, cur, rfl, hbg, hh, rest⟩
  · exact .inl h'
  · exact .inr ⟨g, cap, cur, rfl, by omega, (hk g hbg (row_lt hh)).trans hh, rest⟩
theorem OInts.own_lt {w : World} {base : Nat} {v : Value} {l : List Int} (h : OInts w base v l) {g : Nat} (e : v.ownBlock = some g) : base ≤ g ∧ g < w.heap.size := World.ownsRow.lt h g e
theorem OSt.own_lt {w : World} {base : Nat} {v : Value} {l : List St} (h : OSt w base v l) {g : Nat} (e : v.ownBlock = some g) : base ≤ g ∧ g < w.heap.size := by
  obtain ⟨es, rfl, h2, _⟩ := h
  exact h2.lt g e
theorem OSt.move {w w' : World} {base base' : Nat} {v : Value} {l : List St} (h : OSt w base v l) (hs : w.heap.size ≤ w'.heap.size) (hb : base' ≤ base) (hk : ∀ b, base ≤ b → b < w.heap.size → w'.heap[b]? = w.heap[b]?) : OSt w' base' v l := by
  obtain ⟨es, rfl, h2, h3⟩ := h
  refine ⟨es, rfl, ⟨h2.1, ?_⟩, fun e he => ?_⟩
  · rcases h2.2 with h' | ⟨g, cap, cur, rfl, hbg, hh, rest⟩
    · exact .inl h'
    · exact .inr ⟨g, cap, cur, rfl, by omega, (hk g hbg (row_lt hh)).trans hh, rest⟩
  · obtain ⟨k1, k2⟩ := h3 e he
    have hk' : ∀ b, (base ≤ b ∧ v.ownBlock ≠ some b) → b < w.heap.size → (base' ≤ b ∧ v.ownBlock ≠ some b) ∧ w'.heap[b]? = w.heap[b]? := fun b hb' hl => ⟨⟨by omega, hb'.2⟩, hk b hb'.1 hl⟩
    exact ⟨k1.frame hs hk', k2.frame hs hk'⟩

end Go.Proofs.Ytidlifijgooceaa

/- Plain: rows of bools that say what is live. No program in sight. -/
namespace Go.Proofs.Ytidlifijgooceaa

def rget (rows : List (List Bool)) (i v : Nat) : Bool := (rows.getD i []).getD v false
def rset (rows : List (List Bool)) (i v : Nat) (b : Bool) : List (List Bool) := rows.set i ((rows.getD i []).set v b)
theorem getD_setL {α : Type} {l : List α} {i k : Nat} {d x : α} (hk : k < l.length) : (l.set k x).getD i d = if i = k then x else l.getD i d := by
  by_cases h : i = k
  · subst h; simp [List.getD, hk]
  · simp [List.getD, h, Ne.symm h]
theorem rget_rset {rows : List (List Bool)} {i v : Nat} {b : Bool} (hi : i < rows.length) (hv : v < (rows.getD i []).length) (j u : Nat) : rget (rset rows i v b) j u = if j = i ∧ u = v then b else rget rows j u := by
  unfold rget rset
  rw [getD_setL hi]
  by_cases hj : j = i
  · subst hj
    rw [if_pos rfl, getD_setL hv]
    by_cases hu : u = v
    · simp [hu]
    · simp [hu]
  · simp [hj]
theorem rset_len (rows : List (List Bool)) (i v : Nat) (b : Bool) : (rset rows i v b).length = rows.length := by simp [rset]
theorem rset_row {rows : List (List Bool)} {i v : Nat} {b : Bool} (hi : i < rows.length) (j : Nat) : ((rset rows i v b).getD j []).length = (rows.getD j []).length := by
  unfold rset
  rw [getD_setL hi]
  split
  · rename_i h; subst h; simp
  · rfl
/-- what is used at a point, or is live behind it and not set at it -/
def needB (ts : List Int) (q : Pt) (b : Bool) (v : Nat) : Bool := (useP ts q.op q.x q.y (v : Nat) != 0) || (b && decide (setsP q.op q.x ≠ (v : Nat)))
structure LvI (ts : List Int) (pts : List Pt) (rows : List (List Bool)) : Prop where
  len : rows.length = pts.length
  row : ∀ i, i < rows.length → (rows.getD i []).length = ts.length
  sound : ∀ i v, rget rows i v = true → ∃ p, pts[i]? = some p ∧ ∃ k ∈ p.next, Nd ts pts k v
theorem LvI.init (ts : List Int) (pts : List Pt) : LvI ts pts (List.replicate pts.length (List.replicate ts.length false)) := by
  have hr : ∀ i, i < pts.length → (List.replicate pts.length (List.replicate ts.length false)).getD i [] = List.replicate ts.length false := fun i hi => by
    rw [getD_lt (by simpa using hi)]; simp
  refine ⟨by simp, fun i hi => ?_, fun i v h => ?_⟩
  · rw [hr i (by simpa using hi)]; simp
  · exfalso
    unfold rget at h
    by_cases hi : i < pts.length
    · rw [hr i hi] at h
      by_cases hv : v < ts.length
      · rw [getD_lt (by simpa using hv)] at h; simp at h
      · rw [getD_ge (by simpa using hv)] at h; cases h
    · rw [getD_ge (l := List.replicate pts.length (List.replicate ts.length false)) (by simpa using hi)] at h; simp at h
theorem LvI.need {ts : List Int} {pts : List Pt} {rows : List (List Bool)} (h : LvI ts pts rows) {n v : Nat} {q : Pt} (hq : pts[n]? = some q) (hv : v < ts.length) (hn : needB ts q (rget rows n v) v = true) : Nd ts pts n v := by
  unfold needB at hn
  rw [Bool.or_eq_true, Bool.and_eq_true] at hn
  rcases hn with hn | ⟨hn, hs⟩
  · exact .use hq hv (by simpa using hn)
  · obtain ⟨p, hp, k, hk, hd⟩ := h.sound n v hn
    rw [hq] at hp; injection hp with hp; subst hp
    exact .flow hq hk hd (by simpa using hs)
theorem LvI.upd {ts : List Int} {pts : List Pt} {rows : List (List Bool)} (h : LvI ts pts rows) {i n v : Nat} {p q : Pt} (hp : pts[i]? = some p) (hn : n ∈ p.next) (hq : pts[n]? = some q) (hv : v < ts.length) (hi : i < rows.length) (hnd : needB ts q (rget rows n v) v = true) :
    LvI ts pts (rset rows i v true) := by
  have hd := h.need hq hv hnd
  refine ⟨by rw [rset_len, h.len], fun j hj => by rw [rset_row hi, h.row j (by simpa [rset_len] using hj)], fun j u hu => ?_⟩
  rw [rget_rset hi (by rw [h.row i hi]; exact hv)] at hu
  split at hu
  · rename_i e
    obtain ⟨rfl, rfl⟩ := e
    exact ⟨p, hp, n, hn, hd⟩
  · exact h.sound j u hu
theorem LvI.done {ts : List Int} {pts : List Pt} {rows : List (List Bool)} (h : LvI ts pts rows) (hnx : ∀ p ∈ pts, ∀ k ∈ p.next, k < pts.length)
    (hc : ∀ i p, pts[i]? = some p → ∀ n ∈ p.next, ∀ q, pts[n]? = some q → ∀ v, v < ts.length → needB ts q (rget rows n v) v = true → rget rows i v = true) (i v : Nat) :
    rget rows i v = true ↔ ∃ p, pts[i]? = some p ∧ ∃ k ∈ p.next, Nd ts pts k v := by
  refine ⟨h.sound i v, ?_⟩
  have hall : ∀ k v, Nd ts pts k v → ∀ i p, pts[i]? = some p → k ∈ p.next → rget rows i v = true := by
    intro k v hd
    induction hd with
    | @use k v q hq hv hu =>
      intro i p hp hk
      exact hc i p hp k hk q hq v hv (by unfold needB; rw [Bool.or_eq_true]; left; simpa using hu)
    | @flow k j v q hq hj hd hs ih =>
      intro i p hp hk
      have hr := ih k q hq hj
      exact hc i p hp k hk q hq v hd.lt (by unfold needB; rw [hr]; simp [hs])
  rintro ⟨p, hp, k, hk, hd⟩
  exact hall k v hd i p hp hk
end Go.Proofs.Ytidlifijgooceaa

/- Words for rows of bools that a call makes. -/
namespace Go.Proofs.Ytidlifijgooceaa
open Go.RowKit

theorem Try.infoBs : (Try.prog.info? 88).map (fun i => (i.zero, i.size, i.bytes)) = some (some (.slice none 0 0), 1, 24) := by kernel_rfl
/-- rows of bools: the outer row's cells lead to blocks of their own -/
structure BRow (w : World) (base : Nat) (v : Value) (rb : List Nat) (m : Nat) (rows : List (List Bool)) : Prop where
  own : w.ownsRow base 88 1 v rows.length (rb.map fun r => .slice (some ⟨r, 0, none⟩) m m)
  len : rb.length = rows.length
  row : ∀ i, i < rows.length → RowB w (rb.getD i 0) 4 (bv (rows.getD i [])) ∧ base ≤ rb.getD i 0
  inj : ∀ i j, i < rows.length → j < rows.length → rb.getD i 0 = rb.getD j 0 → i = j
theorem BRow.empty (w : World) (base m : Nat) (hb : base ≤ w.heap.size) : BRow (w.alloc (.cells #[] 88)) base (.slice (some ⟨w.heap.size, 0, none⟩) 0 0) [] m [] :=
  ⟨World.ownsRow_lit (base := base) (e := 88) (size := 1) w #[] 0 hb (by simp [maxLen]) rfl, rfl, fun i h => by simp at h, fun i j h => by simp at h⟩
theorem BRow.slice {w : World} {base : Nat} {v : Value} {rb : List Nat} {m : Nat} {rows : List (List Bool)} (h : BRow w base v rb m rows) : ∃ A c, v = .slice A rows.length c ∧ rows.length ≤ c := by
  rcases h.own.2 with ⟨rfl, h0⟩ | ⟨g, cap, cur, rfl, _, _, hc, _⟩
  · exact ⟨none, 0, by rw [h0], by omega⟩
  · exact ⟨_, cap, rfl, hc⟩
theorem BRow.form {w : World} {base : Nat} {v : Value} {rb : List Nat} {m : Nat} {rows : List (List Bool)} (h : BRow w base v rb m rows) (hn : 0 < rows.length) :
    ∃ g c, v = .slice (some ⟨g, 0, none⟩) rows.length c ∧ base ≤ g ∧ g < w.heap.size ∧ rows.length ≤ c ∧ (∀ i, i < rows.length → w.cell? ⟨g, i, none⟩ = some (.slice (some ⟨rb.getD i 0, 0, none⟩) m m)) ∧ ∃ cs fr, w.heap[g]? = some (.cells cs 88 fr) := by
  have ho := h.own
  obtain ⟨g, c, rfl, hb, hlt⟩ := ho.form hn
  refine ⟨g, c, rfl, hb, hlt, ?_, fun i hi => ?_, ?_⟩
  · rcases ho.2 with ⟨e, _⟩ | ⟨g', cap', cur, e, _, _, hc, _⟩
    · cases e
    · injection e with e1 e2 e3; subst e3; exact hc
  · have hil : i < rb.length := by rw [h.len]; exact hi
    rw [ho.cellAt i (by omega), List.getElem?_map, List.getElem?_eq_getElem hil, getD_lt hil]; rfl
  · rcases ho.2 with ⟨e, _⟩ | ⟨g', cap', cur, e, _, hh, _⟩
    · cases e
    · injection e with e1 e2 e3
      injection e1 with e1
      injection e1 with e1
      subst e1
      exact ⟨_, _, hh⟩
theorem BRow.low {w w' : World} {base : Nat} {v : Value} {rb : List Nat} {m : Nat} {rows : List (List Bool)} (h : BRow w base v rb m rows) (hb : Below w.heap.size w w') : BRow w' base v rb m rows :=
  ⟨h.own.kept (grown_bel hb (Nat.le_refl _) none) (by cases v.ownBlock <;> simp), h.len, fun i hi => ⟨(h.row i hi).1.low hb (h.row i hi).1.lt, (h.row i hi).2⟩, h.inj⟩
theorem BRow.set {w : World} {base : Nat} {v : Value} {rb : List Nat} {m : Nat} {rows : List (List Bool)} (h : BRow w base v rb m rows) {i u : Nat} (hi : i < rows.length) (b : Bool) :
    BRow (w.setCell ⟨rb.getD i 0, u, none⟩ (.bool b)) base v rb m (rset rows i u b) := by
  have hne : v.ownBlock ≠ some (rb.getD i 0) := by
    rcases h.own.2 with ⟨rfl, _⟩ | ⟨g, cap, cur, rfl, _, hh, _⟩
    · simp [Value.ownBlock]
    · intro e
      injection e with e
      have e' : g = rb.getD i 0 := e
      have hr := (h.row i hi).1
      unfold RowB at hr
      rw [← e', hh] at hr
      injection hr with hr
      injection hr with _ hT
      exact absurd hT (by decide)
  refine ⟨by rw [rset_len]; exact h.own.kept (grown_set w _ u _) (.inr hne), by rw [rset_len]; exact h.len, fun j hj => ?_, by rw [rset_len]; exact h.inj⟩
  rw [rset_len] at hj
  refine ⟨?_, (h.row j hj).2⟩
  unfold rset
  rw [getD_setL hi]
  by_cases e : j = i
  · subst e
    rw [if_pos rfl, ← bv_set]
    exact (h.row j hj).1.set_ u _
  · rw [if_neg e]
    exact (h.row j hj).1.other (fun hh => e (h.inj j i hj hi hh)) u _
end Go.Proofs.Ytidlifijgooceaa

/- A region that draws its order, each of whose operations has a known value in every world that meets a condition S and keeps S: it may be walked in the order of the text. No program in sight. -/
namespace Go.Proofs.Ytidlifijgooceaa
open Go Go.RowKit

section
variable {P : Program} {ops : Array Oper} {Q : Exit → Act → World → Prop} {md : Region.Mode} {S : World → Prop}

/-- what an operation does when it is carried out: it yields v and keeps S -/
def DoesS (P : Program) (S : World → Prop) (o : Oper) (v : Value) (a : Act) : Prop :=
  (∀ w, S w → ∃ w', (execOp a.eval o).run P w = .ok (.value v) w' ∧ S w') ∨
  (v = undef ∧ ∀ w, S w → ∃ w', (execOp a.eval o).run P w = .ok .skip w' ∧ S w') ∨
  (∃ f args, ∀ w, S w → (execOp a.eval o).run P w = .ok (.enter f args) w ∧ Calls P f args w fun e w' => e = .returned v ∧ S w')
def StepS (P : Program) (ops : Array Oper) (S : World → Prop) (o : Oper) (v : Value) (a : Act) : Prop :=
  (Region.wanted o (yielded ops a.tmps) = true ∧ DoesS P S o v a) ∨ (Region.wanted o (yielded ops a.tmps) = false ∧ v = undef)

theorem StepS.of_same {o : Oper} {v : Value} {a a' : Act} (hy : StepS P ops S o v a) (he : execOp a'.eval o = execOp a.eval o)
    (hw : Region.wanted o (yielded ops a'.tmps) = Region.wanted o (yielded ops a.tmps)) : StepS P ops S o v a' := by
  unfold StepS DoesS at *
  rw [he, hw]
  exact hy

/-- in whatever order -/
def Det (P : Program) (md : Region.Mode) (ops : Array Oper) (Q : Exit → Act → World → Prop) (S : World → Prop) : Nat → Array Bool → Act → Prop
  | 0, listed, a => Region.ready md ops listed = [] ∧ ∀ w, S w → Q .normal a w
  | fuel + 1, listed, a => (Region.ready md ops listed = [] → ∀ w, S w → Q .normal a w) ∧
    ∀ i ∈ Region.ready md ops listed, ∃ o v, ops[i]? = some o ∧ StepS P ops S o v a ∧ Det P md ops Q S fuel (listed.setIfInBounds i true) (a.put o.dst v)

theorem Det.first {i : Nat} {oi : Oper} {v : Value} (hi : ops[i]? = some oi) (hsel : ∀ (j : Nat) (o : Oper) cs b, ops[j]? = some o → o.op ≠ .select cs b) :
    ∀ (fuel : Nat) (listed : Array Bool) (a : Act),
      (∀ j oj, ops[j]? = some oj → j ≠ i → listed.getD j true = false → (∀ e ∈ oj.after, Region.binds md e = true → e.on ≠ i) → oi.apart ops oj = true) →
      i ∈ Region.ready md ops listed → StepS P ops S oi v a →
      Det P md ops Q S fuel (listed.setIfInBounds i true) (a.put oi.dst v) → Det P md ops Q S (fuel + 1) listed a := by
  intro fuel
  induction fuel with
  | zero =>
    intro listed a _ hr hy H
    refine ⟨fun h => (by rw [h] at hr; cases hr), fun j hj => ?_⟩
    by_cases hji : j = i
    · subst hji; exact ⟨oi, v, hi, hy, H⟩
    · have := ready_mono hj hji
      rw [H.1] at this
      cases this
  | succ fuel ih =>
    intro listed a hfree hr hy H
    refine ⟨fun h => (by rw [h] at hr; cases hr), fun j hj => ?_⟩
    by_cases hji : j = i
    · subst hji; exact ⟨oi, v, hi, hy, H⟩
    · obtain ⟨oj', u, hoj', hst, hd⟩ := H.2 j (ready_mono hj hji)
      obtain ⟨hjun, oj, hoj, hall⟩ := mem_ready.1 hj
      rw [hoj] at hoj'
      injection hoj' with e
      subst e
      have hnot : ∀ e ∈ oj.after, Region.binds md e = true → e.on ≠ i := fun e he hb heq => by
        have h1 := hall e he hb
        have h0 := (mem_ready.1 hr).1
        rw [heq] at h1
        rcases Nat.lt_or_ge i listed.size with h' | h'
        · simp [h'] at h0 h1; rw [h0] at h1; cases h1
        · simp [Array.getElem?_eq_none h'] at h1
      obtain ⟨h1, h2, h3⟩ := Oper.apart_spec (hfree j oj hoj hji hjun hnot)
      have hstj : StepS P ops S oj u a := hst.of_same (execOp_put oj (fun cs b => hsel j oj cs b hoj) a oi.dst v h1).symm (wanted_put oj a oi.dst v h1).symm
      have hsti : StepS P ops S oi v (a.put oj.dst u) := hy.of_same (execOp_put oi (fun cs b => hsel i oi cs b hi) a oj.dst u h3) (wanted_put oi a oj.dst u h3)
      have hfree' : ∀ k ok, ops[k]? = some ok → k ≠ i → (listed.setIfInBounds j true).getD k true = false →
          (∀ e ∈ ok.after, Region.binds md e = true → e.on ≠ i) → oi.apart ops ok = true := fun k ok hk hki hun hno => by
        refine hfree k ok hk hki ?_ hno
        by_cases hjk : j = k
        · subst hjk; exact hjun
        · rw [getD_set_ne true hjk] at hun; exact hun
      refine ⟨oj, u, hoj, hstj, ih (listed.setIfInBounds j true) (a.put oj.dst u) hfree' (ready_mono hr (Ne.symm hji)) hsti ?_⟩
      rw [Array.setIfInBounds_comm _ _ hji, ← Act.put_comm a v u h2]
      exact hd

/-- in the order of the text, from operation i on -/
def SeqS (P : Program) (ops : Array Oper) (Q : Exit → Act → World → Prop) (S : World → Prop) : List Oper → Act → Prop
  | [], a => ∀ w, S w → Q .normal a w
  | o :: rest, a => ∃ v, StepS P ops S o v a ∧ SeqS P ops Q S rest (a.put o.dst v)

theorem SeqS.skip {o : Oper} {rest : List Oper} {a : Act} (hw : Region.wanted o (yielded ops a.tmps) = false) (h : SeqS P ops Q S rest (a.put o.dst undef)) : SeqS P ops Q S (o :: rest) a :=
  ⟨undef, .inr ⟨hw, rfl⟩, h⟩
theorem SeqS.call {o : Oper} {rest : List Oper} {a : Act} {v : Value} {f : FuncId} {args : Array Value} (hw : Region.wanted o (yielded ops a.tmps) = true) (he : ∀ w, (execOp a.eval o).run P w = .ok (.enter f args) w) (hc : ∀ w, S w → Calls P f args w fun e w' => e = .returned v ∧ S w') (h : SeqS P ops Q S rest (a.put o.dst v)) : SeqS P ops Q S (o :: rest) a :=
  ⟨v, .inl ⟨hw, .inr (.inr ⟨f, args, fun w hS => ⟨he w, hc w hS⟩⟩)⟩, h⟩

end
end Go.Proofs.Ytidlifijgooceaa
