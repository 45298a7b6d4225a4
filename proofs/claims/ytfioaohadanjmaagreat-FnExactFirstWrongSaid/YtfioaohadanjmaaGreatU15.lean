import Derived.Test.YtfioaohadanjmaaGreatU14
import Derived.Test.YtfioaohadanjmaaGreatU12
import Derived.Test.YtfioaohadanjmaaGreatU08
import Derived.Deep.RegionHeld3
set_option linter.unusedVariables false

/- Memory of the machine: rows of tags, of slots, of cells (each cell with a row of tags of its own). -/
namespace Go.Proofs.YtfioaohadanjmaaGreat
open Go.RowKit

def tgCells : List Tg → List Value
  | [] => []
  | x :: r => .int .i64 (x.id : Nat) :: .bool x.un :: tgCells r
theorem tgCells_append (a b : List Tg) : tgCells (a ++ b) = tgCells a ++ tgCells b := by
  induction a with
  | nil => rfl
  | cons x r ih => simp [tgCells, ih]
theorem tgCells_len (a : List Tg) : (tgCells a).length = a.length * 2 := by
  induction a with
  | nil => rfl
  | cons x r ih => simp [tgCells, ih]; omega
theorem tgCells_at {ls : List Tg} {i : Nat} (hi : i < ls.length) : (tgCells ls)[i * 2]? = some (.int .i64 (ls[i].id : Nat)) ∧ (tgCells ls)[i * 2 + 1]? = some (.bool ls[i].un) := by
  induction ls generalizing i with
  | nil => simp at hi
  | cons x r ih =>
    cases i with
    | zero => simp [tgCells]
    | succ i =>
      have := ih (i := i) (by simpa using hi)
      simp only [tgCells, show (i + 1) * 2 = i * 2 + 2 by omega, show i * 2 + 2 + 1 = i * 2 + 1 + 2 by omega, List.getElem?_cons_succ, List.getElem_cons_succ]
      exact this
def OTg (w : World) (base : Nat) (v : Value) (ls : List Tg) : Prop := w.ownsRow base 116 2 v ls.length (tgCells ls)
theorem OTg.nil (w : World) (base : Nat) : OTg w base (.slice none 0 0) [] := World.ownsRow_nil _ _ _ _
theorem OTg.slice {w : World} {base : Nat} {v : Value} {l : List Tg} (h : OTg w base v l) : ∃ A c, v = .slice A l.length c ∧ l.length ≤ c := by
  rcases h.2 with ⟨rfl, h0⟩ | ⟨g, cap, cur, rfl, _, _, hc, _⟩
  · exact ⟨none, 0, by rw [h0], by omega⟩
  · exact ⟨_, cap, rfl, hc⟩
theorem OTg.bel {w w' : World} {base : Nat} {v : Value} {l : List Tg} (h : OTg w base v l) (hb : Below w.heap.size w w') : OTg w' base v l :=
  World.ownsRow.kept h (grown_bel hb (Nat.le_refl _) none) (by cases v.ownBlock <;> simp)
theorem OTg.base {w : World} {base base' : Nat} {v : Value} {l : List Tg} (h : OTg w base v l) (hb : base' ≤ base) : OTg w base' v l := by
  refine ⟨h.1, ?_⟩
  rcases h.2 with h' | ⟨g, cap, cur, rfl, hbg, rest⟩
  · exact .inl h'
  · exact .inr ⟨g, cap, cur, rfl, by omega, rest⟩
theorem OTg.empty (w : World) (base : Nat) (hb : base ≤ w.heap.size) : OTg (w.alloc (.cells #[] 116)) base (.slice (some ⟨w.heap.size, 0, none⟩) 0 0) [] :=
  World.ownsRow_lit (base := base) (e := 116) (size := 2) w #[] 0 hb (by simp [maxLen]) rfl
/-- the slice v reads as the rows ls -/
def TgS (w : World) (B : Nat) (v : Value) (ls : List Tg) : Prop :=
  ∃ A c, v = .slice A ls.length c ∧ ls.length ≤ c ∧ ls.length ≤ 100000 ∧ (0 < ls.length → ∃ b off, A = some ⟨b, off, none⟩ ∧ b < B ∧ ∀ i (h : i < ls.length),
    w.cell? ⟨b, off + i * 2, none⟩ = some (.int .i64 (ls[i].id : Nat)) ∧ w.cell? ⟨b, off + i * 2 + 1, none⟩ = some (.bool ls[i].un))
theorem TgS.low {w w' : World} {B B' : Nat} {v : Value} {l : List Tg} (h : TgS w B v l) (hb : Below B' w w') (hB : B ≤ B') : TgS w' B v l := by
  obtain ⟨A, c, e, h1, h2, h3⟩ := h
  refine ⟨A, c, e, h1, h2, fun hn => ?_⟩
  obtain ⟨b, off, e, hbb, hc⟩ := h3 hn
  have k : ∀ o, w'.cell? ⟨b, o, none⟩ = w.cell? ⟨b, o, none⟩ := fun o => hb.cell (p := ⟨b, o, none⟩) (by show b < B'; omega)
  exact ⟨b, off, e, hbb, fun i hi => by simp only [k]; exact hc i hi⟩
theorem TgS.bel {w w' : World} {v : Value} {l : List Tg} (h : TgS w w.heap.size v l) (hb : Below w.heap.size w w') : TgS w' w'.heap.size v l := by
  obtain ⟨A, c, e, h1, h2, h3⟩ := h.low hb (Nat.le_refl _)
  refine ⟨A, c, e, h1, h2, fun hn => ?_⟩
  obtain ⟨b, off, e, hbb, hc⟩ := h3 hn
  exact ⟨b, off, e, Nat.lt_of_lt_of_le hbb hb.size, hc⟩
theorem TgS.slice {w : World} {B : Nat} {v : Value} {l : List Tg} (h : TgS w B v l) : ∃ A c, v = .slice A l.length c ∧ l.length ≤ c := by
  obtain ⟨A, c, e, h1, _⟩ := h
  exact ⟨A, c, e, h1⟩
theorem TgS.get {w : World} {B n c : Nat} {A : Option Addr} {l : List Tg} (h : TgS w B (.slice A n c) l) {i : Nat} (hi : i < l.length) : ∃ b off, A = some ⟨b, off, none⟩ ∧ b < B ∧
    w.cell? ⟨b, off + i * 2, none⟩ = some (.int .i64 (l[i].id : Nat)) ∧ w.cell? ⟨b, off + i * 2 + 1, none⟩ = some (.bool l[i].un) := by
  obtain ⟨A', c', e, h1, h2, h3⟩ := h
  injection e with e1 _ _
  subst e1
  obtain ⟨b, off, e, hb, hc⟩ := h3 (by omega)
  exact ⟨b, off, e, hb, hc i hi⟩
theorem OTg.toS {w : World} {base : Nat} {v : Value} {l : List Tg} (h : OTg w base v l) (hl : l.length ≤ 100000) : TgS w w.heap.size v l := by
  obtain ⟨A, c, rfl, hc⟩ := h.slice
  refine ⟨A, c, rfl, hc, hl, fun hn => ?_⟩
  obtain ⟨g, cap, e, hb, hlt⟩ := World.ownsRow.form h hn
  injection e with e1 _ e2
  subst e1 e2
  refine ⟨g, 0, rfl, hlt, fun i hi => ?_⟩
  obtain ⟨a0, a1⟩ := tgCells_at hi
  simp only [Nat.zero_add]
  exact ⟨(World.ownsRow.cellAt h _ (by omega)).trans a0, (World.ownsRow.cellAt h _ (by omega)).trans a1⟩
theorem Tryz.infotgCells : (Tryz.prog.info? 116).map (fun i => (i.zero, i.size, i.bytes)) = some (some (.agg #[.int .i64 0, .bool false]), 2, 16) := by kernel_rfl
/-- append(out, a struct) -/
theorem wpList_push_tgCells {ops : Array Oper} {rest : List Oper} {o : Oper} {a : Act} {Q : Exit → Act → World → Prop} {w : World} {base : Nat} {vo : Value} {ls : List Tg} (hgd : o.guard = none) (s x : Operand)
    (ho : o.op = .call { callee := .builtin .append, args := #[s, x], argTypes := #[82, 82] })
    (hP : OTg w base vo ls) (hb : base ≤ w.heap.size) (hn : ls.length + 1 ≤ 100000) (x0 : Nat) (x1 : Bool) (hs : a.eval s = vo) (hx : a.eval x = .slice (some ⟨w.heap.size, 0, none⟩) 1 1)
    (h : ∀ v' w', OTg w' base v' (ls ++ [⟨x0, x1⟩]) → Below base w w' → KpT 116 w w' → wpList Tryz.prog ops Q rest (a.put o.dst v') w') :
    wpList Tryz.prog ops Q (o :: rest) a (w.alloc (.cells #[.int .i64 (x0 : Nat), .bool x1] 116)) := by
  obtain ⟨i0, hi0, hz0, hz1, hz2⟩ := info_parts Tryz.infotgCells
  have hown := World.ownsRow.alloc hP (.cells #[.int .i64 (x0 : Nat), .bool x1] 116)
  refine wpList_append_own_at _ hgd s x 82 ho base 116 i0 _ 2 16 Tryz.underlying82 hi0 hz0 hz1 hz2 rfl (by omega) vo ls.length _ hs hown ⟨w.heap.size, 0, none⟩ 1 1 [.int .i64 (x0 : Nat), .bool x1] hx rfl ?_ ?_ (by simp only [maxLen]; omega) (by omega) (by simp; omega) ?_
  · intro j u' hu
    have : (w.alloc (.cells #[.int .i64 (x0 : Nat), .bool x1] 116)).cell? ⟨w.heap.size, j, none⟩ = some u' := by
      rw [cell_of_row _ _ _ _ _ _ (heap_alloc_new w _)]
      simpa using hu
    unfold Addr.add
    by_cases hj : j = 0
    · subst hj; simpa using this
    · simpa [hj] using this
  · intro u' hu
    simp at hu
    rcases hu with rfl | rfl <;> rfl
  · intro v' w' k1 k2 k3 k4
    refine h v' w' ?_ ((((bel_a w _).mono hb)).trans ((Evo.grown (T := 116) hown k2).below (by simp; omega))) (KpT.grown hown k2)
    unfold OTg
    rw [tgCells_append]
    simpa [tgCells] using k1
theorem OTg.own_lt {w : World} {base : Nat} {v : Value} {l : List Tg} (h : OTg w base v l) {b : Nat} (hb : v.ownBlock = some b) : base ≤ b ∧ b < w.heap.size := World.ownsRow.lt h b hb
theorem OTg.kept {w w' : World} {base : Nat} {v : Value} {l : List Tg} (h : OTg w base v l) {row : Option Nat} (hg : w.grownBy w' row) (hne : v.ownBlock = none ∨ v.ownBlock ≠ row) : OTg w' base v l := World.ownsRow.kept h hg hne
/-- blocks of a type's rows -/
theorem own_heap {w : World} {base : Nat} {e : TypeId} {size : Nat} {v : Value} {n : Nat} {xs : List Value} (h : w.ownsRow base e size v n xs) {b : Nat} (hb : v.ownBlock = some b) : ∃ cur, w.heap[b]? = some (.cells cur e (0, 0)) := by
  rcases h.2 with ⟨rfl, _⟩ | ⟨g, cap, cur, rfl, _, hh, _⟩
  · cases hb
  · injection hb with hb
    have e : g = b := hb
    subst e
    exact ⟨cur, hh⟩
theorem own_same {w w' : World} {base : Nat} {e : TypeId} {size : Nat} {v : Value} {n : Nat} {xs : List Value} (h : w.ownsRow base e size v n xs) (hk : ∀ b, v.ownBlock = some b → w'.heap[b]? = w.heap[b]?) : w'.ownsRow base e size v n xs := by
  refine ⟨h.1, ?_⟩
  rcases h.2 with h' | ⟨g, cap, cur, rfl, hbg, hh, rest⟩
  · exact .inl h'
  · exact .inr ⟨g, cap, cur, rfl, hbg, (hk g rfl).trans hh, rest⟩
theorem own_keepT {w w' : World} {base : Nat} {e : TypeId} {size : Nat} {v : Value} {n : Nat} {xs : List Value} (h : w.ownsRow base e size v n xs) {T : TypeId} (hk : KpT T w w') (hT : e ≠ T) : w'.ownsRow base e size v n xs := by
  refine ⟨h.1, ?_⟩
  rcases h.2 with h' | ⟨g, cap, cur, rfl, hbg, hh, rest⟩
  · exact .inl h'
  · exact .inr ⟨g, cap, cur, rfl, hbg, hk.2 _ _ _ hh hT, rest⟩
theorem KpT.set_ {w : World} {g : Nat} {T : TypeId} {cur : Array Value} {fr : Nat × Nat} (h : w.heap[g]? = some (.cells cur T fr)) (i : Nat) (u : Value) : KpT T w (w.setCell ⟨g, i, none⟩ u) := by
  refine ⟨by simp, fun b cs T' hb hT => ?_⟩
  rw [heap_setCell_other w ⟨g, i, none⟩ b u]
  · exact hb
  · rintro rfl
    have h : w.heap[b]? = some (.cells cur T fr) := h
    rw [hb] at h
    injection h with h
    injection h with _ hT'
    exact hT hT'

/-- cells and their tag slices -/
def ceCells : List (Cl × Value) → List Value
  | [] => []
  | x :: r => .int .i64 x.1.val :: .bool x.1.al :: .int .i64 (x.1.nx : Nat) :: x.2 :: ceCells r
theorem ceCells_append (a b : List (Cl × Value)) : ceCells (a ++ b) = ceCells a ++ ceCells b := by
  induction a with
  | nil => rfl
  | cons x r ih => simp [ceCells, ih]
theorem ceCells_len (a : List (Cl × Value)) : (ceCells a).length = a.length * 4 := by
  induction a with
  | nil => rfl
  | cons x r ih => simp [ceCells, ih]; omega
theorem ceCells_at {ls : List (Cl × Value)} {i : Nat} (hi : i < ls.length) : (ceCells ls)[i * 4]? = some (.int .i64 ls[i].1.val) ∧ (ceCells ls)[i * 4 + 1]? = some (.bool ls[i].1.al) ∧ (ceCells ls)[i * 4 + 2]? = some (.int .i64 (ls[i].1.nx : Nat)) ∧ (ceCells ls)[i * 4 + 3]? = some ls[i].2 := by
  induction ls generalizing i with
  | nil => simp at hi
  | cons x r ih =>
    cases i with
    | zero => simp [ceCells]
    | succ i =>
      have := ih (i := i) (by simpa using hi)
      simp only [ceCells, show (i + 1) * 4 = i * 4 + 4 by omega, show i * 4 + 4 + 1 = i * 4 + 1 + 4 by omega, show i * 4 + 4 + 2 = i * 4 + 2 + 4 by omega, show i * 4 + 4 + 3 = i * 4 + 3 + 4 by omega, List.getElem?_cons_succ, List.getElem_cons_succ]
      exact this
theorem ceCells_put {ls : List (Cl × Value)} {i : Nat} (hi : i < ls.length) (y : Cl × Value) : ((((ceCells ls).set (i * 4) (.int .i64 y.1.val)).set (i * 4 + 1) (.bool y.1.al)).set (i * 4 + 2) (.int .i64 (y.1.nx : Nat))).set (i * 4 + 3) y.2 = ceCells (ls.set i y) := by
  induction ls generalizing i with
  | nil => simp at hi
  | cons x r ih =>
    cases i with
    | zero => simp [ceCells]
    | succ i =>
      have := ih (i := i) (by simpa using hi)
      simp only [ceCells, show (i + 1) * 4 = i * 4 + 4 by omega, show i * 4 + 4 + 1 = i * 4 + 1 + 4 by omega, show i * 4 + 4 + 2 = i * 4 + 2 + 4 by omega, show i * 4 + 4 + 3 = i * 4 + 3 + 4 by omega, List.set_cons_succ]
      rw [this]
theorem set_here {α : Type} {l : List α} {i : Nat} {x : α} (h : l[i]? = some x) : l.set i x = l := by
  apply List.ext_getElem?
  intro j
  by_cases e : i = j
  · subst e
    have hi := (List.getElem?_eq_some_iff.1 h).1
    rw [List.getElem?_set_self hi, h]
  · rw [List.getElem?_set_ne e]
theorem ceCells_val {ls : List (Cl × Value)} {i : Nat} (hi : i < ls.length) (z : Int) : (ceCells ls).set (i * 4) (.int .i64 z) = ceCells (ls.set i ({ ls[i].1 with val := z }, ls[i].2)) := by
  rw [← ceCells_put hi]
  obtain ⟨h0, h1, h2, h3⟩ := ceCells_at hi
  have e1 : ((ceCells ls).set (i * 4) (.int .i64 z)).set (i * 4 + 1) (.bool ls[i].1.al) = (ceCells ls).set (i * 4) (.int .i64 z) := set_here (by rw [List.getElem?_set_ne (by omega)]; exact h1)
  have e2 : ((ceCells ls).set (i * 4) (.int .i64 z)).set (i * 4 + 2) (.int .i64 (ls[i].1.nx : Nat)) = (ceCells ls).set (i * 4) (.int .i64 z) := set_here (by rw [List.getElem?_set_ne (by omega)]; exact h2)
  have e3 : ((ceCells ls).set (i * 4) (.int .i64 z)).set (i * 4 + 3) ls[i].2 = (ceCells ls).set (i * 4) (.int .i64 z) := set_here (by rw [List.getElem?_set_ne (by omega)]; exact h3)
  simp only
  rw [e1, e2, e3]
theorem ceCells_al {ls : List (Cl × Value)} {i : Nat} (hi : i < ls.length) (z : Bool) : (ceCells ls).set (i * 4 + 1) (.bool z) = ceCells (ls.set i ({ ls[i].1 with al := z }, ls[i].2)) := by
  rw [← ceCells_put hi]
  obtain ⟨h0, h1, h2, h3⟩ := ceCells_at hi
  have e1 : (ceCells ls).set (i * 4) (.int .i64 ls[i].1.val) = ceCells ls := set_here h0
  have e2 : ((ceCells ls).set (i * 4 + 1) (.bool z)).set (i * 4 + 2) (.int .i64 (ls[i].1.nx : Nat)) = (ceCells ls).set (i * 4 + 1) (.bool z) := set_here (by rw [List.getElem?_set_ne (by omega)]; exact h2)
  have e3 : ((ceCells ls).set (i * 4 + 1) (.bool z)).set (i * 4 + 3) ls[i].2 = (ceCells ls).set (i * 4 + 1) (.bool z) := set_here (by rw [List.getElem?_set_ne (by omega)]; exact h3)
  simp only
  rw [e1, e2, e3]
theorem ceCells_nx {ls : List (Cl × Value)} {i : Nat} (hi : i < ls.length) (z : Nat) : (ceCells ls).set (i * 4 + 2) (.int .i64 (z : Nat)) = ceCells (ls.set i ({ ls[i].1 with nx := z }, ls[i].2)) := by
  rw [← ceCells_put hi]
  obtain ⟨h0, h1, h2, h3⟩ := ceCells_at hi
  have e1 : (ceCells ls).set (i * 4) (.int .i64 ls[i].1.val) = ceCells ls := set_here h0
  have e2 : (ceCells ls).set (i * 4 + 1) (.bool ls[i].1.al) = ceCells ls := set_here h1
  have e3 : ((ceCells ls).set (i * 4 + 2) (.int .i64 (z : Nat))).set (i * 4 + 3) ls[i].2 = (ceCells ls).set (i * 4 + 2) (.int .i64 (z : Nat)) := set_here (by rw [List.getElem?_set_ne (by omega)]; exact h3)
  simp only
  rw [e1, e2, e3]
theorem ceCells_st {ls : List (Cl × Value)} {i : Nat} (hi : i < ls.length) (tv : Value) (st : List Tg) : (ceCells ls).set (i * 4 + 3) tv = ceCells (ls.set i ({ ls[i].1 with st := st }, tv)) := by
  rw [← ceCells_put hi]
  obtain ⟨h0, h1, h2, h3⟩ := ceCells_at hi
  have e1 : (ceCells ls).set (i * 4) (.int .i64 ls[i].1.val) = ceCells ls := set_here h0
  have e2 : (ceCells ls).set (i * 4 + 1) (.bool ls[i].1.al) = ceCells ls := set_here h1
  have e3 : (ceCells ls).set (i * 4 + 2) (.int .i64 (ls[i].1.nx : Nat)) = ceCells ls := set_here h2
  simp only
  rw [e1, e2, e3]

/-- a memory that a call made: the row of cells, each with a row of tags of its own, all from block base on -/
structure OCe (w : World) (base : Nat) (v : Value) (ps : List (Cl × Value)) : Prop where
  own : w.ownsRow base 84 4 v ps.length (ceCells ps)
  row : ∀ i (h : i < ps.length), OTg w base ps[i].2 ps[i].1.st
  ne : ∀ i j (hi : i < ps.length) (hj : j < ps.length), i ≠ j → ∀ b, ps[i].2.ownBlock = some b → ps[j].2.ownBlock ≠ some b
theorem OCe.nil (w : World) (base : Nat) : OCe w base (.slice none 0 0) [] := ⟨World.ownsRow_nil _ _ _ _, fun i h => by simp at h, fun i j h => by simp at h⟩
theorem OCe.empty (w : World) (base : Nat) (hb : base ≤ w.heap.size) : OCe (w.alloc (.cells #[] 84)) base (.slice (some ⟨w.heap.size, 0, none⟩) 0 0) [] :=
  ⟨World.ownsRow_lit (base := base) (e := 84) (size := 4) w #[] 0 hb (by simp [maxLen]) rfl, fun i h => by simp at h, fun i j h => by simp at h⟩
theorem OCe.slice {w : World} {base : Nat} {v : Value} {ps : List (Cl × Value)} (h : OCe w base v ps) : ∃ A c, v = .slice A ps.length c ∧ ps.length ≤ c := by
  rcases h.own.2 with ⟨rfl, h0⟩ | ⟨g, cap, cur, rfl, _, _, hc, _⟩
  · exact ⟨none, 0, by rw [h0], by omega⟩
  · exact ⟨_, cap, rfl, hc⟩
theorem OCe.base {w : World} {base base' : Nat} {v : Value} {ps : List (Cl × Value)} (h : OCe w base v ps) (hb : base' ≤ base) : OCe w base' v ps := by
  refine ⟨⟨h.own.1, ?_⟩, fun i hi => (h.row i hi).base hb, h.ne⟩
  rcases h.own.2 with h' | ⟨g, cap, cur, rfl, hbg, rest⟩
  · exact .inl h'
  · exact .inr ⟨g, cap, cur, rfl, by omega, rest⟩
theorem OCe.bel {w w' : World} {base : Nat} {v : Value} {ps : List (Cl × Value)} (h : OCe w base v ps) (hb : Below w.heap.size w w') : OCe w' base v ps :=
  ⟨World.ownsRow.kept h.own (grown_bel hb (Nat.le_refl _) none) (by cases v.ownBlock <;> simp), fun i hi => (h.row i hi).bel hb, h.ne⟩
theorem OCe.keepT {w w' : World} {base : Nat} {v : Value} {ps : List (Cl × Value)} (h : OCe w base v ps) {T : TypeId} (hk : KpT T w w') (h1 : 84 ≠ T) (h2 : 116 ≠ T) : OCe w' base v ps :=
  ⟨own_keepT h.own hk h1, fun i hi => own_keepT (h.row i hi) hk h2, h.ne⟩
theorem OCe.row_ne {w : World} {base : Nat} {v : Value} {ps : List (Cl × Value)} (h : OCe w base v ps) {i : Nat} (hi : i < ps.length) {g b : Nat} (hg : v.ownBlock = some g) (hb : ps[i].2.ownBlock = some b) : g ≠ b := by
  rintro rfl
  obtain ⟨c1, e1⟩ := own_heap h.own hg
  obtain ⟨c2, e2⟩ := own_heap (h.row i hi) hb
  rw [e1] at e2
  injection e2 with e2
  injection e2 with _ e3
  exact absurd e3 (by decide)
/-- the cells of one cell -/
theorem OCe.at_ {w : World} {base n c : Nat} {A : Option Addr} {ps : List (Cl × Value)} (h : OCe w base (.slice A n c) ps) {i : Nat} (hi : i < ps.length) :
    ∃ g, A = some ⟨g, 0, none⟩ ∧ base ≤ g ∧ g < w.heap.size ∧ n = ps.length ∧ w.cell? ⟨g, i * 4, none⟩ = some (.int .i64 ps[i].1.val) ∧ w.cell? ⟨g, i * 4 + 1, none⟩ = some (.bool ps[i].1.al) ∧ w.cell? ⟨g, i * 4 + 2, none⟩ = some (.int .i64 (ps[i].1.nx : Nat)) ∧ w.cell? ⟨g, i * 4 + 3, none⟩ = some ps[i].2 ∧ ∀ j, w.frozen? ⟨g, j, none⟩ = false := by
  rcases h.own.2 with ⟨e, h0⟩ | ⟨g, cap, cur, e, hb, hh, _⟩
  · omega
  · injection e with e1 e2 e3
    subst e1 e2 e3
    obtain ⟨h0, h1, h2, h3⟩ := ceCells_at hi
    have hc := fun j (hj : j < ps.length * 4) => World.ownsRow.cellAt h.own j hj
    exact ⟨g, rfl, hb, row_lt hh, rfl, (hc _ (by omega)).trans h0, (hc _ (by omega)).trans h1, (hc _ (by omega)).trans h2, (hc _ (by omega)).trans h3, World.ownsRow.frozenAt h.own⟩
theorem OCe.set_of {w w' : World} {base n c g : Nat} {ps ps' : List (Cl × Value)} (h : OCe w base (.slice (some ⟨g, 0, none⟩) n c) ps) (ho : w'.ownsRow base 84 4 (.slice (some ⟨g, 0, none⟩) n c) ps'.length (ceCells ps'))
    (hl : ps'.length = ps.length) (hk : ∀ b, b ≠ g → w'.heap[b]? = w.heap[b]?) (hp : ∀ i (h : i < ps.length) (h' : i < ps'.length), ps'[i].2 = ps[i].2 ∧ ps'[i].1.st = ps[i].1.st) : OCe w' base (.slice (some ⟨g, 0, none⟩) n c) ps' := by
  refine ⟨ho, fun i hi => ?_, fun i j hi hj hij b hb => ?_⟩
  · obtain ⟨e1, e2⟩ := hp i (by omega) hi
    rw [e1, e2]
    exact own_same (h.row i (by omega)) fun b hb => hk b fun e => h.row_ne (i := i) (by omega) (g := g) rfl hb e.symm
  · rw [(hp i (by omega) hi).1] at hb
    rw [(hp j (by omega) hj).1]
    exact h.ne i j (by omega) (by omega) hij b hb
theorem OCe.setVal {w : World} {base n c g : Nat} {ps : List (Cl × Value)} (h : OCe w base (.slice (some ⟨g, 0, none⟩) n c) ps) (hn : n = ps.length) {i : Nat} (hi : i < ps.length) (z : Int) :
    OCe (w.setCell ⟨g, i * 4, none⟩ (.int .i64 z)) base (.slice (some ⟨g, 0, none⟩) n c) (ps.set i ({ ps[i].1 with val := z }, ps[i].2)) := by
  subst hn
  have h1 := (World.ownsRow.stored h.own (i * 4) (.int .i64 z)).1
  rw [ceCells_val hi] at h1
  refine h.set_of (by rw [List.length_set]; exact h1) (by simp) (fun b hb => heap_setCell_other w ⟨g, _, none⟩ b _ hb) fun j hj hj' => ?_
  rw [List.getElem_set]
  split
  · rename_i e; subst e; exact ⟨rfl, rfl⟩
  · exact ⟨rfl, rfl⟩
theorem OCe.setAl {w : World} {base n c g : Nat} {ps : List (Cl × Value)} (h : OCe w base (.slice (some ⟨g, 0, none⟩) n c) ps) (hn : n = ps.length) {i : Nat} (hi : i < ps.length) (z : Bool) :
    OCe (w.setCell ⟨g, i * 4 + 1, none⟩ (.bool z)) base (.slice (some ⟨g, 0, none⟩) n c) (ps.set i ({ ps[i].1 with al := z }, ps[i].2)) := by
  subst hn
  have h1 := (World.ownsRow.stored h.own (i * 4 + 1) (.bool z)).1
  rw [ceCells_al hi] at h1
  refine h.set_of (by rw [List.length_set]; exact h1) (by simp) (fun b hb => heap_setCell_other w ⟨g, _, none⟩ b _ hb) fun j hj hj' => ?_
  rw [List.getElem_set]
  split
  · rename_i e; subst e; exact ⟨rfl, rfl⟩
  · exact ⟨rfl, rfl⟩
theorem OCe.setNx {w : World} {base n c g : Nat} {ps : List (Cl × Value)} (h : OCe w base (.slice (some ⟨g, 0, none⟩) n c) ps) (hn : n = ps.length) {i : Nat} (hi : i < ps.length) (z : Nat) :
    OCe (w.setCell ⟨g, i * 4 + 2, none⟩ (.int .i64 (z : Nat))) base (.slice (some ⟨g, 0, none⟩) n c) (ps.set i ({ ps[i].1 with nx := z }, ps[i].2)) := by
  subst hn
  have h1 := (World.ownsRow.stored h.own (i * 4 + 2) (.int .i64 (z : Nat))).1
  rw [ceCells_nx hi] at h1
  refine h.set_of (by rw [List.length_set]; exact h1) (by simp) (fun b hb => heap_setCell_other w ⟨g, _, none⟩ b _ hb) fun j hj hj' => ?_
  rw [List.getElem_set]
  split
  · rename_i e; subst e; exact ⟨rfl, rfl⟩
  · exact ⟨rfl, rfl⟩
/-- a new row of tags for one cell; hne: it is no other cell's; hk: the other rows stay -/
theorem OCe.setSt {w w1 : World} {base n c g : Nat} {ps : List (Cl × Value)} (h : OCe w base (.slice (some ⟨g, 0, none⟩) n c) ps) (hn : n = ps.length) {i : Nat} (hi : i < ps.length) {tv : Value} {st : List Tg} (ht : OTg w1 base tv st)
    (hne : ∀ j (hj : j < ps.length), j ≠ i → ∀ b, ps[j].2.ownBlock = some b → tv.ownBlock ≠ some b) (hg : w1.heap[g]? = w.heap[g]?) (hk : ∀ j (hj : j < ps.length), j ≠ i → ∀ b, ps[j].2.ownBlock = some b → w1.heap[b]? = w.heap[b]?) :
    OCe (w1.setCell ⟨g, i * 4 + 3, none⟩ tv) base (.slice (some ⟨g, 0, none⟩) n c) (ps.set i ({ ps[i].1 with st := st }, tv)) := by
  subst hn
  have h0 : w1.ownsRow base 84 4 (.slice (some ⟨g, 0, none⟩) ps.length c) ps.length (ceCells ps) := own_same h.own fun b hb => by
    injection hb with hb
    have e : g = b := hb
    subst e
    exact hg
  have h1 := (World.ownsRow.stored h0 (i * 4 + 3) tv).1
  rw [ceCells_st hi tv st] at h1
  have gne : ∀ b, tv.ownBlock = some b → b ≠ g := fun b hb e => by
    subst e
    obtain ⟨c1, e1⟩ := own_heap ht hb
    obtain ⟨c2, e2⟩ := own_heap h0 (b := b) rfl
    rw [e1] at e2
    injection e2 with e2
    injection e2 with _ e3
    exact absurd e3 (by decide)
  refine ⟨by rw [List.length_set]; exact h1, fun j hj => ?_, fun j k hj hk' hjk b hb => ?_⟩
  · rw [List.length_set] at hj
    rw [List.getElem_set]
    split
    · exact own_same ht fun b hb => heap_setCell_other w1 ⟨g, _, none⟩ b _ (gne b hb)
    · rename_i e
      exact own_same (h.row j hj) fun b hb => (heap_setCell_other w1 ⟨g, _, none⟩ b _ (fun e => h.row_ne hj (g := g) rfl hb e.symm)).trans (hk j hj (fun e' => e e'.symm) b hb)
  · rw [List.length_set] at hj hk'
    rw [List.getElem_set] at hb ⊢
    split at hb
    · rename_i e; subst e
      rw [if_neg hjk]
      intro h2
      exact hne k hk' (Ne.symm hjk) b h2 hb
    · rename_i e
      split
      · rename_i e2; subst e2
        exact hne j hj hjk b hb
      · exact h.ne j k hj hk' hjk b hb
theorem Tryz.infoceCells : (Tryz.prog.info? 84).map (fun i => (i.zero, i.size, i.bytes)) = some (some (.agg #[.int .i64 0, .bool false, .int .i64 0, .slice none 0 0]), 4, 48) := by kernel_rfl
/-- append(out, a cell): its tags own rows from block base2 on, those that stand below it -/
theorem wpList_push_ceCells {ops : Array Oper} {rest : List Oper} {o : Oper} {a : Act} {Q : Exit → Act → World → Prop} {w : World} {base : Nat} {vo : Value} {ps : List (Cl × Value)} (hgd : o.guard = none) (s x : Operand)
    (ho : o.op = .call { callee := .builtin .append, args := #[s, x], argTypes := #[50, 50] })
    (hP : OCe w base vo ps) (hb : base ≤ w.heap.size) (hn : ps.length + 1 ≤ 100000) (c : Cl) (tv : Value) (ht : OTg w base tv c.st) (hne : ∀ i (h : i < ps.length), ∀ b, ps[i].2.ownBlock = some b → tv.ownBlock ≠ some b) (hs : a.eval s = vo) (hx : a.eval x = .slice (some ⟨w.heap.size, 0, none⟩) 1 1)
    (h : ∀ v' w', OCe w' base v' (ps ++ [(c, tv)]) → Below base w w' → KpT 84 w w' → wpList Tryz.prog ops Q rest (a.put o.dst v') w') :
    wpList Tryz.prog ops Q (o :: rest) a (w.alloc (.cells #[.int .i64 c.val, .bool c.al, .int .i64 (c.nx : Nat), tv] 84)) := by
  obtain ⟨i0, hi0, hz0, hz1, hz2⟩ := info_parts Tryz.infoceCells
  have hown := World.ownsRow.alloc hP.own (.cells #[.int .i64 c.val, .bool c.al, .int .i64 (c.nx : Nat), tv] 84)
  obtain ⟨At, ct, htv, -⟩ := ht.slice
  refine wpList_append_own_at _ hgd s x 50 ho base 84 i0 _ 4 48 Tryz.underlying50 hi0 hz0 hz1 hz2 rfl (by omega) vo ps.length _ hs hown ⟨w.heap.size, 0, none⟩ 1 1 [.int .i64 c.val, .bool c.al, .int .i64 (c.nx : Nat), tv] hx rfl ?_ ?_ (by simp only [maxLen]; omega) (by omega) (by simp; omega) ?_
  · intro j u' hu
    have : (w.alloc (.cells #[.int .i64 c.val, .bool c.al, .int .i64 (c.nx : Nat), tv] 84)).cell? ⟨w.heap.size, j, none⟩ = some u' := by
      rw [cell_of_row _ _ _ _ _ _ (heap_alloc_new w _)]
      simpa using hu
    unfold Addr.add
    by_cases hj : j = 0
    · subst hj; simpa using this
    · simpa [hj] using this
  · intro u' hu
    simp at hu
    rcases hu with rfl | rfl | rfl | rfl
    · rfl
    · rfl
    · rfl
    · rw [htv]; rfl
  · intro v' w' k1 k2 k3 k4
    have hev := (((bel_a w _).mono hb)).trans ((Evo.grown (T := 84) hown k2).below (by simp; omega))
    have hkp := KpT.grown hown k2
    refine h v' w' ⟨?_, fun i hi => ?_, fun i j hi hj hij b e => ?_⟩ hev hkp
    · rw [List.length_append, ceCells_append]
      simpa [ceCells] using k1
    · rw [List.getElem_append]
      split
      · rename_i h1
        exact own_keepT (hP.row i h1) hkp (by decide)
      · simp only [List.getElem_singleton]
        exact own_keepT ht hkp (by decide)
    · rw [List.length_append] at hi hj
      simp only [List.length_cons, List.length_nil] at hi hj
      rw [List.getElem_append] at e ⊢
      split at e
      · rename_i h1
        split
        · rename_i h2; exact hP.ne i j h1 h2 hij b e
        · simp only [List.getElem_singleton]; exact hne i h1 b e
      · rename_i h1
        simp only [List.getElem_singleton] at e
        split
        · rename_i h2; intro e2; exact hne j h2 b e2 e
        · omega
def slCells : List Sl → List Value
  | [] => []
  | x :: r => .bool x.set :: .int .i64 x.num :: .int .i64 (x.pc : Nat) :: .int .i64 (x.pt : Nat) :: slCells r
theorem slCells_append (a b : List Sl) : slCells (a ++ b) = slCells a ++ slCells b := by
  induction a with
  | nil => rfl
  | cons x r ih => simp [slCells, ih]
theorem slCells_len (a : List Sl) : (slCells a).length = a.length * 4 := by
  induction a with
  | nil => rfl
  | cons x r ih => simp [slCells, ih]; omega
theorem slCells_at {ls : List Sl} {i : Nat} (hi : i < ls.length) : (slCells ls)[i * 4]? = some (.bool ls[i].set) ∧ (slCells ls)[i * 4 + 1]? = some (.int .i64 ls[i].num) ∧ (slCells ls)[i * 4 + 2]? = some (.int .i64 (ls[i].pc : Nat)) ∧ (slCells ls)[i * 4 + 3]? = some (.int .i64 (ls[i].pt : Nat)) := by
  induction ls generalizing i with
  | nil => simp at hi
  | cons x r ih =>
    cases i with
    | zero => simp [slCells]
    | succ i =>
      have := ih (i := i) (by simpa using hi)
      simp only [slCells, show (i + 1) * 4 = i * 4 + 4 by omega, show i * 4 + 4 + 1 = i * 4 + 1 + 4 by omega, show i * 4 + 4 + 2 = i * 4 + 2 + 4 by omega, show i * 4 + 4 + 3 = i * 4 + 3 + 4 by omega, List.getElem?_cons_succ, List.getElem_cons_succ]
      exact this
def OSl (w : World) (base : Nat) (v : Value) (ls : List Sl) : Prop := w.ownsRow base 79 4 v ls.length (slCells ls)
theorem OSl.nil (w : World) (base : Nat) : OSl w base (.slice none 0 0) [] := World.ownsRow_nil _ _ _ _
theorem OSl.slice {w : World} {base : Nat} {v : Value} {l : List Sl} (h : OSl w base v l) : ∃ A c, v = .slice A l.length c ∧ l.length ≤ c := by
  rcases h.2 with ⟨rfl, h0⟩ | ⟨g, cap, cur, rfl, _, _, hc, _⟩
  · exact ⟨none, 0, by rw [h0], by omega⟩
  · exact ⟨_, cap, rfl, hc⟩
theorem OSl.bel {w w' : World} {base : Nat} {v : Value} {l : List Sl} (h : OSl w base v l) (hb : Below w.heap.size w w') : OSl w' base v l :=
  World.ownsRow.kept h (grown_bel hb (Nat.le_refl _) none) (by cases v.ownBlock <;> simp)
theorem OSl.base {w : World} {base base' : Nat} {v : Value} {l : List Sl} (h : OSl w base v l) (hb : base' ≤ base) : OSl w base' v l := by
  refine ⟨h.1, ?_⟩
  rcases h.2 with h' | ⟨g, cap, cur, rfl, hbg, rest⟩
  · exact .inl h'
  · exact .inr ⟨g, cap, cur, rfl, by omega, rest⟩
theorem OSl.empty (w : World) (base : Nat) (hb : base ≤ w.heap.size) : OSl (w.alloc (.cells #[] 79)) base (.slice (some ⟨w.heap.size, 0, none⟩) 0 0) [] :=
  World.ownsRow_lit (base := base) (e := 79) (size := 4) w #[] 0 hb (by simp [maxLen]) rfl
/-- the slice v reads as the rows ls -/
def SlS (w : World) (B : Nat) (v : Value) (ls : List Sl) : Prop :=
  ∃ A c, v = .slice A ls.length c ∧ ls.length ≤ c ∧ ls.length ≤ 100000 ∧ (0 < ls.length → ∃ b off, A = some ⟨b, off, none⟩ ∧ b < B ∧ ∀ i (h : i < ls.length),
    w.cell? ⟨b, off + i * 4, none⟩ = some (.bool ls[i].set) ∧ w.cell? ⟨b, off + i * 4 + 1, none⟩ = some (.int .i64 ls[i].num) ∧ w.cell? ⟨b, off + i * 4 + 2, none⟩ = some (.int .i64 (ls[i].pc : Nat)) ∧ w.cell? ⟨b, off + i * 4 + 3, none⟩ = some (.int .i64 (ls[i].pt : Nat)))
theorem SlS.low {w w' : World} {B B' : Nat} {v : Value} {l : List Sl} (h : SlS w B v l) (hb : Below B' w w') (hB : B ≤ B') : SlS w' B v l := by
  obtain ⟨A, c, e, h1, h2, h3⟩ := h
  refine ⟨A, c, e, h1, h2, fun hn => ?_⟩
  obtain ⟨b, off, e, hbb, hc⟩ := h3 hn
  have k : ∀ o, w'.cell? ⟨b, o, none⟩ = w.cell? ⟨b, o, none⟩ := fun o => hb.cell (p := ⟨b, o, none⟩) (by show b < B'; omega)
  exact ⟨b, off, e, hbb, fun i hi => by simp only [k]; exact hc i hi⟩
theorem SlS.bel {w w' : World} {v : Value} {l : List Sl} (h : SlS w w.heap.size v l) (hb : Below w.heap.size w w') : SlS w' w'.heap.size v l := by
  obtain ⟨A, c, e, h1, h2, h3⟩ := h.low hb (Nat.le_refl _)
  refine ⟨A, c, e, h1, h2, fun hn => ?_⟩
  obtain ⟨b, off, e, hbb, hc⟩ := h3 hn
  exact ⟨b, off, e, Nat.lt_of_lt_of_le hbb hb.size, hc⟩
theorem SlS.slice {w : World} {B : Nat} {v : Value} {l : List Sl} (h : SlS w B v l) : ∃ A c, v = .slice A l.length c ∧ l.length ≤ c := by
  obtain ⟨A, c, e, h1, _⟩ := h
  exact ⟨A, c, e, h1⟩
theorem SlS.get {w : World} {B n c : Nat} {A : Option Addr} {l : List Sl} (h : SlS w B (.slice A n c) l) {i : Nat} (hi : i < l.length) : ∃ b off, A = some ⟨b, off, none⟩ ∧ b < B ∧
    w.cell? ⟨b, off + i * 4, none⟩ = some (.bool l[i].set) ∧ w.cell? ⟨b, off + i * 4 + 1, none⟩ = some (.int .i64 l[i].num) ∧ w.cell? ⟨b, off + i * 4 + 2, none⟩ = some (.int .i64 (l[i].pc : Nat)) ∧ w.cell? ⟨b, off + i * 4 + 3, none⟩ = some (.int .i64 (l[i].pt : Nat)) := by
  obtain ⟨A', c', e, h1, h2, h3⟩ := h
  injection e with e1 _ _
  subst e1
  obtain ⟨b, off, e, hb, hc⟩ := h3 (by omega)
  exact ⟨b, off, e, hb, hc i hi⟩
theorem OSl.toS {w : World} {base : Nat} {v : Value} {l : List Sl} (h : OSl w base v l) (hl : l.length ≤ 100000) : SlS w w.heap.size v l := by
  obtain ⟨A, c, rfl, hc⟩ := h.slice
  refine ⟨A, c, rfl, hc, hl, fun hn => ?_⟩
  obtain ⟨g, cap, e, hb, hlt⟩ := World.ownsRow.form h hn
  injection e with e1 _ e2
  subst e1 e2
  refine ⟨g, 0, rfl, hlt, fun i hi => ?_⟩
  obtain ⟨a0, a1, a2, a3⟩ := slCells_at hi
  simp only [Nat.zero_add]
  exact ⟨(World.ownsRow.cellAt h _ (by omega)).trans a0, (World.ownsRow.cellAt h _ (by omega)).trans a1, (World.ownsRow.cellAt h _ (by omega)).trans a2, (World.ownsRow.cellAt h _ (by omega)).trans a3⟩
theorem Tryz.infoslCells : (Tryz.prog.info? 79).map (fun i => (i.zero, i.size, i.bytes)) = some (some (.agg #[.bool false, .int .i64 0, .int .i64 0, .int .i64 0]), 4, 32) := by kernel_rfl
end Go.Proofs.YtfioaohadanjmaaGreat

/- spec.l6Tag, spec.l6Cell, spec.CellsValid. -/
namespace Go.Proofs.YtfioaohadanjmaaGreat
open Go.RowKit

def tagI (st : List Tg) (id : Nat) : Int := match tagAt st id with | none => -1 | some k => (k : Nat)
theorem tagAt_some {st : List Tg} {id k : Nat} (hk : k < st.length) (h : st[k].id = id) (hb : ∀ j (hj : j < st.length), j < k → st[j].id ≠ id) : tagAt st id = some k := by
  unfold tagAt
  rw [List.findIdx?_eq_some_iff_getElem]
  exact ⟨hk, by simpa using h, fun j hj => by simpa using hb j (by omega) hj⟩
theorem tagAt_none {st : List Tg} {id : Nat} (hb : ∀ j (hj : j < st.length), st[j].id ≠ id) : tagAt st id = none := by
  unfold tagAt
  rw [List.findIdx?_eq_none_iff]
  intro x hx
  obtain ⟨j, hj, rfl⟩ := List.getElem_of_mem hx
  simpa using hb j hj
theorem tagI_some {st : List Tg} {id k : Nat} (h : tagAt st id = some k) : tagI st id = (k : Nat) := by unfold tagI; rw [h]
theorem tagI_none {st : List Tg} {id : Nat} (h : tagAt st id = none) : tagI st id = -1 := by unfold tagI; rw [h]
theorem Cl.ok.inc {c : Cl} (h : c.ok) {i j : Nat} (hij : i < j) (hj : j < c.st.length) : (c.st[i]'(by omega)).id < c.st[j].id := (List.pairwise_iff_getElem.1 h.s) i j (by omega) hj hij
theorem Cl.ok.tag {c : Cl} (h : c.ok) {i : Nat} (hi : i < c.st.length) : tagAt c.st c.st[i].id = some i :=
  tagAt_some hi rfl fun j _ hji => by have := h.inc hji hi; omega
theorem Cl.ok.bnd {c : Cl} (h : c.ok) {i : Nat} (hi : i < c.st.length) : c.st[i].id < c.nx := h.b _ (List.getElem_mem hi)
theorem TgS.more {w : World} {B B' : Nat} {v : Value} {l : List Tg} (h : TgS w B v l) (hB : B ≤ B') : TgS w B' v l := by
  obtain ⟨A, c, e, h1, h2, h3⟩ := h
  exact ⟨A, c, e, h1, h2, fun hn => by obtain ⟨b, off, e, hbb, hc⟩ := h3 hn; exact ⟨b, off, e, by omega, hc⟩⟩
theorem TgS.len {w : World} {B : Nat} {v : Value} {l : List Tg} (h : TgS w B v l) : l.length ≤ 100000 := by
  obtain ⟨_, _, _, _, h, _⟩ := h
  exact h

set_option maxHeartbeats 2000000 in
set_option maxRecDepth 100000 in
theorem l6Tag_any (v : Value) (st : List Tg) (id B : Nat) (w : World) (h : TgS w B v st) :
    Calls Tryz.prog 126 #[v, .int .i64 (id : Nat)] w fun e w' => e = .returned (.int .i64 (tagI st id)) ∧ w = w' := by
  have hln := h.len
  have H := Lib.hid h
  obtain ⟨A, c, rfl, hc⟩ := h.slice
  clear h
  go_enter Tryz.func126, Tryz.ntmps126
  go_wp2_with (at_builtin; fail)
  go_loopw [5] (fun i wr => ∃ k : Nat, k ≤ st.length ∧ i = .int .i64 k ∧ (∀ j (hj : j < st.length), j < k → st[j].id ≠ id) ∧ w = wr) (fun i _ => st.length - (intOf i).toNat)
  case atStart => exact ⟨0, Nat.zero_le _, rfl, fun j _ hj => by omega, rfl⟩
  case round =>
    obtain ⟨k, hk, rfl, hb, rfl⟩ := hrel
    have HB := Lib.hid hb
    by_cases hlt : k < st.length
    · obtain ⟨b, off, rfl, hbb, d0, d1⟩ := H.out.get (i := k) hlt
      by_cases he : st[k].id = id
      · have HR := Lib.hid (tagI_some (tagAt_some hlt he fun j hj hjk => HB.out j hj hjk))
        have hq : (((st[k].id : Nat) : Int) == ((id : Nat) : Int)) = true := by rw [he]; simp
        generalize st[k].id = z at *
        clear he hb
        go_wp2_with (at_builtin; fail)
        go_ret
        exact ⟨by rw [HR.out]; rfl, rfl⟩
      · have hq : (((st[k].id : Nat) : Int) == ((id : Nat) : Int)) = false := by rw [beq_eq_false_iff_ne]; omega
        have HN : Hid (∀ j (hj : j < st.length), j < k + 1 → st[j].id ≠ id) := Lib.hid fun j hj hjk => by
          by_cases e : j < k
          · exact HB.out j hj e
          · obtain rfl : j = k := by omega
            exact he
        generalize st[k].id = z at *
        clear he hb
        go_wp2_with (at_builtin; fail)
        exact ⟨⟨k + 1, by omega, by go_num, HN.out, by first | trivial | rfl⟩, by simp [intOf] <;> omega⟩
    · have HR := Lib.hid (tagI_none (st := st) (id := id) (tagAt_none fun j hj => HB.out j hj (by omega)))
      clear hb
      go_wp2_with (at_builtin; fail)
      go_ret
      exact ⟨by rw [HR.out]; rfl, rfl⟩
set_option maxHeartbeats 4000000 in
set_option maxRecDepth 100000 in
theorem l6Cell_any (c : Cl) (tv : Value) (B : Nat) (w : World) (h : TgS w B tv c.st) (hB : B ≤ w.heap.size) (hok : c.ok) :
    Calls Tryz.prog 124 #[.agg #[.int .i64 c.val, .bool c.al, .int .i64 (c.nx : Nat), tv]] w fun e w' => e = .returned (.bool true) ∧ Below w.heap.size w w' := by
  have OK := Lib.hid hok
  have H := Lib.hid h
  have h0 := hok.v0
  have h1 := hok.v9
  have h2 := hok.n0
  have h3 := hok.n1
  have h4 := hok.l0
  have h5 := hok.l1
  obtain ⟨A, cc, rfl, hc⟩ := h.slice
  have HX := Lib.hid (RowB.new w [.int .i64 c.val, .bool c.al, .int .i64 (c.nx : Nat), .slice A c.st.length cc] 84)
  have HB0 := Lib.hid (bel_a w (.cells #[.int .i64 c.val, .bool c.al, .int .i64 (c.nx : Nat), .slice A c.st.length cc] 84))
  have HT := Lib.hid (H.out.low HB0.out hB)
  obtain ⟨b, off, rfl, hb, d0, d1⟩ := HT.out.get (i := 0) (by omega)
  rw [hok.u (by omega)] at d1
  rw [Nat.zero_mul, Nat.add_zero] at d0 d1
  have q1 : decide (c.val < 0) = false := decide_eq_false (by omega)
  have q2 : decide (c.val > 9) = false := decide_eq_false (by omega)
  have q3 : decide (((c.nx : Nat) : Int) < 1) = false := decide_eq_false (by omega)
  have q4 : decide (((c.nx : Nat) : Int) > 1000) = false := decide_eq_false (by omega)
  have q5 : decide (((c.st.length : Nat) : Int) > 200) = false := decide_eq_false (by omega)
  have q6 : (((c.st.length : Nat) : Int) == 0) = false := by rw [beq_eq_false_iff_ne]; omega
  clear h hok
  go_enter Tryz.func124, Tryz.ntmps124
  go_upto_region 1 with (at_builtin; fail)
  generalize w.alloc (.cells #[.int .i64 c.val, .bool c.al, .int .i64 (c.nx : Nat), .slice (some ⟨b, off, none⟩) c.st.length cc] 84) = W at *
  obtain ⟨bx, hbx⟩ : ∃ bx, bx = w.heap.size := ⟨_, rfl⟩
  have HBX := Lib.hid hbx
  rw [← hbx] at HX ⊢
  have x0 := HX.out.cell 0
  have x2 := HX.out.cell 2
  have x3 := HX.out.cell 3
  simp only [List.getElem?_cons_zero, List.getElem?_cons_succ] at x0 x2 x3
  have hxl := HX.out.lt
  have hs0 := HB0.out.size
  clear hbx
  go_wp2_with (at_builtin; fail)
  clear d0 d1 x0 x2 x3 q1 q2 q3 q4 q5 q6
  go_loopw [3] (fun i wr => ∃ k : Nat, k ≤ c.st.length ∧ i = .int .i64 k ∧ Below W.heap.size W wr) (fun i _ => c.st.length - (intOf i).toNat)
  case atStart => exact ⟨0, Nat.zero_le _, rfl, Below.refl _ _⟩
  case round =>
    obtain ⟨k, hk, rfl, hbw⟩ := hrel
    have HBW := Lib.hid hbw
    have HXW := Lib.hid (HX.out.low hbw hxl)
    have x2 := HXW.out.cell 2
    have x3 := HXW.out.cell 3
    simp only [List.getElem?_cons_zero, List.getElem?_cons_succ] at x2 x3
    have hsw := hbw.size
    have HTW := Lib.hid (HT.out.low hbw (by omega))
    clear hbw
    by_cases hlt : k < c.st.length
    · obtain ⟨b', off', e, hbl, z0, z1⟩ := HTW.out.get (i := k) hlt
      injection e with e
      injection e with e1 e2
      subst e1 e2
      have HTG := Lib.hid (OK.out.tag hlt)
      have hbd := OK.out.bnd hlt
      have hbl2 : b < wr.heap.size := by omega
      have hxl2 : bx < wr.heap.size := by omega
      generalize c.st[k].id = z at *
      have q1 : decide (((z : Nat) : Int) < 0) = false := decide_eq_false (by omega)
      have q2 : decide (((z : Nat) : Int) ≥ ((c.nx : Nat) : Int)) = false := decide_eq_false (by omega)
      have q2b : decide (((c.nx : Nat) : Int) ≤ ((z : Nat) : Int)) = false := decide_eq_false (by omega)
      have q2c : decide (c.nx ≤ z) = false := decide_eq_false (by omega)
      have q3 : (((k : Nat) : Int) != ((k : Nat) : Int)) = false := by simp
      go_wp2_with (at_builtin; fail)
      have BEL : Hid (∀ w', w'.cell? ⟨bx, 2, none⟩ = some (.int .i64 (c.nx : Nat)) ∧ w'.cell? ⟨bx, 3, none⟩ = some (.slice (some ⟨b, off, none⟩) c.st.length cc) ∧ w'.cell? ⟨b, off + k * 2, none⟩ = some (.int .i64 (z : Nat)) ∧ Below wr.heap.size wr w' → Below wr.heap.size wr w') := Lib.hid fun _ h => h.2.2.2
      refine wp_region_held_drew (S := (fun w' => w'.cell? ⟨bx, 2, none⟩ = some (.int .i64 (c.nx : Nat)) ∧ w'.cell? ⟨bx, 3, none⟩ = some (.slice (some ⟨b, off, none⟩) c.st.length cc) ∧ w'.cell? ⟨b, off + k * 2, none⟩ = some (.int .i64 (z : Nat)) ∧ Below wr.heap.size wr w')) (by kernel_rfl) ?_ (fun hHeld => ?_)
      · exact ⟨x2, x3, z0, (Below.refl _ _).drew⟩
      refine wpAnyH_take (i := 0) (oi := ⟨some 49, _, _, _, _, _⟩) (v := ?_) rfl (by kernel_rfl) (by kernel_rfl) (by kernel_rfl) (fun _ _ _ h => h) (Or.inl ⟨by rfl, fun w' hSw => ?_⟩) (by assumption) ?_
      rotate_left
      · (try dsimp only at hSw); go_simp; (try with_reducible rfl)
      (try simp only [Act.put, List.setIfInBounds_toArray, List.set_cons_zero, List.set_cons_succ])
      refine wpAnyH_take (i := 1) (oi := ⟨some 50, _, _, _, _, _⟩) (v := ?_) rfl (by kernel_rfl) (by kernel_rfl) (by kernel_rfl) (fun _ _ _ h => h) (Or.inl ⟨by rfl, fun w' hSw => ?_⟩) (by assumption) ?_
      rotate_left
      · (try dsimp only at hSw); go_simp; (try with_reducible rfl)
      (try simp only [Act.put, List.setIfInBounds_toArray, List.set_cons_zero, List.set_cons_succ])
      refine wpAnyH_take (i := 2) (oi := ⟨some 51, _, _, _, _, _⟩) (v := ?_) rfl (by kernel_rfl) (by kernel_rfl) (by kernel_rfl) (fun _ _ _ h => h) (Or.inl ⟨by rfl, fun w' hSw => ?_⟩) (by assumption) ?_
      rotate_left
      · (try dsimp only at hSw); go_simp; (try with_reducible rfl)
      (try simp only [Act.put, List.setIfInBounds_toArray, List.set_cons_zero, List.set_cons_succ])
      refine wpAnyH_take (i := 3) (oi := ⟨some 52, _, _, _, _, _⟩) (v := ?_) rfl (by kernel_rfl) (by kernel_rfl) (by kernel_rfl) (fun _ _ _ h => h) (Or.inl ⟨by rfl, fun w' hSw => ?_⟩) (by assumption) ?_
      rotate_left
      · (try dsimp only at hSw); go_simp; (try with_reducible rfl)
      (try simp only [Act.put, List.setIfInBounds_toArray, List.set_cons_zero, List.set_cons_succ])
      refine wpAnyH_take (i := 4) (oi := ⟨some 53, _, _, _, _, _⟩) (v := ?_) rfl (by kernel_rfl) (by kernel_rfl) (by kernel_rfl) (fun _ _ _ h => h) (Or.inl ⟨by rfl, fun w' hSw => ?_⟩) (by assumption) ?_
      rotate_left
      · (try dsimp only at hSw); go_simp; (try with_reducible rfl)
      (try simp only [Act.put, List.setIfInBounds_toArray, List.set_cons_zero, List.set_cons_succ])
      refine wpAnyH_take (i := 5) (oi := ⟨some 54, _, _, _, _, _⟩) (v := ?_) rfl (by kernel_rfl) (by kernel_rfl) (by kernel_rfl) (fun _ _ _ h => h) (Or.inl ⟨by rfl, fun w' hSw => ?_⟩) (by assumption) ?_
      rotate_left
      · (try dsimp only at hSw); go_simp; (try with_reducible rfl)
      (try simp only [Act.put, List.setIfInBounds_toArray, List.set_cons_zero, List.set_cons_succ])
      refine wpAnyH_take (i := 6) (oi := ⟨some 55, _, _, _, _, _⟩) (v := ?_) rfl (by kernel_rfl) (by kernel_rfl) (by kernel_rfl) (fun _ _ _ h => h) (Or.inl ⟨by rfl, fun w' hSw => ?_⟩) (by assumption) ?_
      rotate_left
      · (try dsimp only at hSw); go_simp; (try with_reducible rfl)
      (try simp only [Act.put, List.setIfInBounds_toArray, List.set_cons_zero, List.set_cons_succ])
      refine wpAnyH_take (i := 7) (oi := ⟨some 56, _, _, _, _, _⟩) (v := ?_) rfl (by kernel_rfl) (by kernel_rfl) (by kernel_rfl) (fun _ _ _ h => h) (Or.inl ⟨by rfl, fun w' hSw => ?_⟩) (by assumption) ?_
      rotate_left
      · (try dsimp only at hSw); go_simp; (try with_reducible rfl)
      (try simp only [Act.put, List.setIfInBounds_toArray, List.set_cons_zero, List.set_cons_succ])
      refine wpAnyH_take (i := 8) (oi := ⟨some 57, _, _, _, _, _⟩) (v := ?_) rfl (by kernel_rfl) (by kernel_rfl) (by kernel_rfl) (fun _ _ _ h => h) (Or.inl ⟨by rfl, fun w' hSw => ?_⟩) (by assumption) ?_
      rotate_left
      · (try dsimp only at hSw); go_simp; (try with_reducible rfl)
      (try simp only [Act.put, List.setIfInBounds_toArray, List.set_cons_zero, List.set_cons_succ])
      refine wpAnyH_take (i := 9) (oi := ⟨some 58, _, _, _, _, _⟩) (v := ?_) rfl (by kernel_rfl) (by kernel_rfl) (by kernel_rfl) (fun _ _ _ h => h) (Or.inl ⟨by rfl, fun w' hSw => ?_⟩) (by assumption) ?_
      rotate_left
      · (try dsimp only at hSw); go_simp; (try with_reducible rfl)
      (try simp only [Act.put, List.setIfInBounds_toArray, List.set_cons_zero, List.set_cons_succ])
      refine wpAnyH_take (i := 10) (oi := ⟨some 59, _, _, _, _, _⟩) (v := ?_) rfl (by kernel_rfl) (by kernel_rfl) (by kernel_rfl) (fun _ _ _ h => h) (Or.inl ⟨by rfl, fun w' hSw => ?_⟩) (by assumption) ?_
      rotate_left
      · (try dsimp only at hSw); go_simp; (try with_reducible rfl)
      (try simp only [Act.put, List.setIfInBounds_toArray, List.set_cons_zero, List.set_cons_succ])
      refine wpAnyH_take (i := 11) (oi := ⟨some 60, _, _, _, _, _⟩) (v := ?_) rfl (by kernel_rfl) (by kernel_rfl) (by kernel_rfl) (fun _ _ _ h => h) (Or.inl ⟨by rfl, fun w' hSw => ?_⟩) (by assumption) ?_
      rotate_left
      · (try dsimp only at hSw); go_simp; (try with_reducible rfl)
      (try simp only [Act.put, List.setIfInBounds_toArray, List.set_cons_zero, List.set_cons_succ])
      refine wpAnyH_take (i := 12) (oi := ⟨some 61, _, _, _, _, _⟩) (v := ?_) rfl (by kernel_rfl) (by kernel_rfl) (by kernel_rfl) (fun _ _ _ h => h) (Or.inl ⟨by rfl, fun w' hSw => ?_⟩) (by assumption) ?_
      rotate_left
      · (try dsimp only at hSw); go_simp; (try with_reducible rfl)
      (try simp only [Act.put, List.setIfInBounds_toArray, List.set_cons_zero, List.set_cons_succ])
      refine wpAnyH_take (i := 13) (oi := ⟨some 62, _, _, _, _, _⟩) (v := ?_) rfl (by kernel_rfl) (by kernel_rfl) (by kernel_rfl) (fun _ _ _ h => h) (Or.inl ⟨by rfl, fun w' hSw => ?_⟩) (by assumption) ?_
      rotate_left
      · (try dsimp only at hSw); go_simp; (try with_reducible rfl)
      (try simp only [Act.put, List.setIfInBounds_toArray, List.set_cons_zero, List.set_cons_succ])
      refine wpAnyH_take (i := 14) (oi := ⟨some 63, _, _, _, _, _⟩) (v := ?_) rfl (by kernel_rfl) (by kernel_rfl) (by kernel_rfl) (fun _ _ _ h => h) (Or.inl ⟨by rfl, fun w' hSw => ?_⟩) (by assumption) ?_
      rotate_left
      · (try dsimp only at hSw); go_simp; (try with_reducible rfl)
      (try simp only [Act.put, List.setIfInBounds_toArray, List.set_cons_zero, List.set_cons_succ])
      refine wpAnyH_take (i := 15) (oi := ⟨some 64, _, _, _, _, _⟩) (v := ?_) rfl (by kernel_rfl) (by kernel_rfl) (by kernel_rfl) (fun _ _ _ h => h) (Or.inl ⟨by rfl, fun w' hSw => ?_⟩) (by assumption) ?_
      rotate_left
      · (try dsimp only at hSw); go_simp; (try with_reducible rfl)
      (try simp only [Act.put, List.setIfInBounds_toArray, List.set_cons_zero, List.set_cons_succ])
      refine wpAnyH_take (i := 16) (oi := ⟨some 65, _, _, _, _, _⟩) (v := ?_) rfl (by kernel_rfl) (by kernel_rfl) (by kernel_rfl) (fun _ _ _ h => h) (Or.inl ⟨by rfl, fun w' hSw => ?_⟩) (by assumption) ?_
      rotate_left
      · (try dsimp only at hSw); go_simp; (try with_reducible rfl)
      (try simp only [Act.put, List.setIfInBounds_toArray, List.set_cons_zero, List.set_cons_succ])
      refine wpAnyH_take (i := 17) (oi := ⟨some 66, _, _, _, _, _⟩) (v := ?_) rfl (by kernel_rfl) (by kernel_rfl) (by kernel_rfl) (fun _ _ _ h => h) (Or.inl ⟨by rfl, fun w' hSw => ?_⟩) (by assumption) ?_
      rotate_left
      · (try dsimp only at hSw); go_simp; (try with_reducible rfl)
      (try simp only [Act.put, List.setIfInBounds_toArray, List.set_cons_zero, List.set_cons_succ])
      refine wpAnyH_take (i := 18) (oi := ⟨some 67, _, _, _, _, _⟩) (v := ?_) rfl (by kernel_rfl) (by kernel_rfl) (by kernel_rfl) (fun _ _ _ h => h) (Or.inl ⟨by rfl, fun w' hSw => ?_⟩) (by assumption) ?_
      rotate_left
      · (try dsimp only at hSw); go_simp; (try with_reducible rfl)
      (try simp only [Act.put, List.setIfInBounds_toArray, List.set_cons_zero, List.set_cons_succ])
      refine wpAnyH_take (i := 19) (oi := ⟨some 68, _, _, _, _, _⟩) (v := ?_) rfl (by kernel_rfl) (by kernel_rfl) (by kernel_rfl) (fun _ _ _ h => h) (Or.inl ⟨by rfl, fun w' hSw => ?_⟩) (by assumption) ?_
      rotate_left
      · (try dsimp only at hSw); go_simp; (try with_reducible rfl)
      (try simp only [Act.put, List.setIfInBounds_toArray, List.set_cons_zero, List.set_cons_succ])
      refine wpAnyH_take (i := 20) (oi := ⟨some 69, _, _, _, _, _⟩) (v := ?_) rfl (by kernel_rfl) (by kernel_rfl) (by kernel_rfl) (fun _ _ _ h => h) (Or.inl ⟨by rfl, fun w' hSw => ?_⟩) (by assumption) ?_
      rotate_left
      · (try dsimp only at hSw); go_simp; (try with_reducible rfl)
      (try simp only [Act.put, List.setIfInBounds_toArray, List.set_cons_zero, List.set_cons_succ])
      refine wpAnyH_take (i := 21) (oi := ⟨some 70, _, _, _, _, _⟩) (v := ?_) rfl (by kernel_rfl) (by kernel_rfl) (by kernel_rfl) (fun _ _ _ h => h) (Or.inl ⟨by rfl, fun w' hSw => ?_⟩) (by assumption) ?_
      rotate_left
      · (try dsimp only at hSw); go_simp; (try with_reducible rfl)
      (try simp only [Act.put, List.setIfInBounds_toArray, List.set_cons_zero, List.set_cons_succ])
      refine wpAnyH_take (i := 22) (oi := ⟨some 71, _, _, _, _, _⟩) (v := ?_) rfl (by kernel_rfl) (by kernel_rfl) (by kernel_rfl) (fun _ _ _ h => h) (Or.inl ⟨by rfl, fun w' hSw => ?_⟩) (by assumption) ?_
      rotate_left
      · (try dsimp only at hSw); go_simp; (try with_reducible rfl)
      (try simp only [Act.put, List.setIfInBounds_toArray, List.set_cons_zero, List.set_cons_succ])
      refine wpAnyH_take (i := 23) (oi := ⟨some 72, _, _, _, _, _⟩) (v := ?_) rfl (by kernel_rfl) (by kernel_rfl) (by kernel_rfl) (fun _ _ _ h => h) (Or.inl ⟨by rfl, fun w' hSw => ?_⟩) (by assumption) ?_
      rotate_left
      · (try dsimp only at hSw); go_simp; (try with_reducible rfl)
      (try simp only [Act.put, List.setIfInBounds_toArray, List.set_cons_zero, List.set_cons_succ])
      refine wpAnyH_take (i := 24) (oi := ⟨some 73, _, _, _, _, _⟩) (v := ?_) rfl (by kernel_rfl) (by kernel_rfl) (by kernel_rfl) (fun _ _ _ h => h) (Or.inl ⟨by rfl, fun w' hSw => ?_⟩) (by assumption) ?_
      rotate_left
      · (try dsimp only at hSw); go_simp; (try with_reducible rfl)
      (try simp only [Act.put, List.setIfInBounds_toArray, List.set_cons_zero, List.set_cons_succ])
      refine wpAnyH_take (i := 25) (oi := ⟨some 74, _, _, _, _, _⟩) (v := ?_) rfl (by kernel_rfl) (by kernel_rfl) (by kernel_rfl) (fun _ _ _ h => h) (Or.inl ⟨by rfl, fun w' hSw => ?_⟩) (by assumption) ?_
      rotate_left
      · (try dsimp only at hSw); go_simp; (try with_reducible rfl)
      (try simp only [Act.put, List.setIfInBounds_toArray, List.set_cons_zero, List.set_cons_succ])
      refine wpAnyH_take (i := 26) (oi := ⟨some 75, _, _, _, _, _⟩) (v := ?_) rfl (by kernel_rfl) (by kernel_rfl) (by kernel_rfl) (fun _ _ _ h => h) (Or.inl ⟨by rfl, fun w' hSw => ?_⟩) (by assumption) ?_
      rotate_left
      · (try dsimp only at hSw); go_simp; (try with_reducible rfl)
      (try simp only [Act.put, List.setIfInBounds_toArray, List.set_cons_zero, List.set_cons_succ])
      refine wpAnyH_take (i := 28) (oi := ⟨some 77, _, _, _, _, _⟩) (v := ?_) rfl (by kernel_rfl) (by kernel_rfl) (by kernel_rfl) (fun _ _ _ h => h) (Or.inl ⟨by rfl, fun w' hSw => ?_⟩) (by assumption) ?_
      rotate_left
      · (try dsimp only at hSw); go_simp; (try with_reducible rfl)
      (try simp only [Act.put, List.setIfInBounds_toArray, List.set_cons_zero, List.set_cons_succ])
      refine wpAnyH_ready (rs := [27]) (by kernel_rfl) (by simp) ?_
      refine AllReadyH.cons (o := ⟨some 76, _, _, _, _, _⟩) rfl (fun K hK => ?_) AllReadyH.nil
      go_simp
      (have BY := (BEL.out _ (by assumption)))
      (refine (l6Tag_any _ c.st z wr.heap.size _ ((show TgS wr wr.heap.size _ c.st from (HTW.out.more (by omega))).low BY (Nat.le_refl _))).mono ?_)
      (rintro e w9 ⟨rfl, rfl⟩)
      (rw [tagI_some HTG.out])
      (have BX9 := Lib.hid BY)
      go_simp
      refine hK.out _ _ ?_ (fun hHeld => ?_)
      · exact ⟨(BX9.out.cell (p := ⟨bx, 2, none⟩) hxl2).trans x2, (BX9.out.cell (p := ⟨bx, 3, none⟩) hxl2).trans x3, (BX9.out.cell (p := ⟨b, off + k * 2, none⟩) hbl2).trans z0, BX9.out⟩
      clear hK K
      (try simp only [Act.put, List.setIfInBounds_toArray, List.set_cons_zero, List.set_cons_succ])
      refine wpAnyH_take (i := 29) (oi := ⟨some 78, _, _, _, _, _⟩) (v := ?_) rfl (by kernel_rfl) (by kernel_rfl) (by kernel_rfl) (fun _ _ _ h => h) (Or.inl ⟨by rfl, fun w' hSw => ?_⟩) (by assumption) ?_
      rotate_left
      · (try dsimp only at hSw); go_simp; (try with_reducible rfl)
      (try simp only [Act.put, List.setIfInBounds_toArray, List.set_cons_zero, List.set_cons_succ])
      refine wpAnyH_take (i := 30) (oi := ⟨some 79, _, _, _, _, _⟩) (v := ?_) rfl (by kernel_rfl) (by kernel_rfl) (by kernel_rfl) (fun _ _ _ h => h) (Or.inl ⟨by rfl, fun w' hSw => ?_⟩) (by assumption) ?_
      rotate_left
      · (try dsimp only at hSw); go_simp; (try with_reducible rfl)
      (try simp only [Act.put, List.setIfInBounds_toArray, List.set_cons_zero, List.set_cons_succ])
      refine wpAnyH_done (by kernel_rfl) ?_ _
      clear z0 z1 x2 x3 BEL
      go_wp2_with (at_builtin; fail)
      exact ⟨⟨k + 1, by omega, by go_num, HBW.out.trans (BX9.out.mono (by omega))⟩, by simp [intOf] <;> omega⟩
    · go_wp2_with (at_builtin; fail)
      go_ret
      exact ⟨rfl, HB0.out.trans (HBW.out.mono hs0)⟩
set_option maxHeartbeats 4000000 in
set_option maxRecDepth 100000 in
theorem sCellsValid_any (v : Value) (ps : List (Cl × Value)) (base : Nat) (w : World) (h : OCe w base v ps) (hok : okM (ps.map (·.1))) :
    Calls Tryz.prog 108 #[v] w fun e w' => e = .returned (.bool true) ∧ Below w.heap.size w w' := by
  have hl : ps.length ≤ 200 := by simpa using hok.1
  have OK := Lib.hid (fun i (hi : i < ps.length) => hok.2 ps[i].1 (List.mem_map.2 ⟨ps[i], List.getElem_mem hi, rfl⟩))
  have H := Lib.hid h
  obtain ⟨A, c, rfl, hc⟩ := h.slice
  clear h hok
  go_enter Tryz.func108, Tryz.ntmps108
  go_wp2_with (at_builtin; fail)
  go_loopw [3] (fun i wr => ∃ k : Nat, k ≤ ps.length ∧ i = .int .i64 k ∧ Below w.heap.size w wr) (fun i _ => ps.length - (intOf i).toNat)
  case atStart => exact ⟨0, Nat.zero_le _, rfl, Below.refl _ _⟩
  case round =>
    obtain ⟨k, hk, rfl, hbw⟩ := hrel
    have HBW := Lib.hid hbw
    have hsw := hbw.size
    have HW := Lib.hid (H.out.bel hbw)
    clear hbw
    by_cases hlt : k < ps.length
    · obtain ⟨g, rfl, hgb, hgl, -, d0, d1, d2, d3, -⟩ := HW.out.at_ hlt
      have HTG := Lib.hid ((HW.out.row k hlt).toS (by have := (OK.out k hlt).l1; omega))
      have HOK := Lib.hid (OK.out k hlt)
      have q1 : decide (((k : Nat) : Int) < ((ps.length : Nat) : Int)) = true := decide_eq_true (by omega)
      have q2 : decide (((k : Nat) : Int) ≤ 200) = true := decide_eq_true (by omega)
      generalize ps[k] = p at *
      obtain ⟨cl, tv⟩ := p
      simp only at d0 d1 d2 d3 HTG HOK
      obtain ⟨At, ct, rfl, -⟩ := HTG.out.slice
      have HC := Lib.hid (l6Cell_any cl _ wr.heap.size wr HTG.out (Nat.le_refl _) HOK.out)
      generalize cl.st.length = sl at *
      generalize cl.val = a0 at *
      generalize cl.al = a1 at *
      generalize cl.nx = a2 at *
      go_wp2_with (at_builtin; fail)
      refine HC.out.mono ?_
      rintro e w3 ⟨rfl, hb3⟩
      have HB3 := Lib.hid (HBW.out.trans (hb3.mono hsw))
      clear hb3
      go_wp2_with (at_builtin; fail)
      exact ⟨⟨k + 1, by omega, by go_num, HB3.out⟩, by simp [intOf] <;> omega⟩
    · have q1 : decide (((k : Nat) : Int) < ((ps.length : Nat) : Int)) = false := decide_eq_false (by omega)
      have q2 : decide (((ps.length : Nat) : Int) ≤ 200) = true := decide_eq_true (by omega)
      go_wp2_with (at_builtin; fail)
      go_ret
      exact ⟨rfl, HBW.out⟩

end Go.Proofs.YtfioaohadanjmaaGreat
