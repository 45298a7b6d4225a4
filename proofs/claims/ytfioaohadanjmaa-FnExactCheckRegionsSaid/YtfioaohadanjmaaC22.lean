import Derived.Test.YtfioaohadanjmaaC18
import Derived.Test.YtfioaohadanjmaaC21
set_option linter.unusedVariables false

/- Issues: owned rows of them. -/
namespace Go.Proofs.Ytfioaohadanjmaa
open Go.RowKit

/-- blocks of other types stay -/
def KpT (e : TypeId) (w w' : World) : Prop := w.heap.size ≤ w'.heap.size ∧ ∀ (b : Nat) (cs : Array Value) (T : TypeId), w.heap[b]? = some (Obj.cells cs T (0, 0)) → T ≠ e → w'.heap[b]? = some (Obj.cells cs T (0, 0))
theorem KpT.refl (e : TypeId) (w : World) : KpT e w w := ⟨Nat.le_refl _, fun _ _ _ h _ => h⟩
theorem KpT.trans {e : TypeId} {a b c : World} (h : KpT e a b) (k : KpT e b c) : KpT e a c := ⟨Nat.le_trans h.1 k.1, fun x cs T hx hT => k.2 x cs T (h.2 x cs T hx hT) hT⟩
theorem KpT.of_bel {e : TypeId} {w w' : World} (h : Below w.heap.size w w') : KpT e w w' := ⟨h.size, fun _ _ _ hb _ => row_below hb h⟩
theorem KpT.grown {e : TypeId} {size : Nat} {w w' : World} {base : Nat} {v : Value} {n : Nat} {xs : List Value} {o : Obj} (hown : (w.alloc o).ownsRow base e size v n xs) (k2 : (w.alloc o).grownBy w' v.ownBlock) : KpT e w w' := by
  refine (KpT.of_bel (bel_a w o)).trans ⟨k2.size, fun b cs T hb hT => (k2.block b ?_ fun e' => ?_).trans hb⟩
  · rcases Nat.lt_or_ge b (w.alloc o).heap.size with h' | h'
    · exact h'
    · rw [Array.getElem?_eq_none h'] at hb; cases hb
  · rcases hown.2 with ⟨rfl, _⟩ | ⟨g, cap, cur, rfl, _, hh, _⟩
    · cases e'
    · injection e' with e'
      have e' : b = g := e'
      subst e'
      rw [hb] at hh
      injection hh with hh
      injection hh with _ hT'
      exact hT hT'
theorem OInts.keepT {w w' : World} {base : Nat} {v : Value} {l : List Int} (h : OInts w base v l) {e : TypeId} (hk : KpT e w w') (he : 3 ≠ e) : OInts w' base v l := by
  refine ⟨h.1, ?_⟩
  rcases h.2 with h' | ⟨g, cap, cur, rfl, hbg, hh, rest⟩
  · exact .inl h'
  · exact .inr ⟨g, cap, cur, rfl, hbg, hk.2 _ _ _ hh he, rest⟩

def isCells : List Iss → List Value
  | [] => []
  | x :: r => .int .i64 x.pt :: .int .i64 x.kd :: .int .i64 x.wt :: isCells r
theorem isCells_append (a b : List Iss) : isCells (a ++ b) = isCells a ++ isCells b := by
  induction a with
  | nil => rfl
  | cons x r ih => simp [isCells, ih]
theorem isCells_len (a : List Iss) : (isCells a).length = a.length * 3 := by
  induction a with
  | nil => rfl
  | cons x r ih => simp [isCells, ih]; omega
theorem isCells_at {ls : List Iss} {i : Nat} (hi : i < ls.length) : (isCells ls)[i * 3]? = some (.int .i64 ls[i].pt) ∧ (isCells ls)[i * 3 + 1]? = some (.int .i64 ls[i].kd) ∧ (isCells ls)[i * 3 + 2]? = some (.int .i64 ls[i].wt) := by
  induction ls generalizing i with
  | nil => simp at hi
  | cons x r ih =>
    cases i with
    | zero => simp [isCells]
    | succ i =>
      have := ih (i := i) (by simpa using hi)
      simp only [isCells, show (i + 1) * 3 = i * 3 + 3 by omega, show i * 3 + 3 + 1 = i * 3 + 1 + 3 by omega, show i * 3 + 3 + 2 = i * 3 + 2 + 3 by omega, List.getElem?_cons_succ, List.getElem_cons_succ]
      exact this
def OIs (w : World) (base : Nat) (v : Value) (ls : List Iss) : Prop := w.ownsRow base 35 3 v ls.length (isCells ls)
theorem OIs.nil (w : World) (base : Nat) : OIs w base (.slice none 0 0) [] := World.ownsRow_nil _ _ _ _
theorem OIs.slice {w : World} {base : Nat} {v : Value} {l : List Iss} (h : OIs w base v l) : ∃ A c, v = .slice A l.length c ∧ l.length ≤ c := by
  rcases h.2 with ⟨rfl, h0⟩ | ⟨g, cap, cur, rfl, _, _, hc, _⟩
  · exact ⟨none, 0, by rw [h0], by omega⟩
  · exact ⟨_, cap, rfl, hc⟩
theorem OIs.bel {w w' : World} {base : Nat} {v : Value} {l : List Iss} (h : OIs w base v l) (hb : Below w.heap.size w w') : OIs w' base v l :=
  World.ownsRow.kept h (grown_bel hb (Nat.le_refl _) none) (by cases v.ownBlock <;> simp)
theorem OIs.base {w : World} {base base' : Nat} {v : Value} {l : List Iss} (h : OIs w base v l) (hb : base' ≤ base) : OIs w base' v l := by
  refine ⟨h.1, ?_⟩
  rcases h.2 with h' | ⟨g, cap, cur, rfl, hbg, rest⟩
  · exact .inl h'
  · exact .inr ⟨g, cap, cur, rfl, by omega, rest⟩
theorem OIs.empty (w : World) (base : Nat) (hb : base ≤ w.heap.size) : OIs (w.alloc (.cells #[] 35)) base (.slice (some ⟨w.heap.size, 0, none⟩) 0 0) [] :=
  World.ownsRow_lit (base := base) (e := 35) (size := 3) w #[] 0 hb (by simp [maxLen]) rfl
/-- the slice v reads as the rows ls -/
def IsS (w : World) (B : Nat) (v : Value) (ls : List Iss) : Prop :=
  ∃ A c, v = .slice A ls.length c ∧ ls.length ≤ c ∧ ls.length ≤ 100000 ∧ (0 < ls.length → ∃ b off, A = some ⟨b, off, none⟩ ∧ b < B ∧ ∀ i (h : i < ls.length),
    w.cell? ⟨b, off + i * 3, none⟩ = some (.int .i64 ls[i].pt) ∧ w.cell? ⟨b, off + i * 3 + 1, none⟩ = some (.int .i64 ls[i].kd) ∧ w.cell? ⟨b, off + i * 3 + 2, none⟩ = some (.int .i64 ls[i].wt))
theorem IsS.low {w w' : World} {B B' : Nat} {v : Value} {l : List Iss} (h : IsS w B v l) (hb : Below B' w w') (hB : B ≤ B') : IsS w' B v l := by
  obtain ⟨A, c, e, h1, h2, h3⟩ := h
  refine ⟨A, c, e, h1, h2, fun hn => ?_⟩
  obtain ⟨b, off, e, hbb, hc⟩ := h3 hn
  have k : ∀ o, w'.cell? ⟨b, o, none⟩ = w.cell? ⟨b, o, none⟩ := fun o => hb.cell (p := ⟨b, o, none⟩) (by show b < B'; omega)
  exact ⟨b, off, e, hbb, fun i hi => by simp only [k]; exact hc i hi⟩
theorem IsS.bel {w w' : World} {v : Value} {l : List Iss} (h : IsS w w.heap.size v l) (hb : Below w.heap.size w w') : IsS w' w'.heap.size v l := by
  obtain ⟨A, c, e, h1, h2, h3⟩ := h.low hb (Nat.le_refl _)
  refine ⟨A, c, e, h1, h2, fun hn => ?_⟩
  obtain ⟨b, off, e, hbb, hc⟩ := h3 hn
  exact ⟨b, off, e, Nat.lt_of_lt_of_le hbb hb.size, hc⟩
theorem IsS.slice {w : World} {B : Nat} {v : Value} {l : List Iss} (h : IsS w B v l) : ∃ A c, v = .slice A l.length c ∧ l.length ≤ c := by
  obtain ⟨A, c, e, h1, _⟩ := h
  exact ⟨A, c, e, h1⟩
theorem IsS.get {w : World} {B n c : Nat} {A : Option Addr} {l : List Iss} (h : IsS w B (.slice A n c) l) {i : Nat} (hi : i < l.length) : ∃ b off, A = some ⟨b, off, none⟩ ∧ b < B ∧
    w.cell? ⟨b, off + i * 3, none⟩ = some (.int .i64 l[i].pt) ∧ w.cell? ⟨b, off + i * 3 + 1, none⟩ = some (.int .i64 l[i].kd) ∧ w.cell? ⟨b, off + i * 3 + 2, none⟩ = some (.int .i64 l[i].wt) := by
  obtain ⟨A', c', e, h1, h2, h3⟩ := h
  injection e with e1 _ _
  subst e1
  obtain ⟨b, off, e, hb, hc⟩ := h3 (by omega)
  exact ⟨b, off, e, hb, hc i hi⟩
theorem OIs.toS {w : World} {base : Nat} {v : Value} {l : List Iss} (h : OIs w base v l) (hl : l.length ≤ 100000) : IsS w w.heap.size v l := by
  obtain ⟨A, c, rfl, hc⟩ := h.slice
  refine ⟨A, c, rfl, hc, hl, fun hn => ?_⟩
  obtain ⟨g, cap, e, hb, hlt⟩ := World.ownsRow.form h hn
  injection e with e1 _ e2
  subst e1 e2
  refine ⟨g, 0, rfl, hlt, fun i hi => ?_⟩
  obtain ⟨a0, a1, a2⟩ := isCells_at hi
  simp only [Nat.zero_add]
  exact ⟨(World.ownsRow.cellAt h _ (by omega)).trans a0, (World.ownsRow.cellAt h _ (by omega)).trans a1, (World.ownsRow.cellAt h _ (by omega)).trans a2⟩
theorem Try.infoisCells : (Try.prog.info? 35).map (fun i => (i.zero, i.size, i.bytes)) = some (some (.agg #[.int .i64 0, .int .i64 0, .int .i64 0]), 3, 24) := by kernel_rfl
/-- append(out, a struct) -/
theorem wpList_push_isCells {ops : Array Oper} {rest : List Oper} {o : Oper} {a : Act} {Q : Exit → Act → World → Prop} {w : World} {base : Nat} {vo : Value} {ls : List Iss} (hgd : o.guard = none) (s x : Operand)
    (ho : o.op = .call { callee := .builtin .append, args := #[s, x], argTypes := #[39, 39] })
    (hP : OIs w base vo ls) (hb : base ≤ w.heap.size) (hn : ls.length + 1 ≤ 100000) (x0 : Int) (x1 : Int) (x2 : Int) (hs : a.eval s = vo) (hx : a.eval x = .slice (some ⟨w.heap.size, 0, none⟩) 1 1)
    (h : ∀ v' w', OIs w' base v' (ls ++ [⟨x0, x1, x2⟩]) → Below base w w' → KpT 35 w w' → wpList Try.prog ops Q rest (a.put o.dst v') w') :
    wpList Try.prog ops Q (o :: rest) a (w.alloc (.cells #[.int .i64 x0, .int .i64 x1, .int .i64 x2] 35)) := by
  obtain ⟨i0, hi0, hz0, hz1, hz2⟩ := info_parts Try.infoisCells
  have hown := World.ownsRow.alloc hP (.cells #[.int .i64 x0, .int .i64 x1, .int .i64 x2] 35)
  refine wpList_append_own_at _ hgd s x 39 ho base 35 i0 _ 3 24 Try.underlying39 hi0 hz0 hz1 hz2 rfl (by omega) vo ls.length _ hs hown ⟨w.heap.size, 0, none⟩ 1 1 [.int .i64 x0, .int .i64 x1, .int .i64 x2] hx rfl ?_ ?_ (by simp only [maxLen]; omega) (by omega) (by simp; omega) ?_
  · intro j u' hu
    have : (w.alloc (.cells #[.int .i64 x0, .int .i64 x1, .int .i64 x2] 35)).cell? ⟨w.heap.size, j, none⟩ = some u' := by
      rw [cell_of_row _ _ _ _ _ _ (heap_alloc_new w _)]
      simpa using hu
    unfold Addr.add
    by_cases hj : j = 0
    · subst hj; simpa using this
    · simpa [hj] using this
  · intro u' hu
    simp at hu
    rcases hu with rfl | rfl | rfl <;> rfl
  · intro v' w' k1 k2 k3 k4
    refine h v' w' ?_ ((((bel_a w _).mono hb)).trans ((Evo.grown (T := 35) hown k2).below (by simp; omega))) (KpT.grown hown k2)
    unfold OIs
    rw [isCells_append]
    simpa [isCells] using k1

end Go.Proofs.Ytfioaohadanjmaa
