import Derived.Test.YtidlifijgooceaaGreatG10
import Derived.Test.YtidlifijgooceaaGreatG19
import Derived.Test.YtidlifijgooceaaGreatG22
import Derived.Lib.AppendZeros
import Derived.Test.YtidlifijgooceaaGreatG23
set_option linter.unusedVariables false

/- slices.Grow of nil, slices.Concat of two slices of ints; impl.graph.from, PathsTo, PathsFrom. -/
namespace Go.Proofs.YtidlifijgooceaaGreat
open Go.RowKit

theorem IntS.toX {w : World} {B : Nat} {v : Value} {l : List Int} {P : Nat → Prop} (h : IntS w B v l) (hB : B ≤ w.heap.size) (hP : ∀ b, b < B → P b) : IntX w P v l := by
  obtain ⟨A, c, e, h1, h2, h3⟩ := h
  refine ⟨A, c, e, h1, h2, fun hn => ?_⟩
  obtain ⟨b, off, e, hb, hc⟩ := h3.int_at hn
  exact ⟨b, off, e, hP b hb, by omega, hc⟩
theorem IntX.head {w : World} {P : Nat → Prop} {v : Value} {a : Int} {q : List Int} (h : IntX w P v (a :: q)) :
    ∃ b off c, v = .slice (some ⟨b, off, none⟩) (q.length + 1) (c + 1) ∧ q.length ≤ c ∧ P b ∧ b < w.heap.size ∧ w.cell? ⟨b, off, none⟩ = some (.int .i64 a) ∧ (∀ off', (off' = off ∧ c = 0 ∨ off' = off + 1) → IntX w P (.slice (some ⟨b, off', none⟩) q.length c) q) := by
  obtain ⟨A, c, e, h1, h2, h3⟩ := h
  obtain ⟨b, off, rfl, hP, hb, hc⟩ := h3 (by simp)
  simp only [List.length_cons] at h1 h2 e hc
  obtain ⟨c, rfl⟩ : ∃ c', c = c' + 1 := ⟨c - 1, by omega⟩
  refine ⟨b, off, c, e, by omega, hP, hb, by simpa using hc 0 (by omega), fun off' ho => ⟨_, c, rfl, by omega, by omega, fun hn => ⟨b, off', rfl, hP, hb, fun j hj => ?_⟩⟩⟩
  rcases ho with ⟨-, hc0⟩ | rfl
  · omega
  · have := hc (j + 1) (by omega)
    rw [show off + 1 + j = off + (j + 1) by omega, this]
    simp [List.getD]

end Go.Proofs.YtidlifijgooceaaGreat

/- impl.Point.isLoan, isChoice; impl.graph.run; slices.Clone; impl.RunPath. -/
namespace Go.Proofs.YtidlifijgooceaaGreat
open Go.RowKit

def loanB (op : Int) : Bool := op == 4 || op == 5
set_option maxHeartbeats 400000 in
theorem isLoan_any (op x y n : Int) (nv : Value) (w : World) :
    Calls Tryz.prog 37 #[.agg #[.int .i64 op, .int .i64 x, .int .i64 y, .int .i64 n, nv]] w fun e w' => e = .returned (.bool (loanB op)) ∧ Below w.heap.size w w' := by
  by_cases h4 : op = 4
  · subst h4
    go_enter Tryz.func37, Tryz.ntmps37
    go_wp2_with fail
    go_ret
    exact ⟨rfl, bel_a _ _⟩
  · by_cases h5 : op = 5
    · subst h5
      go_enter Tryz.func37, Tryz.ntmps37
      go_wp2_with fail
      go_ret
      exact ⟨rfl, bel_a _ _⟩
    · go_enter Tryz.func37, Tryz.ntmps37
      go_wp2_with fail
      go_ret
      exact ⟨ret_bool (by simp [loanB]), bel_a _ _⟩
theorem IntS.take {w : World} {B n c m : Nat} {A : Option Addr} {l : List Int} (h : IntS w B (.slice A n c) l) (hm : m ≤ l.length) : IntS w B (.slice A m c) (l.take m) := by
  obtain ⟨A', c', e, h1, h2, h3⟩ := h
  injection e with e1 e2 e3
  subst e1 e3
  have hl : (l.take m).length = m := by simp; omega
  refine ⟨A, c, by rw [hl], by omega, by omega, by simp, fun hn => ?_⟩
  obtain ⟨b, off, e, hb, hc⟩ := h3.2 (by omega)
  refine ⟨b, off, e, hb, fun j u hu => hc j u ?_⟩
  have hj : j < m := by have := (List.getElem?_eq_some_iff.1 hu).1; simp at this; omega
  rw [List.getElem?_map, List.getElem?_take_of_lt hj] at hu
  rw [List.getElem?_map]; exact hu
end Go.Proofs.YtidlifijgooceaaGreat

/- Loans: owned rows of them; impl.LoansOf. -/
namespace Go.Proofs.YtidlifijgooceaaGreat
open Go.RowKit

structure Ln where
  pt : Nat
  un : Bool
  vr : Int
def lnCells : List Ln → List Value
  | [] => []
  | x :: r => .int .i64 (x.pt : Nat) :: .bool x.un :: .int .i64 x.vr :: lnCells r
theorem lnCells_at {ls : List Ln} {i : Nat} (hi : i < ls.length) : (lnCells ls)[i * 3]? = some (.int .i64 (ls[i].pt : Nat)) ∧ (lnCells ls)[i * 3 + 1]? = some (.bool ls[i].un) ∧ (lnCells ls)[i * 3 + 2]? = some (.int .i64 ls[i].vr) := by
  induction ls generalizing i with
  | nil => simp at hi
  | cons x r ih =>
    cases i with
    | zero => simp [lnCells]
    | succ i =>
      have := ih (i := i) (by simpa using hi)
      simp only [lnCells, show (i + 1) * 3 = i * 3 + 3 by omega, show i * 3 + 3 + 1 = i * 3 + 1 + 3 by omega, show i * 3 + 3 + 2 = i * 3 + 2 + 3 by omega, List.getElem?_cons_succ, List.getElem_cons_succ]
      exact this
def OLn (w : World) (base : Nat) (v : Value) (ls : List Ln) : Prop := w.ownsRow base 34 3 v ls.length (lnCells ls)
theorem OLn.nil (w : World) (base : Nat) : OLn w base (.slice none 0 0) [] := World.ownsRow_nil _ _ _ _
theorem OLn.slice {w : World} {base : Nat} {v : Value} {l : List Ln} (h : OLn w base v l) : ∃ A c, v = .slice A l.length c ∧ l.length ≤ c := by
  rcases h.2 with ⟨rfl, h0⟩ | ⟨g, cap, cur, rfl, _, _, hc, _⟩
  · exact ⟨none, 0, by rw [h0], by omega⟩
  · exact ⟨_, cap, rfl, hc⟩
theorem OLn.bel {w w' : World} {base : Nat} {v : Value} {l : List Ln} (h : OLn w base v l) (hb : Below w.heap.size w w') : OLn w' base v l :=
  World.ownsRow.kept h (grown_bel hb (Nat.le_refl _) none) (by cases v.ownBlock <;> simp)
/-- the slice v reads as the loans ls -/
def LnS (w : World) (B : Nat) (v : Value) (ls : List Ln) : Prop :=
  ∃ A c, v = .slice A ls.length c ∧ ls.length ≤ c ∧ ls.length ≤ 100000 ∧ (0 < ls.length → ∃ b off, A = some ⟨b, off, none⟩ ∧ b < B ∧ ∀ i (h : i < ls.length),
    w.cell? ⟨b, off + i * 3, none⟩ = some (.int .i64 (ls[i].pt : Nat)) ∧ w.cell? ⟨b, off + i * 3 + 1, none⟩ = some (.bool ls[i].un) ∧ w.cell? ⟨b, off + i * 3 + 2, none⟩ = some (.int .i64 ls[i].vr))
theorem LnS.low {w w' : World} {B B' : Nat} {v : Value} {l : List Ln} (h : LnS w B v l) (hb : Below B' w w') (hB : B ≤ B') : LnS w' B v l := by
  obtain ⟨A, c, e, h1, h2, h3⟩ := h
  refine ⟨A, c, e, h1, h2, fun hn => ?_⟩
  obtain ⟨b, off, e, hbb, hc⟩ := h3 hn
  have k : ∀ o, w'.cell? ⟨b, o, none⟩ = w.cell? ⟨b, o, none⟩ := fun o => hb.cell (p := ⟨b, o, none⟩) (by show b < B'; omega)
  exact ⟨b, off, e, hbb, fun i hi => by simp only [k]; exact hc i hi⟩
theorem LnS.bel {w w' : World} {v : Value} {l : List Ln} (h : LnS w w.heap.size v l) (hb : Below w.heap.size w w') : LnS w' w'.heap.size v l := by
  obtain ⟨A, c, e, h1, h2, h3⟩ := h.low hb (Nat.le_refl _)
  refine ⟨A, c, e, h1, h2, fun hn => ?_⟩
  obtain ⟨b, off, e, hbb, hc⟩ := h3 hn
  exact ⟨b, off, e, Nat.lt_of_lt_of_le hbb hb.size, hc⟩
theorem LnS.slice {w : World} {B : Nat} {v : Value} {l : List Ln} (h : LnS w B v l) : ∃ A c, v = .slice A l.length c ∧ l.length ≤ c := by
  obtain ⟨A, c, e, h1, _⟩ := h
  exact ⟨A, c, e, h1⟩
theorem LnS.get {w : World} {B n c : Nat} {A : Option Addr} {l : List Ln} (h : LnS w B (.slice A n c) l) {i : Nat} (hi : i < l.length) : ∃ b off, A = some ⟨b, off, none⟩ ∧ b < B ∧
    w.cell? ⟨b, off + i * 3, none⟩ = some (.int .i64 (l[i].pt : Nat)) ∧ w.cell? ⟨b, off + i * 3 + 1, none⟩ = some (.bool l[i].un) ∧ w.cell? ⟨b, off + i * 3 + 2, none⟩ = some (.int .i64 l[i].vr) := by
  obtain ⟨A', c', e, h1, h2, h3⟩ := h
  injection e with e1 _ _
  subst e1
  obtain ⟨b, off, e, hb, hc⟩ := h3 (by omega)
  exact ⟨b, off, e, hb, hc i hi⟩
theorem OLn.toS {w : World} {base : Nat} {v : Value} {l : List Ln} (h : OLn w base v l) (hl : l.length ≤ 100000) : LnS w w.heap.size v l := by
  obtain ⟨A, c, rfl, hc⟩ := h.slice
  refine ⟨A, c, rfl, hc, hl, fun hn => ?_⟩
  obtain ⟨g, cap, e, hb, hlt⟩ := World.ownsRow.form h hn
  injection e with e1 _ e2
  subst e1 e2
  refine ⟨g, 0, rfl, hlt, fun i hi => ?_⟩
  obtain ⟨a0, a1, a2⟩ := lnCells_at hi
  simp only [Nat.zero_add]
  exact ⟨(World.ownsRow.cellAt h _ (by omega)).trans a0, (World.ownsRow.cellAt h _ (by omega)).trans a1, (World.ownsRow.cellAt h _ (by omega)).trans a2⟩
end Go.Proofs.YtidlifijgooceaaGreat
