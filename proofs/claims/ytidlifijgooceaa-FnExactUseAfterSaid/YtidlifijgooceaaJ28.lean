import Derived.Test.YtidlifijgooceaaJ26
import Derived.Test.YtidlifijgooceaaJ17
import Derived.Test.YtidlifijgooceaaJ20
import Derived.Lib.AppendZeros
import Derived.Test.YtidlifijgooceaaJ27
set_option linter.unusedVariables false

/- slices.Grow of nil, slices.Concat of two slices of ints; impl.graph.from, PathsTo, PathsFrom. -/
namespace Go.Proofs.Ytidlifijgooceaa
open Go.RowKit

theorem IntS.toX {w : World} {B : Nat} {v : Value} {l : List Int} {P : Nat → Prop} (h : IntS w B v l) (hB : B ≤ w.heap.size) (hP : ∀ b, b < B → P b) : IntX w P v l := by
  obtain ⟨A, c, e, h1, h2, h3⟩ := h
  refine ⟨A, c, e, h1, h2, fun hn => ?_⟩
  obtain ⟨b, off, e, hb, hc⟩ := h3.int_at hn
  exact ⟨b, off, e, hP b hb, by omega, hc⟩
theorem IntX.head {w : World} {P : Nat → Prop} {v : Value} {a : Int} {q : List Int} (h : IntX w P v (a :: q)) :
    ∃ b off c, v = .slice (some ⟨b, off, none⟩) (q.length + 1) (c + 1) ∧ q.length ≤ c ∧ P b ∧ b < w.heap.size ∧ w.cell? ⟨b, off, none⟩ = some (.int .i64 a) ∧ (∀ off', (off' = off ∧ c = 0 ∨ off' = off + 1) → IntX w P (.slice (some ⟨b, off', none⟩) q.length c) q) := by
  obtain ⟨A, c, e, h1, h2, h3⟩ := h
  obtain ⟨b, off, rfl, hP, hb, hc⟩ := h3 (by simp)
  simp only [List.length_cons] at h1 h2 e hc
  obtain ⟨c, rfl⟩ : ∃ c', c = c' + 1 := ⟨c - 1, by omega⟩
  refine ⟨b, off, c, e, by omega, hP, hb, by simpa using hc 0 (by omega), fun off' ho => ⟨_, c, rfl, by omega, by omega, fun hn => ⟨b, off', rfl, hP, hb, fun j hj => ?_⟩⟩⟩
  rcases ho with ⟨-, hc0⟩ | rfl
  · omega
  · have := hc (j + 1) (by omega)
    rw [show off + 1 + j = off + (j + 1) by omega, this]
    simp [List.getD]

theorem wpList_app_ints {ops : Array Oper} {rest : List Oper} {o : Oper} {a : Act} {Q : Exit → Act → World → Prop} {w : World} (hgd : o.guard = none) (s x : Operand)
    (ho : o.op = .call { callee := .builtin .append, args := #[s, x], argTypes := #[23, 23] })
    (base : Nat) (v : Value) (l : List Int) (hs : a.eval s = v) (hP : OInts w base v l) (B : Nat) (vs : Value) (ts : List Int) (hx : a.eval x = vs) (hr : IntS w B vs ts) (hb : base ≤ w.heap.size) (hn : l.length + ts.length ≤ 8388608)
    (h : ∀ v' w', OInts w' base v' (l ++ ts) → Below base w w' → wpList Try.prog ops Q rest (a.put o.dst v') w') : wpList Try.prog ops Q (o :: rest) a w :=
  wpList_plain hgd fun _ hK => wp_app_ints s x ho base v l hs hP B vs ts hx hr hb hn fun v' w' h1 h2 _ => hK _ _ (h v' w' h1 ((Evo.grown (T := 3) hP h2).below hb))

noncomputable def ldsL (pts : List Pt) (a : Nat) : List Bool := (List.range pts.length).map fun k => dec (Lds pts a k)
theorem FrI.ldsL {pts : List Pt} {a : Nat} {fl : List Bool} (h : FrI pts a fl []) : fl = ldsL pts a := by
  apply List.ext_getElem
  · simp [Proofs.Ytidlifijgooceaa.ldsL, h.len]
  · intro i h1 h2
    simp only [Proofs.Ytidlifijgooceaa.ldsL, List.getElem_map, List.getElem_range]
    rw [Bool.eq_iff_iff, dec_iff, ← h.done i, getD_lt h1]
def FromRet (w : World) (pts : List Pt) (a : Nat) (e : Ending) (w' : World) : Prop :=
  ∃ g, e = .returned (.slice (some ⟨g, 0, none⟩) pts.length pts.length) ∧ RowB w' g 4 (bv (ldsL pts a)) ∧ Below w.heap.size w w'

theorem ldsL_get {pts : List Pt} {a k : Nat} (hk : k < pts.length) : (ldsL pts a).getD k false = dec (Lds pts a k) := by
  rw [getD_lt (by simpa [ldsL] using hk)]; simp [ldsL]
theorem ldsL_len (pts : List Pt) (a : Nat) : (ldsL pts a).length = pts.length := by simp [ldsL]
end Go.Proofs.Ytidlifijgooceaa

/- impl.Point.isLoan, isChoice; impl.graph.run; slices.Clone; impl.RunPath. -/
namespace Go.Proofs.Ytidlifijgooceaa
open Go.RowKit

def loanB (op : Int) : Bool := op == 4 || op == 5
set_option maxHeartbeats 400000 in
theorem isLoan_any (op x y n : Int) (nv : Value) (w : World) :
    Calls Try.prog 148 #[.agg #[.int .i64 op, .int .i64 x, .int .i64 y, .int .i64 n, nv]] w fun e w' => e = .returned (.bool (loanB op)) ∧ Below w.heap.size w w' := by
  by_cases h4 : op = 4
  · subst h4
    go_enter Try.func148, Try.ntmps148
    go_wp2_with fail
    go_ret
    exact ⟨rfl, bel_a _ _⟩
  · by_cases h5 : op = 5
    · subst h5
      go_enter Try.func148, Try.ntmps148
      go_wp2_with fail
      go_ret
      exact ⟨rfl, bel_a _ _⟩
    · go_enter Try.func148, Try.ntmps148
      go_wp2_with fail
      go_ret
      exact ⟨ret_bool (by simp [loanB]), bel_a _ _⟩
theorem IntS.take {w : World} {B n c m : Nat} {A : Option Addr} {l : List Int} (h : IntS w B (.slice A n c) l) (hm : m ≤ l.length) : IntS w B (.slice A m c) (l.take m) := by
  obtain ⟨A', c', e, h1, h2, h3⟩ := h
  injection e with e1 e2 e3
  subst e1 e3
  have hl : (l.take m).length = m := by simp; omega
  refine ⟨A, c, by rw [hl], by omega, by omega, by simp, fun hn => ?_⟩
  obtain ⟨b, off, e, hb, hc⟩ := h3.2 (by omega)
  refine ⟨b, off, e, hb, fun j u hu => hc j u ?_⟩
  have hj : j < m := by have := (List.getElem?_eq_some_iff.1 hu).1; simp at this; omega
  rw [List.getElem?_map, List.getElem?_take_of_lt hj] at hu
  rw [List.getElem?_map]; exact hu
end Go.Proofs.Ytidlifijgooceaa
