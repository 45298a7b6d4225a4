import Derived.Test.YtidlifijgooceaaW27
import Derived.Test.YtidlifijgooceaaW18
import Derived.Test.YtidlifijgooceaaW21
import Derived.Lib.AppendZeros
import Derived.Test.YtidlifijgooceaaW28
set_option linter.unusedVariables false

/- slices.Grow of nil, slices.Concat of two slices of ints; impl.graph.from, PathsTo, PathsFrom. -/
namespace Go.Proofs.Ytidlifijgooceaa
open Go.RowKit

theorem IntS.toX {w : World} {B : Nat} {v : Value} {l : List Int} {P : Nat → Prop} (h : IntS w B v l) (hB : B ≤ w.heap.size) (hP : ∀ b, b < B → P b) : IntX w P v l := by
  obtain ⟨A, c, e, h1, h2, h3⟩ := h
  refine ⟨A, c, e, h1, h2, fun hn => ?_⟩
  obtain ⟨b, off, e, hb, hc⟩ := h3.int_at hn
  exact ⟨b, off, e, hP b hb, by omega, hc⟩
theorem wpList_app_ints {ops : Array Oper} {rest : List Oper} {o : Oper} {a : Act} {Q : Exit → Act → World → Prop} {w : World} (hgd : o.guard = none) (s x : Operand)
    (ho : o.op = .call { callee := .builtin .append, args := #[s, x], argTypes := #[23, 23] })
    (base : Nat) (v : Value) (l : List Int) (hs : a.eval s = v) (hP : OInts w base v l) (B : Nat) (vs : Value) (ts : List Int) (hx : a.eval x = vs) (hr : IntS w B vs ts) (hb : base ≤ w.heap.size) (hn : l.length + ts.length ≤ 8388608)
    (h : ∀ v' w', OInts w' base v' (l ++ ts) → Below base w w' → wpList Try.prog ops Q rest (a.put o.dst v') w') : wpList Try.prog ops Q (o :: rest) a w :=
  wpList_plain hgd fun _ hK => wp_app_ints s x ho base v l hs hP B vs ts hx hr hb hn fun v' w' h1 h2 _ => hK _ _ (h v' w' h1 ((Evo.grown (T := 3) hP h2).below hb))

end Go.Proofs.Ytidlifijgooceaa

/- impl.Point.isLoan, isChoice; impl.graph.run; slices.Clone; impl.RunPath. -/
namespace Go.Proofs.Ytidlifijgooceaa
open Go.RowKit

theorem IntS.take {w : World} {B n c m : Nat} {A : Option Addr} {l : List Int} (h : IntS w B (.slice A n c) l) (hm : m ≤ l.length) : IntS w B (.slice A m c) (l.take m) := by
  obtain ⟨A', c', e, h1, h2, h3⟩ := h
  injection e with e1 e2 e3
  subst e1 e3
  have hl : (l.take m).length = m := by simp; omega
  refine ⟨A, c, by rw [hl], by omega, by omega, by simp, fun hn => ?_⟩
  obtain ⟨b, off, e, hb, hc⟩ := h3.2 (by omega)
  refine ⟨b, off, e, hb, fun j u hu => hc j u ?_⟩
  have hj : j < m := by have := (List.getElem?_eq_some_iff.1 hu).1; simp at this; omega
  rw [List.getElem?_map, List.getElem?_take_of_lt hj] at hu
  rw [List.getElem?_map]; exact hu
set_option maxHeartbeats 1000000 in
set_option maxRecDepth 100000 in
theorem clone_any (v : Value) (l : List Int) (B : Nat) (w : World) (h : IntS w B v l) (hB : B ≤ w.heap.size) (hl : l.length ≤ 4000000) :
    Calls Try.prog 104 #[v] w fun e w' => ∃ v', e = .returned v' ∧ OInts w' w.heap.size v' l ∧ Below w.heap.size w w' := by
  have H := Lib.hid h
  obtain ⟨A, c, rfl, hc, hm, hr⟩ := h
  have hq : ∀ W, (binOp .eql 23 (.slice A l.length c) (.slice none 0 0)).run Try.prog W = .ok (.bool A.isNone) W := fun W => by
    first
      | exact Lib.run_eql_slice_nil W _ _ _ _ _ _ _ Try.underlying23
      | exact Lib.run_eql_slice_nil W _ _ _ _ _ Try.underlying23
  have HE := Lib.hid (OInts.empty w w.heap.size (Nat.le_refl _))
  have HBA := Lib.hid (bel_a w (.cells #[] 3))
  cases A with
  | none =>
    have hl0 : l = [] := by
      rcases Nat.eq_zero_or_pos l.length with h0 | h0
      · exact List.eq_nil_of_length_eq_zero h0
      · obtain ⟨b, off, e, _⟩ := hr.2 h0; cases e
    subst hl0
    have hnil : ∀ W, (binOp .eql 23 (.slice none 0 c) (.slice none 0 0)).run Try.prog W = .ok (.bool true) W := hq
    clear hq hr
    simp only [List.length_nil]
    go_enter Try.func104, Try.ntmps104
    go_wp2_with (at_builtin; fail)
    go_ret
    exact ⟨_, rfl, OInts.nil _ _, Below.refl _ _⟩
  | some ad =>
    have hnil : ∀ W, (binOp .eql 23 (.slice (some ad) l.length c) (.slice none 0 0)).run Try.prog W = .ok (.bool false) W := hq
    clear hq hr
    go_enter Try.func104, Try.ntmps104
    go_wp2_with (at_builtin; go_must (refine wpList_app_ints rfl (.tmp 5) (.tmp 6) rfl w.heap.size _ [] rfl HE.out B _ l rfl (H.out.low HBA.out hB) (by simp) (by simp; omega) ?_); intro v' w' hP' hE')
    go_ret
    exact ⟨_, rfl, by simpa using hP', HBA.out.trans hE'⟩

end Go.Proofs.Ytidlifijgooceaa
