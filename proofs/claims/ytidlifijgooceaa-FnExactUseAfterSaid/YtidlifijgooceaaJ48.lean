import Derived.Test.YtidlifijgooceaaJ17
set_option linter.unusedVariables false

/- A region that draws its order, walked in the order of the text, where some operations yield a value of which only a property is known. No program in sight. -/
namespace Go.Proofs.Ytidlifijgooceaa
open Go Go.RowKit

section
variable {P : Program} {ops : Array Oper} {Q : Exit → Act → World → Prop} {md : Region.Mode} {S : World → Prop} {V : Nat → Option (Value → Prop)}

def PureS (P : Program) (S : World → Prop) (o : Oper) (c : Value) (a : Act) : Prop := ∀ w, S w → (execOp a.eval o).run P w = .ok (.value c) w
def RelS (P : Program) (S : World → Prop) (o : Oper) (p : Value → Prop) (a : Act) : Prop :=
  (∀ w, S w → ∃ v w', (execOp a.eval o).run P w = .ok (.value v) w' ∧ p v ∧ S w') ∨
  (∃ f args, ∀ w, S w → (execOp a.eval o).run P w = .ok (.enter f args) w ∧ Calls P f args w fun e w' => ∃ v, e = .returned v ∧ p v ∧ S w')
/-- what operation o (number i) may do, and what is to hold of each outcome -/
def StepV (P : Program) (ops : Array Oper) (S : World → Prop) (V : Nat → Option (Value → Prop)) (i : Nat) (o : Oper) (a : Act) (K : Act → Prop) : Prop :=
  (Region.wanted o (yielded ops a.tmps) = false ∧ K (a.put o.dst undef)) ∨
  (Region.wanted o (yielded ops a.tmps) = true ∧ ((V i = none ∧ ∃ c, PureS P S o c a ∧ K (a.put o.dst c)) ∨ ∃ p, V i = some p ∧ RelS P S o p a ∧ ∀ v, p v → K (a.put o.dst v)))

theorem StepV.mono {i : Nat} {o : Oper} {a : Act} {K K' : Act → Prop} (h : StepV P ops S V i o a K) (hk : ∀ a, K a → K' a) : StepV P ops S V i o a K' := by
  rcases h with ⟨hw, h⟩ | ⟨hw, ⟨hv, c, hc, h⟩ | ⟨p, hv, hr, h⟩⟩
  · exact .inl ⟨hw, hk _ h⟩
  · exact .inr ⟨hw, .inl ⟨hv, c, hc, hk _ h⟩⟩
  · exact .inr ⟨hw, .inr ⟨p, hv, hr, fun v hp => hk _ (h v hp)⟩⟩
theorem StepV.mono' {i : Nat} {o : Oper} {a : Act} {K K' : Act → Prop} (h : StepV P ops S V i o a K) (hk : ∀ v, K (a.put o.dst v) → K' (a.put o.dst v)) : StepV P ops S V i o a K' := by
  rcases h with ⟨hw, h⟩ | ⟨hw, ⟨hv, c, hc, h⟩ | ⟨p, hv, hr, h⟩⟩
  · exact .inl ⟨hw, hk _ h⟩
  · exact .inr ⟨hw, .inl ⟨hv, c, hc, hk _ h⟩⟩
  · exact .inr ⟨hw, .inr ⟨p, hv, hr, fun v hp => hk _ (h v hp)⟩⟩
/-- some outcome there is -/
theorem StepV.some_ {i : Nat} {o : Oper} {a : Act} {K : Act → Prop} (h : StepV P ops S V i o a K) (hne : ∃ w, S w) : ∃ v, K (a.put o.dst v) := by
  obtain ⟨w, hS⟩ := hne
  rcases h with ⟨_, h⟩ | ⟨_, ⟨_, c, _, h⟩ | ⟨p, _, hr, h⟩⟩
  · exact ⟨_, h⟩
  · exact ⟨_, h⟩
  · rcases hr with hr | ⟨f, args, hr⟩
    · obtain ⟨v, _, _, hp, _⟩ := hr w hS; exact ⟨v, h v hp⟩
    · obtain ⟨_, hc⟩ := hr w hS
      obtain ⟨e, w', fr, ⟨v, _, hp, _⟩, _⟩ := hc []
      exact ⟨v, h v hp⟩
/-- the step of i at a, where K is to hold behind it, is the step at a state that differs only in what it does not look at -/
theorem StepV.shift {i : Nat} {o : Oper} {a a' : Act} {K K' : Act → Prop} (h : StepV P ops S V i o a K) (he : execOp a'.eval o = execOp a.eval o) (hw : Region.wanted o (yielded ops a'.tmps) = Region.wanted o (yielded ops a.tmps))
    (hk : ∀ v, K (a.put o.dst v) → K' (a'.put o.dst v)) : StepV P ops S V i o a' K' := by
  unfold StepV PureS RelS at *
  rw [he, hw]
  rcases h with ⟨hw, h⟩ | ⟨hw, ⟨hv, c, hc, h⟩ | ⟨p, hv, hr, h⟩⟩
  · exact .inl ⟨hw, hk _ h⟩
  · exact .inr ⟨hw, .inl ⟨hv, c, hc, hk _ h⟩⟩
  · exact .inr ⟨hw, .inr ⟨p, hv, hr, fun v hp => hk _ (h v hp)⟩⟩
/-- one step for many states behind another's -/
theorem StepV.all {i : Nat} {o : Oper} {a : Act} {X : Value → Prop} {K : Value → Act → Prop} (hne : ∃ w, S w) (h : ∀ v, X v → StepV P ops S V i o a (K v)) (hx : ∃ v, X v) : StepV P ops S V i o a fun a' => ∀ v, X v → K v a' := by
  obtain ⟨v0, hv0⟩ := hx
  obtain ⟨w, hS⟩ := hne
  rcases h v0 hv0 with ⟨hw, _⟩ | ⟨hw, ⟨hv, c, hc, _⟩ | ⟨p, hv, hr, _⟩⟩
  · refine .inl ⟨hw, fun v hx => ?_⟩
    rcases h v hx with ⟨_, h'⟩ | ⟨hw', _⟩
    · exact h'
    · rw [hw] at hw'; cases hw'
  · refine .inr ⟨hw, .inl ⟨hv, c, hc, fun v hx => ?_⟩⟩
    rcases h v hx with ⟨hw', _⟩ | ⟨_, ⟨_, c', hc', h'⟩ | ⟨p, hv', _⟩⟩
    · rw [hw] at hw'; cases hw'
    · have e := (hc w hS).symm.trans (hc' w hS)
      injection e with e
      injection e with e
      rw [e]; exact h'
    · rw [hv] at hv'; cases hv'
  · refine .inr ⟨hw, .inr ⟨p, hv, hr, fun u hp v hx => ?_⟩⟩
    rcases h v hx with ⟨hw', _⟩ | ⟨_, ⟨hv', _⟩ | ⟨p', hv', _, h'⟩⟩
    · rw [hw] at hw'; cases hw'
    · rw [hv] at hv'; cases hv'
    · rw [hv] at hv'; injection hv' with hv'; subst hv'; exact h' u hp

/-- in whatever order -/
def DetV (P : Program) (md : Region.Mode) (ops : Array Oper) (Q : Exit → Act → World → Prop) (S : World → Prop) (V : Nat → Option (Value → Prop)) : Nat → Array Bool → Act → Prop
  | 0, listed, a => Region.ready md ops listed = [] ∧ ∀ w, S w → Q .normal a w
  | fuel + 1, listed, a => (Region.ready md ops listed = [] → ∀ w, S w → Q .normal a w) ∧
    ∀ i ∈ Region.ready md ops listed, ∃ o, ops[i]? = some o ∧ StepV P ops S V i o a (DetV P md ops Q S V fuel (listed.setIfInBounds i true))
theorem DetV.first {i : Nat} {oi : Oper} (hne : ∃ w, S w) (hi : ops[i]? = some oi) (hsel : ∀ (j : Nat) (o : Oper) cs b, ops[j]? = some o → o.op ≠ .select cs b) :
    ∀ (fuel : Nat) (listed : Array Bool) (a : Act),
      (∀ j oj, ops[j]? = some oj → j ≠ i → listed.getD j true = false → (∀ e ∈ oj.after, Region.binds md e = true → e.on ≠ i) → oi.apart ops oj = true) →
      i ∈ Region.ready md ops listed → StepV P ops S V i oi a (DetV P md ops Q S V fuel (listed.setIfInBounds i true)) → DetV P md ops Q S V (fuel + 1) listed a := by
  intro fuel
  induction fuel with
  | zero =>
    intro listed a _ hr hy
    refine ⟨fun h => (by rw [h] at hr; cases hr), fun j hj => ?_⟩
    by_cases hji : j = i
    · subst hji; exact ⟨oi, hi, hy⟩
    · have := ready_mono hj hji
      obtain ⟨v, hv⟩ := hy.some_ hne
      rw [hv.1] at this
      cases this
  | succ fuel ih =>
    intro listed a hfree hr hy
    refine ⟨fun h => (by rw [h] at hr; cases hr), fun j hj => ?_⟩
    by_cases hji : j = i
    · subst hji; exact ⟨oi, hi, hy⟩
    · obtain ⟨hjun, oj, hoj, hall⟩ := mem_ready.1 hj
      have hnot : ∀ e ∈ oj.after, Region.binds md e = true → e.on ≠ i := fun e he hb heq => by
        have h1 := hall e he hb
        have h0 := (mem_ready.1 hr).1
        rw [heq] at h1
        rcases Nat.lt_or_ge i listed.size with h' | h'
        · simp [h'] at h0 h1; rw [h0] at h1; cases h1
        · simp [Array.getElem?_eq_none h'] at h1
      obtain ⟨h1, h2, h3⟩ := Oper.apart_spec (hfree j oj hoj hji hjun hnot)
      have hfree' : ∀ k ok, ops[k]? = some ok → k ≠ i → (listed.setIfInBounds j true).getD k true = false →
          (∀ e ∈ ok.after, Region.binds md e = true → e.on ≠ i) → oi.apart ops ok = true := fun k ok hk hki hun hno => by
        refine hfree k ok hk hki ?_ hno
        by_cases hjk : j = k
        · subst hjk; exact hjun
        · rw [getD_set_ne true hjk] at hun; exact hun
      -- the step of j, behind each outcome of i
      let X : Value → Prop := fun v => DetV P md ops Q S V (fuel + 1) (listed.setIfInBounds i true) (a.put oi.dst v)
      have hj' : ∀ v, X v → StepV P ops S V j oj a fun a' => DetV P md ops Q S V fuel ((listed.setIfInBounds i true).setIfInBounds j true) (a'.put oi.dst v) := fun v hv => by
        obtain ⟨oj', hoj', hst⟩ := hv.2 j (ready_mono hj hji)
        rw [hoj] at hoj'
        injection hoj' with e
        subst e
        refine hst.shift (execOp_put oj (fun cs b => hsel j oj cs b hoj) a oi.dst v h1).symm (wanted_put oj a oi.dst v h1).symm fun u hu => ?_
        rw [← Act.put_comm a v u h2]; exact hu
      refine ⟨oj, hoj, (StepV.all hne hj' (hy.some_ hne)).mono' fun u hu => ?_⟩
      refine ih (listed.setIfInBounds j true) (a.put oj.dst u) hfree' (ready_mono hr (Ne.symm hji)) ?_
      refine hy.shift (execOp_put oi (fun cs b => hsel i oi cs b hi) a oj.dst u h3) (wanted_put oi a oj.dst u h3) fun v hv => ?_
      have := hu v hv
      rw [Array.setIfInBounds_comm _ _ hji]
      exact this

/-- in the order of the text, from operation i on -/
def SeqV (P : Program) (ops : Array Oper) (Q : Exit → Act → World → Prop) (S : World → Prop) (V : Nat → Option (Value → Prop)) : Nat → List Oper → Act → Prop
  | _, [], a => ∀ w, S w → Q .normal a w
  | i, o :: rest, a => StepV P ops S V i o a (SeqV P ops Q S V (i + 1) rest)
theorem SeqV.skip {i : Nat} {o : Oper} {rest : List Oper} {a : Act} (hw : Region.wanted o (yielded ops a.tmps) = false) (h : SeqV P ops Q S V (i + 1) rest (a.put o.dst undef)) : SeqV P ops Q S V i (o :: rest) a := .inl ⟨hw, h⟩
theorem SeqV.call {i : Nat} {o : Oper} {rest : List Oper} {a : Act} {f : FuncId} {args : Array Value} (p : Value → Prop) (hw : Region.wanted o (yielded ops a.tmps) = true) (hV : V i = some p) (he : ∀ w, (execOp a.eval o).run P w = .ok (.enter f args) w) (hc : ∀ w, S w → Calls P f args w fun e w' => ∃ v, e = .returned v ∧ p v ∧ S w') (h : ∀ v, p v → SeqV P ops Q S V (i + 1) rest (a.put o.dst v)) : SeqV P ops Q S V i (o :: rest) a :=
  .inr ⟨hw, .inr ⟨p, hV, .inr ⟨f, args, fun w hS => ⟨he w, hc w hS⟩⟩, h⟩⟩

end
end Go.Proofs.Ytidlifijgooceaa
