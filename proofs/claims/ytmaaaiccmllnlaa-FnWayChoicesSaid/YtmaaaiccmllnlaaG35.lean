import Derived.Test.YtmaaaiccmllnlaaG20
import Derived.Test.YtmaaaiccmllnlaaG28
set_option linter.unusedVariables false

/- A region that draws its order, walked in the order of the text, where some operations yield a value of which only a property is known. No program in sight. -/
namespace Go.Proofs.Ytmaaaiccmllnlaa
open Go Go.RowKit

section
variable {P : Program} {ops : Array Oper} {Q : Exit → Act → World → Prop} {md : Region.Mode} {S : World → Prop} {V : Nat → Option (Value → Prop)}

def PureS (P : Program) (S : World → Prop) (o : Oper) (c : Value) (a : Act) : Prop := ∀ w, S w → (execOp a.eval o).run P w = .ok (.value c) w
def RelS (P : Program) (S : World → Prop) (o : Oper) (p : Value → Prop) (a : Act) : Prop :=
  (∀ w, S w → ∃ v w', (execOp a.eval o).run P w = .ok (.value v) w' ∧ p v ∧ S w') ∨
  (∃ f args, ∀ w, S w → (execOp a.eval o).run P w = .ok (.enter f args) w ∧ Calls P f args w fun e w' => ∃ v, e = .returned v ∧ p v ∧ S w')
/-- what operation o (number i) may do, and what is to hold of each outcome -/
def StepV (P : Program) (ops : Array Oper) (S : World → Prop) (V : Nat → Option (Value → Prop)) (i : Nat) (o : Oper) (a : Act) (K : Act → Prop) : Prop :=
  (Region.wanted o (yielded ops a.tmps) = false ∧ K (a.put o.dst undef)) ∨
  (Region.wanted o (yielded ops a.tmps) = true ∧ ((V i = none ∧ ∃ c, PureS P S o c a ∧ K (a.put o.dst c)) ∨ ∃ p, V i = some p ∧ RelS P S o p a ∧ ∀ v, p v → K (a.put o.dst v)))

theorem StepV.mono {i : Nat} {o : Oper} {a : Act} {K K' : Act → Prop} (h : StepV P ops S V i o a K) (hk : ∀ a, K a → K' a) : StepV P ops S V i o a K' := by
  rcases h with ⟨hw, h⟩ | ⟨hw, ⟨hv, c, hc, h⟩ | ⟨p, hv, hr, h⟩⟩
  · exact .inl ⟨hw, hk _ h⟩
  · exact .inr ⟨hw, .inl ⟨hv, c, hc, hk _ h⟩⟩
  · exact .inr ⟨hw, .inr ⟨p, hv, hr, fun v hp => hk _ (h v hp)⟩⟩
theorem StepV.mono' {i : Nat} {o : Oper} {a : Act} {K K' : Act → Prop} (h : StepV P ops S V i o a K) (hk : ∀ v, K (a.put o.dst v) → K' (a.put o.dst v)) : StepV P ops S V i o a K' := by
  rcases h with ⟨hw, h⟩ | ⟨hw, ⟨hv, c, hc, h⟩ | ⟨p, hv, hr, h⟩⟩
  · exact .inl ⟨hw, hk _ h⟩
  · exact .inr ⟨hw, .inl ⟨hv, c, hc, hk _ h⟩⟩
  · exact .inr ⟨hw, .inr ⟨p, hv, hr, fun v hp => hk _ (h v hp)⟩⟩
theorem StepV.wpOp {i : Nat} {o : Oper} {a : Act} {K : Act → Prop} (hi : ops[i]? = some o) (h : StepV P ops S V i o a K) {K' : Act → World → Prop} {w : World} (hS : S w) (hk : ∀ a w, K a → S w → K' a w) : wpOp P ops Q i K' a w := by
  unfold Go.wpOp
  simp only [hi]
  rcases h with ⟨hw, h⟩ | ⟨hw, ⟨hv, c, hc, h⟩ | ⟨p, hv, hr, h⟩⟩
  · simp only [hw, Bool.false_eq_true, if_false]; exact hk _ _ h hS
  · simp only [hw, if_true, Oper.wp, hc w hS, Oper.upon]; exact .inl (hk _ _ h hS)
  · simp only [hw, if_true]
    refine .inl ?_
    unfold Oper.wp
    rcases hr with hr | ⟨f, args, hr⟩
    · obtain ⟨v, w', hrun, hp, hS'⟩ := hr w hS
      rw [hrun]; exact hk _ _ (h v hp) hS'
    · obtain ⟨hrun, hc⟩ := hr w hS
      rw [hrun]
      refine Calls.mono hc fun e w' he => ?_
      obtain ⟨v, rfl, hp, hS'⟩ := he
      exact hk _ _ (h v hp) hS'
/-- some outcome there is -/
theorem StepV.some_ {i : Nat} {o : Oper} {a : Act} {K : Act → Prop} (h : StepV P ops S V i o a K) (hne : ∃ w, S w) : ∃ v, K (a.put o.dst v) := by
  obtain ⟨w, hS⟩ := hne
  rcases h with ⟨_, h⟩ | ⟨_, ⟨_, c, _, h⟩ | ⟨p, _, hr, h⟩⟩
  · exact ⟨_, h⟩
  · exact ⟨_, h⟩
  · rcases hr with hr | ⟨f, args, hr⟩
    · obtain ⟨v, _, _, hp, _⟩ := hr w hS; exact ⟨v, h v hp⟩
    · obtain ⟨_, hc⟩ := hr w hS
      obtain ⟨e, w', fr, ⟨v, _, hp, _⟩, _⟩ := hc []
      exact ⟨v, h v hp⟩
/-- the step of i at a, where K is to hold behind it, is the step at a state that differs only in what it does not look at -/
theorem StepV.shift {i : Nat} {o : Oper} {a a' : Act} {K K' : Act → Prop} (h : StepV P ops S V i o a K) (he : execOp a'.eval o = execOp a.eval o) (hw : Region.wanted o (yielded ops a'.tmps) = Region.wanted o (yielded ops a.tmps))
    (hk : ∀ v, K (a.put o.dst v) → K' (a'.put o.dst v)) : StepV P ops S V i o a' K' := by
  unfold StepV PureS RelS at *
  rw [he, hw]
  rcases h with ⟨hw, h⟩ | ⟨hw, ⟨hv, c, hc, h⟩ | ⟨p, hv, hr, h⟩⟩
  · exact .inl ⟨hw, hk _ h⟩
  · exact .inr ⟨hw, .inl ⟨hv, c, hc, hk _ h⟩⟩
  · exact .inr ⟨hw, .inr ⟨p, hv, hr, fun v hp => hk _ (h v hp)⟩⟩
/-- one step for many states behind another's -/
theorem StepV.all {i : Nat} {o : Oper} {a : Act} {X : Value → Prop} {K : Value → Act → Prop} (hne : ∃ w, S w) (h : ∀ v, X v → StepV P ops S V i o a (K v)) (hx : ∃ v, X v) : StepV P ops S V i o a fun a' => ∀ v, X v → K v a' := by
  obtain ⟨v0, hv0⟩ := hx
  obtain ⟨w, hS⟩ := hne
  rcases h v0 hv0 with ⟨hw, _⟩ | ⟨hw, ⟨hv, c, hc, _⟩ | ⟨p, hv, hr, _⟩⟩
  · refine .inl ⟨hw, fun v hx => ?_⟩
    rcases h v hx with ⟨_, h'⟩ | ⟨hw', _⟩
    · exact h'
    · rw [hw] at hw'; cases hw'
  · refine .inr ⟨hw, .inl ⟨hv, c, hc, fun v hx => ?_⟩⟩
    rcases h v hx with ⟨hw', _⟩ | ⟨_, ⟨_, c', hc', h'⟩ | ⟨p, hv', _⟩⟩
    · rw [hw] at hw'; cases hw'
    · have e := (hc w hS).symm.trans (hc' w hS)
      injection e with e
      injection e with e
      rw [e]; exact h'
    · rw [hv] at hv'; cases hv'
  · refine .inr ⟨hw, .inr ⟨p, hv, hr, fun u hp v hx => ?_⟩⟩
    rcases h v hx with ⟨hw', _⟩ | ⟨_, ⟨hv', _⟩ | ⟨p', hv', _, h'⟩⟩
    · rw [hw] at hw'; cases hw'
    · rw [hv] at hv'; cases hv'
    · rw [hv] at hv'; injection hv' with hv'; subst hv'; exact h' u hp

/-- in whatever order -/
def DetV (P : Program) (md : Region.Mode) (ops : Array Oper) (Q : Exit → Act → World → Prop) (S : World → Prop) (V : Nat → Option (Value → Prop)) : Nat → Array Bool → Act → Prop
  | 0, listed, a => Region.ready md ops listed = [] ∧ ∀ w, S w → Q .normal a w
  | fuel + 1, listed, a => (Region.ready md ops listed = [] → ∀ w, S w → Q .normal a w) ∧
    ∀ i ∈ Region.ready md ops listed, ∃ o, ops[i]? = some o ∧ StepV P ops S V i o a (DetV P md ops Q S V fuel (listed.setIfInBounds i true))
theorem wpAny_of_detV : ∀ (fuel : Nat) (listed : Array Bool) (a : Act), DetV P md ops Q S V fuel listed a → ∀ w, S w → wpAny P md ops Q fuel listed a w
  | 0, _, _, h, w, hS => ⟨h.1, h.2 w hS⟩
  | fuel + 1, listed, a, h, w, hS => ⟨fun h0 => h.1 h0 w hS, fun i hi => by
      obtain ⟨o, ho, hst⟩ := h.2 i hi
      exact hst.wpOp ho hS fun a' w' hd hS' => wpAny_of_detV fuel _ _ hd w' hS'⟩

theorem DetV.first {i : Nat} {oi : Oper} (hne : ∃ w, S w) (hi : ops[i]? = some oi) (hsel : ∀ (j : Nat) (o : Oper) cs b, ops[j]? = some o → o.op ≠ .select cs b) :
    ∀ (fuel : Nat) (listed : Array Bool) (a : Act),
      (∀ j oj, ops[j]? = some oj → j ≠ i → listed.getD j true = false → (∀ e ∈ oj.after, Region.binds md e = true → e.on ≠ i) → oi.apart ops oj = true) →
      i ∈ Region.ready md ops listed → StepV P ops S V i oi a (DetV P md ops Q S V fuel (listed.setIfInBounds i true)) → DetV P md ops Q S V (fuel + 1) listed a := by
  intro fuel
  induction fuel with
  | zero =>
    intro listed a _ hr hy
    refine ⟨fun h => (by rw [h] at hr; cases hr), fun j hj => ?_⟩
    by_cases hji : j = i
    · subst hji; exact ⟨oi, hi, hy⟩
    · have := ready_mono hj hji
      obtain ⟨v, hv⟩ := hy.some_ hne
      rw [hv.1] at this
      cases this
  | succ fuel ih =>
    intro listed a hfree hr hy
    refine ⟨fun h => (by rw [h] at hr; cases hr), fun j hj => ?_⟩
    by_cases hji : j = i
    · subst hji; exact ⟨oi, hi, hy⟩
    · obtain ⟨hjun, oj, hoj, hall⟩ := mem_ready.1 hj
      have hnot : ∀ e ∈ oj.after, Region.binds md e = true → e.on ≠ i := fun e he hb heq => by
        have h1 := hall e he hb
        have h0 := (mem_ready.1 hr).1
        rw [heq] at h1
        rcases Nat.lt_or_ge i listed.size with h' | h'
        · simp [h'] at h0 h1; rw [h0] at h1; cases h1
        · simp [Array.getElem?_eq_none h'] at h1
      obtain ⟨h1, h2, h3⟩ := Oper.apart_spec (hfree j oj hoj hji hjun hnot)
      have hfree' : ∀ k ok, ops[k]? = some ok → k ≠ i → (listed.setIfInBounds j true).getD k true = false →
          (∀ e ∈ ok.after, Region.binds md e = true → e.on ≠ i) → oi.apart ops ok = true := fun k ok hk hki hun hno => by
        refine hfree k ok hk hki ?_ hno
        by_cases hjk : j = k
        · subst hjk; exact hjun
        · rw [getD_set_ne true hjk] at hun; exact hun
      -- the step of j, behind each outcome of i
      let X : Value → Prop := fun v => DetV P md ops Q S V (fuel + 1) (listed.setIfInBounds i true) (a.put oi.dst v)
      have hj' : ∀ v, X v → StepV P ops S V j oj a fun a' => DetV P md ops Q S V fuel ((listed.setIfInBounds i true).setIfInBounds j true) (a'.put oi.dst v) := fun v hv => by
        obtain ⟨oj', hoj', hst⟩ := hv.2 j (ready_mono hj hji)
        rw [hoj] at hoj'
        injection hoj' with e
        subst e
        refine hst.shift (execOp_put oj (fun cs b => hsel j oj cs b hoj) a oi.dst v h1).symm (wanted_put oj a oi.dst v h1).symm fun u hu => ?_
        rw [← Act.put_comm a v u h2]; exact hu
      refine ⟨oj, hoj, (StepV.all hne hj' (hy.some_ hne)).mono' fun u hu => ?_⟩
      refine ih (listed.setIfInBounds j true) (a.put oj.dst u) hfree' (ready_mono hr (Ne.symm hji)) ?_
      refine hy.shift (execOp_put oi (fun cs b => hsel i oi cs b hi) a oj.dst u h3) (wanted_put oi a oj.dst u h3) fun v hv => ?_
      have := hu v hv
      rw [Array.setIfInBounds_comm _ _ hji]
      exact this

/-- in the order of the text, from operation i on -/
def SeqV (P : Program) (ops : Array Oper) (Q : Exit → Act → World → Prop) (S : World → Prop) (V : Nat → Option (Value → Prop)) : Nat → List Oper → Act → Prop
  | _, [], a => ∀ w, S w → Q .normal a w
  | i, o :: rest, a => StepV P ops S V i o a (SeqV P ops Q S V (i + 1) rest)
theorem DetV.of_seq (hne : ∃ w, S w) (hok : seqOk md ops = true) : ∀ (fuel i : Nat) (a : Act), fuel + i = ops.size → SeqV P ops Q S V i (ops.toList.drop i) a → DetV P md ops Q S V fuel (doneTo ops.size i) a := by
  have hok' := hok
  simp only [seqOk, Bool.and_eq_true, List.all_eq_true, List.mem_range] at hok'
  obtain ⟨hs, hat⟩ := hok'
  intro fuel
  induction fuel with
  | zero =>
    intro i a hi h
    have : i = ops.size := by omega
    subst this
    rw [List.drop_of_length_le (by simp)] at h
    exact ⟨ready_done rfl, h⟩
  | succ fuel ih =>
    intro i a hi h
    have hlt : i < ops.size := by omega
    have hd : ops.toList.drop i = ops[i] :: ops.toList.drop (i + 1) := by
      rw [List.drop_eq_getElem_cons (by simpa using hlt)]; simp
    rw [hd] at h
    have hget : ops[i]? = some ops[i] := Array.getElem?_eq_getElem hlt
    have hA := hat i hlt
    simp only [seqAt, hget, Bool.and_eq_true, List.all_eq_true, List.mem_range, Array.all_eq_true_iff_forall_mem] at hA
    refine DetV.first hne hget (Region.noSelect_spec hs) fuel (doneTo ops.size i) a ?_ ?_ (StepV.mono h fun a' h' => ?_)
    · intro j oj hj hne hun hno
      have hjl : j < ops.size := (Array.getElem?_eq_some_iff.1 hj).1
      rw [doneTo_get, if_pos hjl] at hun
      have hji : i < j := by simp at hun; omega
      have h2 := hA.2 j hjl
      simp only [hj, Bool.or_eq_true, decide_eq_true_eq] at h2
      rcases h2 with h2 | h2 | h2
      · omega
      · obtain ⟨e, he, hb⟩ := Array.any_eq_true'.1 h2
        simp only [Bool.and_eq_true, beq_iff_eq] at hb
        exact absurd hb.2 (hno e he hb.1)
      · exact h2
    · rw [mem_ready]
      refine ⟨by rw [doneTo_get, if_pos hlt]; simp, ops[i], hget, fun e he hb => ?_⟩
      have h1 := hA.1 e he
      simp only [hb, Bool.not_true, Bool.false_or, decide_eq_true_eq] at h1
      rw [doneTo_get, if_pos (by omega)]; simpa using h1
    · rw [doneTo_succ]; exact ih (i + 1) a' (by omega) h'
/-- the law -/
theorem wp_region_seqV {id : Nat} {l : List Oper} {a : Act} {w : World} (S : World → Prop) (V : Nat → Option (Value → Prop)) (hm : P.follows .mixedOrders = true) (hok : seqOk .any l.toArray = true) (hS : S w.drew)
    (h : SeqV P l.toArray Q S V 0 l a) : (Code.region id l.toArray true).wp P Q a w := by
  refine wp_region_any hm ?_
  rw [doneTo_zero]
  exact wpAny_of_detV _ _ _ (DetV.of_seq ⟨_, hS⟩ hok l.toArray.size 0 a (by omega) (by simpa using h)) w.drew hS
theorem SeqV.skip {i : Nat} {o : Oper} {rest : List Oper} {a : Act} (hw : Region.wanted o (yielded ops a.tmps) = false) (h : SeqV P ops Q S V (i + 1) rest (a.put o.dst undef)) : SeqV P ops Q S V i (o :: rest) a := .inl ⟨hw, h⟩
theorem SeqV.pure {i : Nat} {o : Oper} {rest : List Oper} {a : Act} {v : Value} (hw : Region.wanted o (yielded ops a.tmps) = true) (hV : V i = none) (hv : ∀ w, S w → (execOp a.eval o).run P w = .ok (.value v) w) (h : SeqV P ops Q S V (i + 1) rest (a.put o.dst v)) : SeqV P ops Q S V i (o :: rest) a :=
  .inr ⟨hw, .inl ⟨hV, v, hv, h⟩⟩
theorem SeqV.call {i : Nat} {o : Oper} {rest : List Oper} {a : Act} {f : FuncId} {args : Array Value} (p : Value → Prop) (hw : Region.wanted o (yielded ops a.tmps) = true) (hV : V i = some p) (he : ∀ w, (execOp a.eval o).run P w = .ok (.enter f args) w) (hc : ∀ w, S w → Calls P f args w fun e w' => ∃ v, e = .returned v ∧ p v ∧ S w') (h : ∀ v, p v → SeqV P ops Q S V (i + 1) rest (a.put o.dst v)) : SeqV P ops Q S V i (o :: rest) a :=
  .inr ⟨hw, .inr ⟨p, hV, .inr ⟨f, args, fun w hS => ⟨he w, hc w hS⟩⟩, h⟩⟩

end
end Go.Proofs.Ytmaaaiccmllnlaa

/- spec.l14Case and the draws that hand it on. -/
namespace Go.Proofs.Ytmaaaiccmllnlaa
open Go.RowKit

/-- below 'base' only block g has turned -/
structure Gb (base g : Nat) (W w : World) : Prop where
  os : w.os = W.os
  tape : w.tape = W.tape
  output : w.output = W.output
  size : W.heap.size ≤ w.heap.size
  block : ∀ b, b < base → b ≠ g → w.heap[b]? = W.heap[b]?
theorem Gb.refl (base g : Nat) (W : World) : Gb base g W W := ⟨rfl, rfl, rfl, Nat.le_refl _, fun _ _ _ => rfl⟩
theorem Gb.bel {base g : Nat} {W a b : World} (h : Gb base g W a) (k : Below base a b) : Gb base g W b :=
  ⟨k.os.trans h.os, k.tape.trans h.tape, k.output.trans h.output, Nat.le_trans h.size k.size, fun i hi hne => (k.block i hi).trans (h.block i hi hne)⟩
theorem Gb.pick {base g : Nat} {W a b : World} (h : Gb base g W a) (hb : base ≤ W.heap.size) (k : a.grownBy b (some g)) : Gb base g W b :=
  ⟨k.os.trans h.os, k.tape.trans h.tape, k.output.trans h.output, Nat.le_trans h.size k.size, fun i hi hne => (k.block i (by have := h.size; omega) (fun e => hne (Option.some.inj e))).trans (h.block i hi hne)⟩
theorem Gb.toBel {base g : Nat} {W a w : World} (h : Gb base g W a) (hw : Below w.heap.size w W) (hg : w.heap.size ≤ g) (hb : w.heap.size ≤ base) : Below w.heap.size w a :=
  ⟨h.os.trans hw.os, h.tape.trans hw.tape, h.output.trans hw.output, Nat.le_trans hw.size h.size, fun k hk => (h.block k (by omega) (by omega)).trans (hw.block k hk)⟩
theorem OInts.pick {w w' : World} {base g : Nat} {v : Value} {l : List Int} (h : OInts w base v l) (hg : g < base) (k : w.grownBy w' (some g)) : OInts w' base v l :=
  World.ownsRow.kept h k (.inr (by
    cases e : v.ownBlock with
    | none => simp
    | some b => intro e'; injection e' with e'; have := (World.ownsRow.lt h b e).1; omega))

def CaRet (w : World) (e : Ending) (w' : World) : Prop :=
  ∃ (vt vb v : Value) (ts : List Int) (l : List St) (gv : List Int), e = .returned (.tuple #[.agg #[vt, vb], v]) ∧ IntX w' (fun b => w.heap.size ≤ b) vt ts ∧ StX w' (fun b => w.heap.size ≤ b) vb l ∧ ts.length ≤ 700 ∧ szL l ≤ 100000 ∧ IntX w' (fun b => w.heap.size ≤ b) v gv ∧ gv.length ≤ 1000 ∧ Below w.heap.size w w'

theorem ca_close {w W a W' : World} {g w1s : Nat} {vt vb v : Value} {ts gv : List Int} {l : List St} (hB : Below w.heap.size w W) (hG : Gb W.heap.size g W a) (hW : a.grownBy W' (some w.heap.size)) (hT : IntX W (fun b => w1s ≤ b) vt ts) (hL : StX W (fun b => w1s ≤ b) vb l) (hO : OInts a W.heap.size v gv)
    (h1 : w.heap.size < w1s) (h2 : w.heap.size ≤ g ∧ g < w1s) (h3 : w1s ≤ W.heap.size) (ht : ts.length ≤ 700) (hl : szL l ≤ 100000) (hgl : gv.length ≤ 1000) : CaRet w (.returned (.tuple #[.agg #[vt, vb], v])) W' := by
  have hbs := hB.size
  have hGs := hG.size
  have hk : ∀ b, w1s ≤ b → b < W.heap.size → w.heap.size ≤ b ∧ W'.heap[b]? = W.heap[b]? := fun b hb hl => ⟨by omega, (hW.block b (by omega) (fun e => by injection e with e; omega)).trans (hG.block b hl (by omega))⟩
  have hs : W.heap.size ≤ W'.heap.size := Nat.le_trans hGs hW.size
  have hX := (hO.toX (by omega)).frame (P' := fun b => w.heap.size ≤ b) (w' := W') hW.size fun b hb hl => ⟨by omega, hW.block b hl (fun e => by injection e with e; omega)⟩
  exact ⟨vt, vb, v, ts, l, gv, rfl, hT.frame hs hk, hL.frame hs hk, ht, hl, hX, hgl, grown_new (hG.toBel hB h2.1 hbs) (Nat.le_refl _) hW⟩

set_option maxHeartbeats 4000000
set_option maxRecDepth 100000

theorem ca_end {w a W' : World} {vt vb v : Value} {ts gv : List Int} {l : List St} (hB : Below w.heap.size w a) (hW : a.grownBy W' (some w.heap.size)) (hT : IntX a (fun b => w.heap.size + 1 ≤ b) vt ts) (hL : StX a (fun b => w.heap.size + 1 ≤ b) vb l) (hO : IntX a (fun b => w.heap.size + 1 ≤ b) v gv)
    (ht : ts.length ≤ 700) (hl : szL l ≤ 100000) (hgl : gv.length ≤ 1000) : CaRet w (.returned (.tuple #[.agg #[vt, vb], v])) W' := by
  have hk : ∀ b, w.heap.size + 1 ≤ b → b < a.heap.size → w.heap.size ≤ b ∧ W'.heap[b]? = a.heap[b]? := fun b hb hl => ⟨by omega, hW.block b hl (fun e => by injection e with e; omega)⟩
  exact ⟨vt, vb, v, ts, l, gv, rfl, hT.frame hW.size hk, hL.frame hW.size hk, ht, hl, hO.frame hW.size hk, hgl, grown_new hB (Nat.le_refl _) hW⟩



end Go.Proofs.Ytmaaaiccmllnlaa

/- the draws of a program and small numbers (spec.l10Case and what stands on it). -/
namespace Go.Proofs.Ytmaaaiccmllnlaa
open Go.RowKit

def D2Ret (w : World) (e : Ending) (w' : World) : Prop :=
  ∃ (vt vb : Value) (ts : List Int) (l : List St) (a v : Int), e = .returned (.tuple #[.agg #[vt, vb], .int .i64 a, .int .i64 v]) ∧ IntX w' (fun b => w.heap.size ≤ b) vt ts ∧ StX w' (fun b => w.heap.size ≤ b) vb l ∧ ts.length ≤ 700 ∧ szL l ≤ 100000 ∧ Below w.heap.size w w'
def D3Ret (w : World) (e : Ending) (w' : World) : Prop :=
  ∃ (vt vb : Value) (ts : List Int) (l : List St) (a v u : Int), e = .returned (.tuple #[.agg #[vt, vb], .int .i64 a, .int .i64 v, .int .i64 u]) ∧ IntX w' (fun b => w.heap.size ≤ b) vt ts ∧ StX w' (fun b => w.heap.size ≤ b) vb l ∧ ts.length ≤ 700 ∧ szL l ≤ 100000 ∧ Below w.heap.size w w'
/-- what the ends of these draws need -/
structure DsE (w W : World) (vt vb : Value) (ts : List Int) (l : List St) : Prop where
  ht : IntX W (fun b => w.heap.size ≤ b) vt ts
  hl : StX W (fun b => w.heap.size ≤ b) vb l
  bel : Below w.heap.size w W
theorem DsE.mk' {w w3 W : World} {vt vb : Value} {ts : List Int} {l : List St} {lo : Nat} (h3 : Below w.heap.size w w3) (hW : w3.grownBy W (some w.heap.size)) (hT : IntX w3 (fun b => lo ≤ b) vt ts) (hB : StX w3 (fun b => lo ≤ b) vb l) (hlo : w.heap.size < lo) : DsE w W vt vb ts l := by
  have hk : ∀ b, lo ≤ b → b < w3.heap.size → w.heap.size ≤ b ∧ W.heap[b]? = w3.heap[b]? := fun b hb hl => ⟨by omega, hW.block b hl (fun e => by injection e with e; omega)⟩
  exact ⟨hT.frame hW.size hk, hB.frame hW.size hk, grown_new h3 (Nat.le_refl _) hW⟩

theorem res_box2 {P : Program} {fn : Func} {p u u2 : Tmp} {ty : TypeId} (h : fn.results = #[.cell p ty, .tmp u, .tmp u2]) (tmps : Array Value) (w : World) (g : Nat) (t : TypeId) (cs : Array Value) (fr : Nat × Nat) (d : TypeDesc)
    (hp : tmps.getD p undef = .pointer (some ⟨g, 0, none⟩)) (hg : w.heap[g]? = some (.cells cs t fr))
    (hu : P.underlying ty = some d) (hd : (match d with | .struct _ | .array _ _ => true | _ => false) = true) (hi : (P.info? ty).map (·.size) = some cs.size) :
    (results fn tmps).run P w = .ok (.tuple #[.agg cs, tmps.getD u undef, tmps.getD u2 undef]) w := by
  simp only [results, h]
  simp [Sem.run_bind, Result.andThen, asAddr]
  rw [← Array.getD_eq_getD_getElem?, hp]
  simp [run_loadVar_row w g t ty cs fr d hg hu hd hi]
theorem res_box3 {P : Program} {fn : Func} {p u u2 u3 : Tmp} {ty : TypeId} (h : fn.results = #[.cell p ty, .tmp u, .tmp u2, .tmp u3]) (tmps : Array Value) (w : World) (g : Nat) (t : TypeId) (cs : Array Value) (fr : Nat × Nat) (d : TypeDesc)
    (hp : tmps.getD p undef = .pointer (some ⟨g, 0, none⟩)) (hg : w.heap[g]? = some (.cells cs t fr))
    (hu : P.underlying ty = some d) (hd : (match d with | .struct _ | .array _ _ => true | _ => false) = true) (hi : (P.info? ty).map (·.size) = some cs.size) :
    (results fn tmps).run P w = .ok (.tuple #[.agg cs, tmps.getD u undef, tmps.getD u2 undef, tmps.getD u3 undef]) w := by
  simp only [results, h]
  simp [Sem.run_bind, Result.andThen, asAddr]
  rw [← Array.getD_eq_getD_getElem?, hp]
  simp [run_loadVar_row w g t ty cs fr d hg hu hd hi]
theorem belC {B : Nat} {w w' : World} {b o : Nat} {x : Option Value} (h : Below B w w') (e : w.cell? ⟨b, o, none⟩ = x) (hb : b < B) : w'.cell? ⟨b, o, none⟩ = x := (h.cell (p := ⟨b, o, none⟩) hb).trans e







end Go.Proofs.Ytmaaaiccmllnlaa
