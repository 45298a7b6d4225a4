import Derived.Test.YtidlifijgooceaaE36
import Derived.Test.YtidlifijgooceaaE48
set_option linter.unusedVariables false

/- Plain: the loans that are in the way of a point. -/
namespace Go.Proofs.Ytidlifijgooceaa

/-- a loan stands in the way of an access -/
def cndB (pts : List Pt) (a : Acc) (e : Nat) : Bool := a.wr || (ptD pts e).op == 5
def acB (pts : List Pt) (ac : List Acc) (e : Nat) : Bool := ac.any fun a => ofB pts (2 ^ a.vr.toNat) e && cndB pts a e
noncomputable def cfL (ts : List Int) (pts : List Pt) (k : Nat) (ac : List Acc) : List Int := lst pts.length fun e => dec (KpL ts pts k e) && dec (Pld ts pts k e) && acB pts ac e
noncomputable def cfRes (ts : List Int) (l : List St) (a : Int) : List Int := if graphOk ts l [a] = true then cfL ts (ptsP l) a.toNat (accRes ts l a) else []
theorem acB_snoc (pts : List Pt) (ac : List Acc) (a : Acc) (e : Nat) : acB pts (ac ++ [a]) e = (acB pts ac e || (ofB pts (2 ^ a.vr.toNat) e && cndB pts a e)) := by simp [acB]
/-- what an inner round knows -/
def CfI (pts : List Pt) (a : Acc) (t0 : Nat) (L : List Int) (i t : Nat) : Prop := ∀ e : Nat, t.testBit e = (t0.testBit e || (decide (((e : Nat) : Int) ∈ L.take i) && cndB pts a e))
theorem CfI.start {pts : List Pt} {a : Acc} {t0 : Nat} {L : List Int} : CfI pts a t0 L 0 t0 := fun e => by simp
theorem mem_take_succ {L : List Int} {i : Nat} (hi : i < L.length) (x : Int) : x ∈ L.take (i + 1) ↔ x ∈ L.take i ∨ x = L.getD i 0 := by
  rw [take_succ_get L i hi, List.mem_append, List.mem_singleton, getD_lt hi]
theorem CfI.no {pts : List Pt} {a : Acc} {t0 t i e0 : Nat} {L : List Int} (h : CfI pts a t0 L i t) (hi : i < L.length) (he : L.getD i 0 = ((e0 : Nat) : Int)) (hc : cndB pts a e0 = false) : CfI pts a t0 L (i + 1) t := fun e => by
  rw [h e]
  congr 1
  by_cases hee : e = e0
  · subst hee; rw [hc, Bool.and_false, Bool.and_false]
  · congr 1
    rw [decide_eq_decide, mem_take_succ hi, he]
    exact ⟨.inl, fun h => h.resolve_right (by omega)⟩
theorem CfI.yes {pts : List Pt} {a : Acc} {t0 t i e0 : Nat} {L : List Int} (h : CfI pts a t0 L i t) (hi : i < L.length) (he : L.getD i 0 = ((e0 : Nat) : Int)) (hc : cndB pts a e0 = true) : CfI pts a t0 L (i + 1) (t ||| 2 ^ e0) := fun e => by
  rw [Nat.testBit_or, h e, Nat.testBit_two_pow]
  by_cases hee : e = e0
  · subst hee
    rw [hc, decide_eq_true rfl, Bool.or_true, Bool.and_true, decide_eq_true ((mem_take_succ hi _).2 (.inr he.symm)), Bool.or_true]
  · rw [show decide (e0 = e) = false from decide_eq_false (fun h => hee h.symm), Bool.or_false]
    congr 2
    rw [decide_eq_decide, mem_take_succ hi, he]
    exact ⟨.inl, fun h => h.resolve_right (by omega)⟩
/-- what an outer round knows -/
def CfO (pts : List Pt) (ac : List Acc) (s j t : Nat) : Prop := ∀ e : Nat, t.testBit e = (s.testBit e && acB pts (ac.take j) e)
theorem CfO.start {pts : List Pt} {ac : List Acc} {s : Nat} : CfO pts ac s 0 0 := fun e => by simp [acB]
theorem CfI.done {pts : List Pt} {ac : List Acc} {s j t0 t o m : Nat} {L : List Int} {a : Acc} (h0 : CfO pts ac s j t0) (hj : j < ac.length) (ha : ac[j] = a) (hs : s < top64) (ho : ∀ e, o.testBit e = ofB pts (2 ^ a.vr.toNat) e) (hm : ∀ e, m.testBit e = (s.testBit e && o.testBit e)) (hL : L = lst 64 m.testBit) (h : CfI pts a t0 L L.length t) : CfO pts ac s (j + 1) t := fun e => by
  rw [h e, h0 e, take_succ_get ac j hj, ha, acB_snoc, List.take_length]
  have hd : decide (((e : Nat) : Int) ∈ L) = (s.testBit e && ofB pts (2 ^ a.vr.toNat) e) := by
    rw [Bool.eq_iff_iff, decide_eq_true_iff, hL, lst_mem, ← ho e, ← hm e]
    constructor
    · rintro ⟨i, _, h1, h2⟩
      obtain rfl : e = i := by omega
      exact h1
    · intro h1
      refine ⟨e, ?_, h1, rfl⟩
      have h2 : s.testBit e = true := by rw [hm e, Bool.and_eq_true] at h1; exact h1.1
      rcases Nat.lt_or_ge e 64 with h3 | h3
      · exact h3
      · rw [Nat.testBit_lt_two_pow (Nat.lt_of_lt_of_le hs (by unfold top64; exact Nat.pow_le_pow_right (by omega) h3))] at h2; cases h2
  rw [hd]
  cases s.testBit e <;> cases acB pts (ac.take j) e <;> cases ofB pts (2 ^ a.vr.toNat) e <;> cases cndB pts a e <;> rfl
theorem acB_eq {ts : List Int} {pts : List Pt} {ac : List Acc} {e : Nat} {q : Pt} (hq : pts[e]? = some q) (hl : lonB q = true) (hy : 0 ≤ q.y) (ha : ∀ a ∈ ac, 0 ≤ a.vr) : acB pts ac e = ac.any fun a => decide (q.y = a.vr) && cndB pts a e := by
  unfold acB
  rw [Bool.eq_iff_iff, List.any_eq_true, List.any_eq_true]
  refine exists_congr fun a => and_congr_right fun hm => ?_
  have h0 := ha a hm
  rw [show ofB pts (2 ^ a.vr.toNat) e = decide (q.y = a.vr) by
    unfold ofB
    rw [hq]
    simp only [hl, Bool.true_and, Nat.testBit_two_pow]
    rw [decide_eq_decide]
    omega]
/-- the bits of kept, placed and against together -/
theorem cf_bits {ts : List Int} {pts : List Pt} {k t s q : Nat} {ac : List Acc} (ht : ∀ e, t.testBit e = (s.testBit e && q.testBit e && acB pts ac e)) (hs : ∀ e, s.testBit e = dec (KpL ts pts k e)) (hq : ∀ e, q.testBit e = dec (Pld ts pts k e)) (hn : pts.length ≤ 64) : lst 64 t.testBit = cfL ts pts k ac := by
  unfold cfL
  have e : ∀ e, t.testBit e = (dec (KpL ts pts k e) && dec (Pld ts pts k e) && acB pts ac e) := fun e => by rw [ht e, hs e, hq e]
  rw [← lst_congr fun i _ => e i, lst_more hn]
  intro e' h1 _
  rw [e]
  cases hp : dec (Pld ts pts k e')
  · simp
  · obtain ⟨⟨p, hp1, -⟩, -⟩ := (dec_iff.1 hp).loan
    have := (List.getElem?_eq_some_iff.1 hp1).1
    omega

end Go.Proofs.Ytidlifijgooceaa
