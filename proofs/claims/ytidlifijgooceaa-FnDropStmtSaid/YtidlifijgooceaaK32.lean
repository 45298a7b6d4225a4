import Derived.Test.YtidlifijgooceaaK18
import Derived.Test.YtidlifijgooceaaK28
import Derived.Test.YtidlifijgooceaaK20
set_option linter.unusedVariables false

/- Plain: loans: from which of them values come, where they are placed. No program in sight. -/
namespace Go.Proofs.Ytidlifijgooceaa

def lonB (p : Pt) : Bool := p.op == 4 || p.op == 5
theorem lonB_iff {p : Pt} : lonB p = true ↔ p.op = 4 ∨ p.op = 5 := by simp [lonB]
theorem Gloan_iff {i e : Nat} {p : Pt} : Gloan i p e = true ↔ (p.op = 4 ∨ p.op = 5) ∧ e = i := by simp [Gloan]
theorem Gloan_lt64 {pts : List Pt} (h : pts.length ≤ 61) : ∀ i p e, pts[i]? = some p → Gloan i p e = true → e < 64 := fun i p e hp h2 => by
  have := (Gloan_iff.1 h2).2
  have hi := (List.getElem?_eq_some_iff.1 hp).1
  omega
/-- what comes from a loan: the loan's point, which leads there; and it is a reference -/
theorem Fl.loanOf {ts : List Int} {pts : List Pt} {i v e : Nat} (h : Fl ts pts Gloan (Cloan ts) i v e) (g : Good ts pts) : (∃ p, pts[e]? = some p ∧ (p.op = 4 ∨ p.op = 5)) ∧ Lds pts e i ∧ isRefP (typeOfP ts (v : Nat)) = true := by
  induction h with
  | @gen i k v e p hp hk hv hs h =>
    obtain ⟨ho, rfl⟩ := Gloan_iff.1 h
    refine ⟨⟨p, hp, ho⟩, .one hp hk, ?_⟩
    rcases g.ok p (List.mem_of_getElem? hp) with hh | hh | hh | hh
    · omega
    · omega
    · omega
    · have hx : p.x = (v : Nat) := by rw [← hs]; unfold setsP; rw [if_pos (by omega)]
      rw [← hx]
      rcases ho with ho | ho <;> rw [ho] at hh <;> simp [simpleP] at hh <;> (rw [hh.2.1.1]; rfl)
  | @copy i k v e p hp hk hv hs hc hi ih =>
    obtain ⟨ih1, ih2, ih3⟩ := ih
    refine ⟨ih1, ih2.snoc hp hk, ?_⟩
    have ho : p.op = 3 ∨ p.op = 4 ∨ p.op = 5 := by
      unfold Cloan at hc
      simp at hc
      rcases hc with h | ⟨h, _⟩ <;> omega
    rcases g.ok p (List.mem_of_getElem? hp) with hh | hh | hh | hh
    · omega
    · omega
    · omega
    · have hx : p.x = (v : Nat) := by rw [← hs]; unfold setsP; rw [if_pos (by omega)]
      have hy := typeOf_in (simple_y hh (by omega))
      have hyn : ((p.y.toNat : Nat) : Int) = p.y := by omega
      rw [hyn] at ih3
      rw [← hx]
      rcases ho with ho | ho | ho <;> rw [ho] at hh <;> simp [simpleP] at hh
      · rw [hh.2.1.1]; exact ih3
      · rw [hh.2.1.1]; rfl
      · rw [hh.2.1.1]; rfl
  | keep hp hk _ _ _ _ ih => exact ⟨ih.1, ih.2.1.snoc hp hk, ih.2.2⟩

/-- does p end the placing of the loan at e? -/
def killB (ts : List Int) (pts : List Pt) (p : Pt) (e : Nat) : Bool := match pts[e]? with
  | some q => lonB q && (useP ts p.op p.x p.y q.y == 2 || setsP p.op p.x == q.y)
  | none => false
/-- which loans are placed before a point -/
inductive Pld (ts : List Int) (pts : List Pt) : Nat → Nat → Prop
  | gen {i k : Nat} {p : Pt} (hp : pts[i]? = some p) (hk : k ∈ p.next) (hl : lonB p = true) : Pld ts pts k i
  | keep {i k e : Nat} {p : Pt} (hp : pts[i]? = some p) (hk : k ∈ p.next) (hn : killB ts pts p e = false) (hi : Pld ts pts i e) : Pld ts pts k e
theorem Pld.loan {ts : List Int} {pts : List Pt} {k e : Nat} (h : Pld ts pts k e) : (∃ p, pts[e]? = some p ∧ lonB p = true) ∧ Lds pts e k := by
  induction h with
  | gen hp hk hl => exact ⟨⟨_, hp, hl⟩, .one hp hk⟩
  | keep hp hk _ _ ih => exact ⟨ih.1, ih.2.snoc hp hk⟩
theorem Pld.lt {ts : List Int} {pts : List Pt} {k e : Nat} (h : Pld ts pts k e) : e < pts.length := by
  obtain ⟨⟨p, hp, -⟩, -⟩ := h.loan
  exact (List.getElem?_eq_some_iff.1 hp).1
def aftP (ts : List Int) (pts : List Pt) (i : Nat) (p : Pt) (b : Nat → Bool) (e : Nat) : Bool := (b e && !killB ts pts p e) || (lonB p && e == i)
theorem Pld.aft {ts : List Int} {pts : List Pt} {i k e : Nat} {p : Pt} {b : Nat → Bool} (hb : ∀ e, b e = true → Pld ts pts i e) (hp : pts[i]? = some p) (hk : k ∈ p.next) (h : aftP ts pts i p b e = true) : Pld ts pts k e := by
  unfold aftP at h
  rw [Bool.or_eq_true, Bool.and_eq_true, Bool.and_eq_true] at h
  rcases h with ⟨h1, h2⟩ | ⟨h1, h2⟩
  · exact .keep hp hk (by simpa using h2) (hb e h1)
  · obtain rfl := beq_iff_eq.1 h2
    exact .gen hp hk h1
theorem Pld.done {ts : List Int} {pts : List Pt} {st : Nat → Nat → Bool} (hc : ∀ i p k e, pts[i]? = some p → k ∈ p.next → e < pts.length → aftP ts pts i p (st i) e = true → st k e = true) {k e : Nat} (h : Pld ts pts k e) : st k e = true := by
  have hl := h.lt
  induction h with
  | gen hp hk hl2 => exact hc _ _ _ _ hp hk hl (by unfold aftP; rw [hl2]; simp)
  | keep hp hk hn hi ih => exact hc _ _ _ _ hp hk hl (by unfold aftP; rw [ih hl, hn]; rfl)

/-- the search for what is placed, its sets numbers of 64 bits -/
def stP (os : List Nat) (i e : Nat) : Bool := (os.getD i 0).testBit e
structure PlI (ts : List Int) (pts : List Pt) (os : List Nat) : Prop where
  len : os.length = pts.length
  small : ∀ m ∈ os, m < top64
  snd : ∀ i e, stP os i e = true → Pld ts pts i e
theorem PlI.init (ts : List Int) (pts : List Pt) : PlI ts pts (List.replicate pts.length 0) := by
  refine ⟨by simp, fun m hm => ?_, fun i e h => ?_⟩
  · rw [(List.mem_replicate.1 hm).2]; exact Nat.two_pow_pos _
  · have h0 : (List.replicate pts.length 0).getD i 0 = 0 := by
      by_cases hk : i < pts.length
      · rw [getD_lt (by simpa using hk)]; simp
      · rw [getD_ge (by simpa using hk)]
    unfold stP at h
    rw [h0] at h; simp at h
theorem stP_set {os : List Nat} {k s i e : Nat} (hk : k < os.length) : stP (os.set k (os.getD k 0 ||| s)) i e = (stP os i e || (decide (i = k) && s.testBit e)) := by
  unfold stP
  rw [getD_setT hk]
  by_cases e1 : i = k
  · rw [if_pos e1, e1, Nat.testBit_or]; simp
  · rw [if_neg e1]; simp [e1]
theorem PlI.upd {ts : List Int} {pts : List Pt} {os : List Nat} {k s : Nat} (h : PlI ts pts os) (hk : k < pts.length) (hs : s < top64) (hf : ∀ e, s.testBit e = true → Pld ts pts k e) : PlI ts pts (os.set k (os.getD k 0 ||| s)) := by
  have hl : k < os.length := by rw [h.len]; omega
  refine ⟨by simp [h.len], fun m hm => ?_, fun i e he => ?_⟩
  · rcases List.mem_or_eq_of_mem_set hm with hm | rfl
    · exact h.small m hm
    · exact or_top (getD_small h.small _) hs
  · rw [stP_set hl, Bool.or_eq_true] at he
    rcases he with he | he
    · exact h.snd i e he
    · simp only [Bool.and_eq_true, decide_eq_true_eq] at he
      obtain ⟨rfl, he⟩ := he
      exact hf e he
def muP (n : Nat) (os : List Nat) : Nat := muB n 1 64 (fun i _ e => stP os i e)
theorem PlI.mu {os : List Nat} {n k s : Nat} (hl : os.length = n) (hsm : ∀ m ∈ os, m < top64) (hk : k < n) (hs : s < top64) (hne : os.getD k 0 ||| s ≠ os.getD k 0) : muP n (os.set k (os.getD k 0 ||| s)) < muP n os := by
  have hkl : k < os.length := by rw [hl]; exact hk
  obtain ⟨e, he, h0, h1⟩ := or_new (getD_small hsm _) hs hne
  unfold muP
  refine muB_lt (i := k) (v := 0) (e := e) (fun i u e h => ?_) hk (by omega) he ?_ ?_
  · rw [stP_set hkl, h]; rfl
  · unfold stP; exact h0
  · rw [stP_set hkl, h1]; simp
/-- along all edges of point i nothing is missing -/
def ClP (ts : List Int) (pts : List Pt) (os : List Nat) (i : Nat) : Prop := ∀ p, pts[i]? = some p → ∀ k ∈ p.next, ∀ e, aftP ts pts i p (stP os i) e = true → stP os k e = true
theorem PlI.done {ts : List Int} {pts : List Pt} {os : List Nat} (h : PlI ts pts os) (hc : ∀ i, i < pts.length → ClP ts pts os i) (i e : Nat) : stP os i e = true ↔ Pld ts pts i e := by
  refine ⟨h.snd i e, fun hf => Pld.done (st := stP os) (fun i p k e hp hk _ ha => ?_) hf⟩
  exact hc i (List.getElem?_eq_some_iff.1 hp).1 p hp k hk e ha

end Go.Proofs.Ytidlifijgooceaa

/- Plain: bounds of regions, and the least regions that keep them. No program in sight. -/
namespace Go.Proofs.Ytidlifijgooceaa

/-- a bound: the region of v has a loan (src < 0), or all that the region of src has (loan < 0) -/
structure Bd where
  v : Int
  loan : Int
  src : Int
def bdsPt (ts : List Int) (i : Nat) (p : Pt) : List Bd := (if lonB p then [⟨p.x, (i : Nat), -1⟩] else []) ++ (if (lonB p || p.op == 3) && isRefP (typeOfP ts p.y) then [⟨p.x, -1, p.y⟩] else [])
def bdsL (ts : List Int) (at_ : Nat) : List Pt → List Bd
  | [] => []
  | p :: r => bdsPt ts at_ p ++ bdsL ts (at_ + 1) r
theorem bdsL_mem {ts : List Int} {at_ : Nat} {L : List Pt} {b : Bd} : b ∈ bdsL ts at_ L ↔ ∃ i p, L[i]? = some p ∧ b ∈ bdsPt ts (at_ + i) p := by
  induction L generalizing at_ with
  | nil => simp [bdsL]
  | cons q r ih =>
    simp only [bdsL, List.mem_append, ih]
    constructor
    · rintro (h | ⟨i, p, hp, h⟩)
      · exact ⟨0, q, rfl, h⟩
      · exact ⟨i + 1, p, by simpa using hp, by rwa [show at_ + (i + 1) = at_ + 1 + i by omega]⟩
    · rintro ⟨i, p, hp, h⟩
      cases i with
      | zero => simp at hp; subst hp; exact .inl h
      | succ i => exact .inr ⟨i, p, by simpa using hp, by rwa [show at_ + (i + 1) = at_ + 1 + i by omega] at h⟩
theorem bdsPt_mem {ts : List Int} {i : Nat} {p : Pt} {b : Bd} : b ∈ bdsPt ts i p ↔ (lonB p = true ∧ b = ⟨p.x, (i : Nat), -1⟩) ∨ ((lonB p = true ∨ p.op = 3) ∧ isRefP (typeOfP ts p.y) = true ∧ b = ⟨p.x, -1, p.y⟩) := by
  unfold bdsPt
  rw [List.mem_append]
  refine or_congr ?_ ?_
  · by_cases h : lonB p = true
    · simp [h]
    · simp [h]
  · by_cases h : ((lonB p || p.op == 3) && isRefP (typeOfP ts p.y)) = true
    · rw [if_pos h]; simp at h; simp [h]
    · rw [if_neg h]; simp at h ⊢; intro h1 h2; exact absurd h2 (by simp [h h1])
/-- the bounds of a program's points -/
def bds (ts : List Int) (pts : List Pt) : List Bd := bdsL ts 0 pts
/-- the bounds speak of variables and loans that are there -/
structure BdOk (n m : Nat) (b : Bd) : Prop where
  v0 : 0 ≤ b.v
  v1 : b.v < n
  alt : (b.src = -1 ∧ 0 ≤ b.loan ∧ b.loan < m) ∨ (b.loan = -1 ∧ 0 ≤ b.src ∧ b.src < n)
/-- the least regions -/
inductive Rg (bs : List Bd) : Nat → Nat → Prop
  | base {v e : Nat} (h : ⟨(v : Nat), (e : Nat), -1⟩ ∈ bs) : Rg bs v e
  | step {v u e : Nat} (h : ⟨(v : Nat), -1, (u : Nat)⟩ ∈ bs) (hu : Rg bs u e) : Rg bs v e
theorem Rg.lt {bs : List Bd} {n m v e : Nat} (h : Rg bs v e) (hok : ∀ b ∈ bs, BdOk n m b) : v < n := by
  cases h with
  | base h => have := (hok _ h).v1; simpa using this
  | step h => have := (hok _ h).v1; simpa using this
theorem Rg.size {bs : List Bd} {n m v e : Nat} (h : Rg bs v e) (hok : ∀ b ∈ bs, BdOk n m b) : e < m := by
  induction h with
  | base h => rcases (hok _ h).alt with ⟨_, _, h3⟩ | ⟨h1, _, _⟩
              · simpa using h3
              · simp at h1
  | step _ _ ih => exact ih
/-- what a bound asks of sets -/
def keepB (s : Nat → Nat → Bool) (b : Bd) : Prop := if b.src < 0 then s b.v.toNat b.loan.toNat = true else ∀ e, s b.src.toNat e = true → s b.v.toNat e = true
theorem Rg.done {bs : List Bd} {n m v e : Nat} {s : Nat → Nat → Bool} (hok : ∀ b ∈ bs, BdOk n m b) (hk : ∀ b ∈ bs, keepB s b) (h : Rg bs v e) : s v e = true := by
  induction h with
  | base h => have := hk _ h; unfold keepB at this; simpa using this
  | @step v u e h _ ih =>
    have := hk _ h
    unfold keepB at this
    rw [if_neg (by simp)] at this
    simpa using this e (by simpa using ih)
/-- a bound's step stays right -/
theorem Rg.bound {bs : List Bd} {n m e : Nat} {b : Bd} {s : Nat → Nat → Bool} (hok : ∀ b ∈ bs, BdOk n m b) (hs : ∀ v e, s v e = true → Rg bs v e) (hb : b ∈ bs) (h : if b.src < 0 then e = b.loan.toNat else s b.src.toNat e = true) : Rg bs b.v.toNat e := by
  have ho := hok b hb
  have hv : ((b.v.toNat : Nat) : Int) = b.v := by have := ho.v0; omega
  rcases ho.alt with ⟨h1, h2, h3⟩ | ⟨h1, h2, h3⟩
  · rw [if_pos (by omega)] at h
    refine .base ?_
    rw [hv, h, show ((b.loan.toNat : Nat) : Int) = b.loan by omega, ← h1]; exact hb
  · rw [if_neg (by omega)] at h
    refine .step (u := b.src.toNat) ?_ (hs _ _ h)
    rw [hv, show ((b.src.toNat : Nat) : Int) = b.src by omega, ← h1]; exact hb

/-- what is there after k rounds, at the least -/
def Rk (bs : List Bd) : Nat → Nat → Nat → Prop
  | 0, _, _ => False
  | k + 1, v, e => (⟨(v : Nat), (e : Nat), -1⟩ : Bd) ∈ bs ∨ Rk bs k v e ∨ ∃ u : Nat, (⟨(v : Nat), -1, (u : Nat)⟩ : Bd) ∈ bs ∧ Rk bs k u e
theorem Rk.rg {bs : List Bd} {k v e : Nat} (h : Rk bs k v e) : Rg bs v e := by
  induction k generalizing v with
  | zero => exact h.elim
  | succ k ih =>
    rcases h with h | h | ⟨u, hu, h⟩
    · exact .base h
    · exact ih h
    · exact .step hu (ih h)
theorem Rk.up {bs : List Bd} {k j v e : Nat} (h : Rk bs k v e) (hk : k ≤ j) : Rk bs j v e := by
  induction j with
  | zero => have : k = 0 := by omega
            subst this; exact h
  | succ j ih =>
    by_cases e : k = j + 1
    · subst e; exact h
    · exact .inr (.inl (ih (by omega)))
theorem Rk.stop {bs : List Bd} {k e : Nat} (h : ∀ v, Rk bs (k + 1) v e → Rk bs k v e) {v : Nat} (hr : Rg bs v e) : Rk bs k v e := by
  induction hr with
  | base hb => exact h _ (.inl hb)
  | step hb _ ih => exact h _ (.inr (.inr ⟨_, hb, ih h⟩))
/-- n + 1 rounds are enough for n variables -/
theorem Rk.all {bs : List Bd} {n m v e : Nat} (hok : ∀ b ∈ bs, BdOk n m b) (h : Rg bs v e) : Rk bs (n + 1) v e := by
  refine Classical.byContradiction fun hno => ?_
  have grow : ∀ k, k ≤ n + 1 → k ≤ sumN n fun u => if dec (Rk bs k u e) then 1 else 0 := by
    intro k
    induction k with
    | zero => intro _; exact Nat.zero_le _
    | succ k ih =>
      intro hk
      have h1 := ih (by omega)
      have hne : ¬ ∀ u, Rk bs (k + 1) u e → Rk bs k u e := fun hs => hno ((Rk.stop hs h).up (by omega))
      obtain ⟨u, hu⟩ := Classical.not_forall.1 hne
      have hu2 : Rk bs (k + 1) u e ∧ ¬ Rk bs k u e := Classical.byContradiction fun hh => hu fun h1 => Classical.byContradiction fun h2 => hh ⟨h1, h2⟩
      have := sumN_lt (n := n) (k := u) (f := fun u => if dec (Rk bs k u e) then 1 else 0) (g := fun u => if dec (Rk bs (k + 1) u e) then 1 else 0) (fun i _ => by
        by_cases h : Rk bs k i e
        · simp only [dec_true h, dec_true (h.up (Nat.le_succ k))]; omega
        · simp only [dec_false h]; simp) (hu2.1.rg.lt hok) (by simp only [dec_true hu2.1, dec_false hu2.2]; simp)
      omega
  have h1 := grow (n + 1) (Nat.le_refl _)
  have h2 : ∀ n, (sumN n fun u => if dec (Rk bs (n + 1) u e) then 1 else 0) ≤ n := fun n => by
    have : ∀ (f : Nat → Nat) n, (∀ i, f i ≤ 1) → sumN n f ≤ n := fun f n hf => by
      induction n with
      | zero => exact Nat.le_refl _
      | succ n ih => have := hf n; simp only [sumN]; omega
    exact this _ n fun i => by split <;> omega
  have := h2 n
  omega
/-- sets that have what k rounds give, and along which the first i bounds were gone once more -/
structure RdI (bs : List Bd) (k i : Nat) (s : Nat → Nat → Bool) : Prop where
  snd : ∀ v e, s v e = true → Rg bs v e
  has : ∀ v e, Rk bs k v e → s v e = true
  part : ∀ b ∈ bs.take i, if b.src < 0 then s b.v.toNat b.loan.toNat = true else ∀ e, Rk bs k b.src.toNat e → s b.v.toNat e = true
theorem RdI.next {bs : List Bd} {n m k : Nat} {s : Nat → Nat → Bool} (hok : ∀ b ∈ bs, BdOk n m b) (h : RdI bs k bs.length s) : RdI bs (k + 1) 0 s := by
  refine ⟨h.snd, fun v e hr => ?_, fun b hb => by simp at hb⟩
  have hp := h.part
  rw [List.take_length] at hp
  rcases hr with hr | hr | ⟨u, hb, hr⟩
  · have := hp _ hr; simpa using this
  · exact h.has v e hr
  · have := hp _ hb
    rw [if_neg (by simp)] at this
    simpa using this e (by simpa using hr)
theorem RdI.go {bs : List Bd} {n m k i : Nat} {s s' : Nat → Nat → Bool} (hok : ∀ b ∈ bs, BdOk n m b) (h : RdI bs k i s) (hi : i < bs.length)
    (hs : ∀ v e, s' v e = true ↔ s v e = true ∨ (v = bs[i].v.toNat ∧ if bs[i].src < 0 then e = bs[i].loan.toNat else s bs[i].src.toNat e = true)) : RdI bs k (i + 1) s' := by
  have up : ∀ v e, s v e = true → s' v e = true := fun v e h => (hs v e).2 (.inl h)
  refine ⟨fun v e h2 => ?_, fun v e h2 => up v e (h.has v e h2), fun b hb => ?_⟩
  · rcases (hs v e).1 h2 with h3 | ⟨rfl, h3⟩
    · exact h.snd v e h3
    · exact Rg.bound hok h.snd (List.getElem_mem hi) h3
  · rw [take_succ_get bs i hi, List.mem_append, List.mem_singleton] at hb
    rcases hb with hb | rfl
    · have := h.part b hb
      by_cases h1 : b.src < 0
      · rw [if_pos h1] at this ⊢; exact up _ _ this
      · rw [if_neg h1] at this ⊢; exact fun e he => up _ _ (this e he)
    · by_cases h1 : bs[i].src < 0
      · rw [if_pos h1]; exact (hs _ _).2 (.inr ⟨rfl, by rw [if_pos h1]⟩)
      · rw [if_neg h1]; exact fun e he => (hs _ _).2 (.inr ⟨rfl, by rw [if_neg h1]; exact h.has _ _ he⟩)
theorem RdI.done {bs : List Bd} {n m k : Nat} {s : Nat → Nat → Bool} (hok : ∀ b ∈ bs, BdOk n m b) (h : RdI bs k 0 s) (hk : n + 1 ≤ k) (v e : Nat) : s v e = true ↔ Rg bs v e :=
  ⟨h.snd v e, fun hr => h.has v e ((Rk.all hok hr).up hk)⟩

/-- from where a value can come lies in the region -/
theorem Fl.region {ts : List Int} {pts : List Pt} {i v e : Nat} (g : Good ts pts) (h : Fl ts pts Gloan (Cloan ts) i v e) : Rg (bds ts pts) v e := by
  have hx : ∀ (v : Nat) (p : Pt), (p.op = 3 ∨ p.op = 4 ∨ p.op = 5) → setsP p.op p.x = (v : Nat) → p.x = (v : Nat) := fun v p ho hs => by
    rw [← hs]; unfold setsP; rw [if_pos (by omega)]
  induction h with
  | @gen i k v e p hp hk hv hs h =>
    obtain ⟨ho, rfl⟩ := Gloan_iff.1 h
    refine .base (bdsL_mem.2 ⟨e, p, hp, bdsPt_mem.2 (.inl ⟨lonB_iff.2 ho, ?_⟩)⟩)
    rw [hx v p (.inr ho) hs, Nat.zero_add]
  | @copy i k v e p hp hk hv hs hc hi ih =>
    have hr := (hi.loanOf g).2.2
    have ho : p.op = 3 ∨ p.op = 4 ∨ p.op = 5 := by
      unfold Cloan at hc; simp at hc
      rcases hc with h | ⟨h, _⟩ <;> omega
    have hy : ((p.y.toNat : Nat) : Int) = p.y := by
      rcases g.ok p (List.mem_of_getElem? hp) with hh | hh | hh | hh
      · omega
      · omega
      · omega
      · have := typeOf_in (simple_y hh (by omega)); omega
    rw [hy] at hr
    refine .step (u := p.y.toNat) (bdsL_mem.2 ⟨i, p, hp, bdsPt_mem.2 (.inr ⟨?_, hr, ?_⟩)⟩) ih
    · rcases ho with h | h
      · exact .inr h
      · exact .inl (lonB_iff.2 h)
    · rw [hx v p ho hs, hy]
  | keep _ _ _ _ _ _ ih => exact ih

end Go.Proofs.Ytidlifijgooceaa

/- A region that draws its order, walked in the order of the text, where some operations yield a value of which only a property is known. No program in sight. -/
namespace Go.Proofs.Ytidlifijgooceaa
open Go Go.RowKit

section
variable {P : Program} {ops : Array Oper} {Q : Exit → Act → World → Prop} {md : Region.Mode} {S : World → Prop} {V : Nat → Option (Value → Prop)}

def PureS (P : Program) (S : World → Prop) (o : Oper) (c : Value) (a : Act) : Prop := ∀ w, S w → (execOp a.eval o).run P w = .ok (.value c) w
def RelS (P : Program) (S : World → Prop) (o : Oper) (p : Value → Prop) (a : Act) : Prop :=
  (∀ w, S w → ∃ v w', (execOp a.eval o).run P w = .ok (.value v) w' ∧ p v ∧ S w') ∨
  (∃ f args, ∀ w, S w → (execOp a.eval o).run P w = .ok (.enter f args) w ∧ Calls P f args w fun e w' => ∃ v, e = .returned v ∧ p v ∧ S w')
/-- what operation o (number i) may do, and what is to hold of each outcome -/
def StepV (P : Program) (ops : Array Oper) (S : World → Prop) (V : Nat → Option (Value → Prop)) (i : Nat) (o : Oper) (a : Act) (K : Act → Prop) : Prop :=
  (Region.wanted o (yielded ops a.tmps) = false ∧ K (a.put o.dst undef)) ∨
  (Region.wanted o (yielded ops a.tmps) = true ∧ ((V i = none ∧ ∃ c, PureS P S o c a ∧ K (a.put o.dst c)) ∨ ∃ p, V i = some p ∧ RelS P S o p a ∧ ∀ v, p v → K (a.put o.dst v)))

theorem StepV.mono {i : Nat} {o : Oper} {a : Act} {K K' : Act → Prop} (h : StepV P ops S V i o a K) (hk : ∀ a, K a → K' a) : StepV P ops S V i o a K' := by
  rcases h with ⟨hw, h⟩ | ⟨hw, ⟨hv, c, hc, h⟩ | ⟨p, hv, hr, h⟩⟩
  · exact .inl ⟨hw, hk _ h⟩
  · exact .inr ⟨hw, .inl ⟨hv, c, hc, hk _ h⟩⟩
  · exact .inr ⟨hw, .inr ⟨p, hv, hr, fun v hp => hk _ (h v hp)⟩⟩
theorem StepV.mono' {i : Nat} {o : Oper} {a : Act} {K K' : Act → Prop} (h : StepV P ops S V i o a K) (hk : ∀ v, K (a.put o.dst v) → K' (a.put o.dst v)) : StepV P ops S V i o a K' := by
  rcases h with ⟨hw, h⟩ | ⟨hw, ⟨hv, c, hc, h⟩ | ⟨p, hv, hr, h⟩⟩
  · exact .inl ⟨hw, hk _ h⟩
  · exact .inr ⟨hw, .inl ⟨hv, c, hc, hk _ h⟩⟩
  · exact .inr ⟨hw, .inr ⟨p, hv, hr, fun v hp => hk _ (h v hp)⟩⟩
/-- some outcome there is -/
theorem StepV.some_ {i : Nat} {o : Oper} {a : Act} {K : Act → Prop} (h : StepV P ops S V i o a K) (hne : ∃ w, S w) : ∃ v, K (a.put o.dst v) := by
  obtain ⟨w, hS⟩ := hne
  rcases h with ⟨_, h⟩ | ⟨_, ⟨_, c, _, h⟩ | ⟨p, _, hr, h⟩⟩
  · exact ⟨_, h⟩
  · exact ⟨_, h⟩
  · rcases hr with hr | ⟨f, args, hr⟩
    · obtain ⟨v, _, _, hp, _⟩ := hr w hS; exact ⟨v, h v hp⟩
    · obtain ⟨_, hc⟩ := hr w hS
      obtain ⟨e, w', fr, ⟨v, _, hp, _⟩, _⟩ := hc []
      exact ⟨v, h v hp⟩
/-- the step of i at a, where K is to hold behind it, is the step at a state that differs only in what it does not look at -/
theorem StepV.shift {i : Nat} {o : Oper} {a a' : Act} {K K' : Act → Prop} (h : StepV P ops S V i o a K) (he : execOp a'.eval o = execOp a.eval o) (hw : Region.wanted o (yielded ops a'.tmps) = Region.wanted o (yielded ops a.tmps))
    (hk : ∀ v, K (a.put o.dst v) → K' (a'.put o.dst v)) : StepV P ops S V i o a' K' := by
  unfold StepV PureS RelS at *
  rw [he, hw]
  rcases h with ⟨hw, h⟩ | ⟨hw, ⟨hv, c, hc, h⟩ | ⟨p, hv, hr, h⟩⟩
  · exact .inl ⟨hw, hk _ h⟩
  · exact .inr ⟨hw, .inl ⟨hv, c, hc, hk _ h⟩⟩
  · exact .inr ⟨hw, .inr ⟨p, hv, hr, fun v hp => hk _ (h v hp)⟩⟩
/-- one step for many states behind another's -/
theorem StepV.all {i : Nat} {o : Oper} {a : Act} {X : Value → Prop} {K : Value → Act → Prop} (hne : ∃ w, S w) (h : ∀ v, X v → StepV P ops S V i o a (K v)) (hx : ∃ v, X v) : StepV P ops S V i o a fun a' => ∀ v, X v → K v a' := by
  obtain ⟨v0, hv0⟩ := hx
  obtain ⟨w, hS⟩ := hne
  rcases h v0 hv0 with ⟨hw, _⟩ | ⟨hw, ⟨hv, c, hc, _⟩ | ⟨p, hv, hr, _⟩⟩
  · refine .inl ⟨hw, fun v hx => ?_⟩
    rcases h v hx with ⟨_, h'⟩ | ⟨hw', _⟩
    · exact h'
    · rw [hw] at hw'; cases hw'
  · refine .inr ⟨hw, .inl ⟨hv, c, hc, fun v hx => ?_⟩⟩
    rcases h v hx with ⟨hw', _⟩ | ⟨_, ⟨_, c', hc', h'⟩ | ⟨p, hv', _⟩⟩
    · rw [hw] at hw'; cases hw'
    · have e := (hc w hS).symm.trans (hc' w hS)
      injection e with e
      injection e with e
      rw [e]; exact h'
    · rw [hv] at hv'; cases hv'
  · refine .inr ⟨hw, .inr ⟨p, hv, hr, fun u hp v hx => ?_⟩⟩
    rcases h v hx with ⟨hw', _⟩ | ⟨_, ⟨hv', _⟩ | ⟨p', hv', _, h'⟩⟩
    · rw [hw] at hw'; cases hw'
    · rw [hv] at hv'; cases hv'
    · rw [hv] at hv'; injection hv' with hv'; subst hv'; exact h' u hp

/-- in whatever order -/
def DetV (P : Program) (md : Region.Mode) (ops : Array Oper) (Q : Exit → Act → World → Prop) (S : World → Prop) (V : Nat → Option (Value → Prop)) : Nat → Array Bool → Act → Prop
  | 0, listed, a => Region.ready md ops listed = [] ∧ ∀ w, S w → Q .normal a w
  | fuel + 1, listed, a => (Region.ready md ops listed = [] → ∀ w, S w → Q .normal a w) ∧
    ∀ i ∈ Region.ready md ops listed, ∃ o, ops[i]? = some o ∧ StepV P ops S V i o a (DetV P md ops Q S V fuel (listed.setIfInBounds i true))
theorem DetV.first {i : Nat} {oi : Oper} (hne : ∃ w, S w) (hi : ops[i]? = some oi) (hsel : ∀ (j : Nat) (o : Oper) cs b, ops[j]? = some o → o.op ≠ .select cs b) :
    ∀ (fuel : Nat) (listed : Array Bool) (a : Act),
      (∀ j oj, ops[j]? = some oj → j ≠ i → listed.getD j true = false → (∀ e ∈ oj.after, Region.binds md e = true → e.on ≠ i) → oi.apart ops oj = true) →
      i ∈ Region.ready md ops listed → StepV P ops S V i oi a (DetV P md ops Q S V fuel (listed.setIfInBounds i true)) → DetV P md ops Q S V (fuel + 1) listed a := by
  intro fuel
  induction fuel with
  | zero =>
    intro listed a _ hr hy
    refine ⟨fun h => (by rw [h] at hr; cases hr), fun j hj => ?_⟩
    by_cases hji : j = i
    · subst hji; exact ⟨oi, hi, hy⟩
    · have := ready_mono hj hji
      obtain ⟨v, hv⟩ := hy.some_ hne
      rw [hv.1] at this
      cases this
  | succ fuel ih =>
    intro listed a hfree hr hy
    refine ⟨fun h => (by rw [h] at hr; cases hr), fun j hj => ?_⟩
    by_cases hji : j = i
    · subst hji; exact ⟨oi, hi, hy⟩
    · obtain ⟨hjun, oj, hoj, hall⟩ := mem_ready.1 hj
      have hnot : ∀ e ∈ oj.after, Region.binds md e = true → e.on ≠ i := fun e he hb heq => by
        have h1 := hall e he hb
        have h0 := (mem_ready.1 hr).1
        rw [heq] at h1
        rcases Nat.lt_or_ge i listed.size with h' | h'
        · simp [h'] at h0 h1; rw [h0] at h1; cases h1
        · simp [Array.getElem?_eq_none h'] at h1
      obtain ⟨h1, h2, h3⟩ := Oper.apart_spec (hfree j oj hoj hji hjun hnot)
      have hfree' : ∀ k ok, ops[k]? = some ok → k ≠ i → (listed.setIfInBounds j true).getD k true = false →
          (∀ e ∈ ok.after, Region.binds md e = true → e.on ≠ i) → oi.apart ops ok = true := fun k ok hk hki hun hno => by
        refine hfree k ok hk hki ?_ hno
        by_cases hjk : j = k
        · subst hjk; exact hjun
        · rw [getD_set_ne true hjk] at hun; exact hun
      -- the step of j, behind each outcome of i
      let X : Value → Prop := fun v => DetV P md ops Q S V (fuel + 1) (listed.setIfInBounds i true) (a.put oi.dst v)
      have hj' : ∀ v, X v → StepV P ops S V j oj a fun a' => DetV P md ops Q S V fuel ((listed.setIfInBounds i true).setIfInBounds j true) (a'.put oi.dst v) := fun v hv => by
        obtain ⟨oj', hoj', hst⟩ := hv.2 j (ready_mono hj hji)
        rw [hoj] at hoj'
        injection hoj' with e
        subst e
        refine hst.shift (execOp_put oj (fun cs b => hsel j oj cs b hoj) a oi.dst v h1).symm (wanted_put oj a oi.dst v h1).symm fun u hu => ?_
        rw [← Act.put_comm a v u h2]; exact hu
      refine ⟨oj, hoj, (StepV.all hne hj' (hy.some_ hne)).mono' fun u hu => ?_⟩
      refine ih (listed.setIfInBounds j true) (a.put oj.dst u) hfree' (ready_mono hr (Ne.symm hji)) ?_
      refine hy.shift (execOp_put oi (fun cs b => hsel i oi cs b hi) a oj.dst u h3) (wanted_put oi a oj.dst u h3) fun v hv => ?_
      have := hu v hv
      rw [Array.setIfInBounds_comm _ _ hji]
      exact this

/-- in the order of the text, from operation i on -/
def SeqV (P : Program) (ops : Array Oper) (Q : Exit → Act → World → Prop) (S : World → Prop) (V : Nat → Option (Value → Prop)) : Nat → List Oper → Act → Prop
  | _, [], a => ∀ w, S w → Q .normal a w
  | i, o :: rest, a => StepV P ops S V i o a (SeqV P ops Q S V (i + 1) rest)
theorem SeqV.skip {i : Nat} {o : Oper} {rest : List Oper} {a : Act} (hw : Region.wanted o (yielded ops a.tmps) = false) (h : SeqV P ops Q S V (i + 1) rest (a.put o.dst undef)) : SeqV P ops Q S V i (o :: rest) a := .inl ⟨hw, h⟩
theorem SeqV.call {i : Nat} {o : Oper} {rest : List Oper} {a : Act} {f : FuncId} {args : Array Value} (p : Value → Prop) (hw : Region.wanted o (yielded ops a.tmps) = true) (hV : V i = some p) (he : ∀ w, (execOp a.eval o).run P w = .ok (.enter f args) w) (hc : ∀ w, S w → Calls P f args w fun e w' => ∃ v, e = .returned v ∧ p v ∧ S w') (h : ∀ v, p v → SeqV P ops Q S V (i + 1) rest (a.put o.dst v)) : SeqV P ops Q S V i (o :: rest) a :=
  .inr ⟨hw, .inr ⟨p, hV, .inr ⟨f, args, fun w hS => ⟨he w, hc w hS⟩⟩, h⟩⟩

end
end Go.Proofs.Ytidlifijgooceaa
