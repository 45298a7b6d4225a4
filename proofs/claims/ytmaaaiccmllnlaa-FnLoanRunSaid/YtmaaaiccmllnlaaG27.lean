import Derived.Test.YtmaaaiccmllnlaaG26
import Derived.Test.YtmaaaiccmllnlaaG06
import Derived.Test.YtmaaaiccmllnlaaG20
import Derived.Test.YtmaaaiccmllnlaaG07
set_option linter.unusedVariables false

/- Plain: which points lead to which. No program in sight. -/
namespace Go.Proofs.Ytmaaaiccmllnlaa

/-- a leads to b in one step or more -/
inductive Lds (pts : List Pt) : Nat → Nat → Prop
  | one {a b : Nat} {p : Pt} (hp : pts[a]? = some p) (hb : b ∈ p.next) : Lds pts a b
  | more {a k b : Nat} {p : Pt} (hp : pts[a]? = some p) (hk : k ∈ p.next) (h : Lds pts k b) : Lds pts a b
theorem Lds.trans {pts : List Pt} {a b c : Nat} (h : Lds pts a b) (k : Lds pts b c) : Lds pts a c := by
  induction h with
  | one hp hb => exact .more hp hb k
  | more hp hk _ ih => exact .more hp hk (ih k)
theorem Lds.snoc {pts : List Pt} {a b c : Nat} {p : Pt} (h : Lds pts a b) (hp : pts[b]? = some p) (hc : c ∈ p.next) : Lds pts a c := h.trans (.one hp hc)
theorem Lds.in_ {pts : List Pt} {a b : Nat} (h : Lds pts a b) (hn : ∀ p ∈ pts, ∀ k ∈ p.next, k < pts.length) : b < pts.length := by
  induction h with
  | one hp hb => exact hn _ (List.mem_of_getElem? hp) _ hb
  | more _ _ _ ih => exact ih

theorem getD_setT {α : Type} {l : List α} {k i : Nat} {x d : α} (hk : k < l.length) : (l.set k x).getD i d = if i = k then x else l.getD i d := by
  by_cases h : i = k
  · subst h; simp [List.getD, hk]
  · simp [List.getD, h, Ne.symm h]
theorem count_set {fl : List Bool} {k : Nat} (hk : k < fl.length) (h : fl.getD k false = false) : (fl.set k true).count false + 1 = fl.count false := by
  induction fl generalizing k with
  | nil => simp at hk
  | cons b r ih =>
    cases k with
    | zero => simp at h; subst h; simp
    | succ k =>
      have := ih (k := k) (by simpa using hk) (by simpa using h)
      cases b <;> simp <;> omega
/-- the state of the search for what a leads to: marks, and the points that are still to be looked at -/
structure FrI (pts : List Pt) (a : Nat) (fl : List Bool) (q : List Nat) : Prop where
  len : fl.length = pts.length
  snd : ∀ k, fl.getD k false = true → Lds pts a k
  qok : ∀ k ∈ q, Lds pts a k ∧ k < pts.length
  st : ∀ p, pts[a]? = some p → ∀ k ∈ p.next, fl.getD k false = true ∨ k ∈ q
  cl : ∀ k p, fl.getD k false = true → pts[k]? = some p → ∀ j ∈ p.next, fl.getD j false = true ∨ j ∈ q
def muQ (fl : List Bool) (q : List Nat) : Nat := fl.count false * 3 + q.length
theorem FrI.init {pts : List Pt} {a : Nat} {p : Pt} (hp : pts[a]? = some p) (hn : ∀ p ∈ pts, ∀ k ∈ p.next, k < pts.length) : FrI pts a (List.replicate pts.length false) p.next := by
  have h0 : ∀ k, (List.replicate pts.length false).getD k false = false := fun k => by
    by_cases hk : k < pts.length
    · rw [getD_lt (by simpa using hk)]; simp
    · rw [getD_ge (by simpa using hk)]
  refine ⟨by simp, fun k hk => ?_, fun k hk => ⟨.one hp hk, hn _ (List.mem_of_getElem? hp) _ hk⟩, fun p' hp' k hk => ?_, fun k p' hk => ?_⟩
  · rw [h0] at hk; cases hk
  · rw [hp] at hp'; injection hp' with e; subst e; exact .inr hk
  · rw [h0] at hk; cases hk
theorem FrI.skip {pts : List Pt} {a k : Nat} {fl : List Bool} {r : List Nat} (h : FrI pts a fl (k :: r)) (hk : fl.getD k false = true) : FrI pts a fl r := by
  refine ⟨h.len, h.snd, fun j hj => h.qok j (List.mem_cons_of_mem _ hj), fun p hp j hj => ?_, fun i p hi hp j hj => ?_⟩
  · rcases h.st p hp j hj with h1 | h1
    · exact .inl h1
    · rcases List.mem_cons.1 h1 with rfl | h2
      · exact .inl hk
      · exact .inr h2
  · rcases h.cl i p hi hp j hj with h1 | h1
    · exact .inl h1
    · rcases List.mem_cons.1 h1 with rfl | h2
      · exact .inl hk
      · exact .inr h2
theorem FrI.mark {pts : List Pt} {a k : Nat} {fl : List Bool} {r : List Nat} {p : Pt} (h : FrI pts a fl (k :: r)) (hp : pts[k]? = some p) (hn : ∀ p ∈ pts, ∀ k ∈ p.next, k < pts.length) : FrI pts a (fl.set k true) (r ++ p.next) := by
  have hk := h.qok k List.mem_cons_self
  have hkl : k < fl.length := by rw [h.len]; exact hk.2
  have up : ∀ j, (fl.getD j false = true ∨ j ∈ k :: r) → ((fl.set k true).getD j false = true ∨ j ∈ r ++ p.next) := fun j hj => by
    rw [getD_setT hkl]
    by_cases e : j = k
    · rw [if_pos e]; exact .inl rfl
    · rw [if_neg e]
      rcases hj with h1 | h1
      · exact .inl h1
      · rcases List.mem_cons.1 h1 with h2 | h2
        · exact absurd h2 e
        · exact .inr (List.mem_append_left _ h2)
  refine ⟨by simp [h.len], fun j hj => ?_, fun j hj => ?_, fun p' hp' j hj => up j (h.st p' hp' j hj), fun i p' hi hp' j hj => ?_⟩
  · rw [getD_setT hkl] at hj
    split at hj
    · rename_i e; subst e; exact hk.1
    · exact h.snd j hj
  · rcases List.mem_append.1 hj with h1 | h1
    · exact h.qok j (List.mem_cons_of_mem _ h1)
    · exact ⟨hk.1.snoc hp h1, hn _ (List.mem_of_getElem? hp) _ h1⟩
  · rw [getD_setT hkl] at hi
    split at hi
    · rename_i e; subst e
      rw [hp] at hp'; injection hp' with e; subst e
      exact .inr (List.mem_append_right _ hj)
    · exact up j (h.cl i p' hi hp' j hj)
theorem FrI.done {pts : List Pt} {a : Nat} {fl : List Bool} (h : FrI pts a fl []) (k : Nat) : fl.getD k false = true ↔ Lds pts a k := by
  have cl : ∀ i k, fl.getD i false = true → Lds pts i k → fl.getD k false = true := fun i k hi hl => by
    induction hl with
    | one hp hb => exact (h.cl _ _ hi hp _ hb).resolve_right (by simp)
    | more hp hk _ ih => exact ih ((h.cl _ _ hi hp _ hk).resolve_right (by simp))
  refine ⟨h.snd k, fun hl => ?_⟩
  cases hl with
  | one hp hb => exact (h.st _ hp _ hb).resolve_right (by simp)
  | more hp hk hl => exact cl _ _ ((h.st _ hp _ hk).resolve_right (by simp)) hl
theorem muQ_skip {fl : List Bool} {k : Nat} {r : List Nat} : muQ fl r < muQ fl (k :: r) := by simp [muQ]
theorem muQ_mark {fl : List Bool} {k : Nat} {r nx : List Nat} (hk : k < fl.length) (h : fl.getD k false = false) (h2 : nx.length ≤ 2) : muQ (fl.set k true) (r ++ nx) < muQ fl (k :: r) := by
  have := count_set hk h
  simp only [muQ, List.length_append, List.length_cons]; omega

end Go.Proofs.Ytmaaaiccmllnlaa

/- Plain: the state of a search whose sets are numbers of 64 bits, six for each point. No program in sight. -/
namespace Go.Proofs.Ytmaaaiccmllnlaa

def top64 : Nat := 2 ^ 64
theorem bit_lt64 {m e : Nat} (hm : m < top64) (h : m.testBit e = true) : e < 64 := by
  rcases Nat.lt_or_ge e 64 with h1 | h1
  · exact h1
  · rw [Nat.testBit_lt_two_pow (Nat.lt_of_lt_of_le hm (Nat.pow_le_pow_right (n := 2) (by omega) h1))] at h; cases h
theorem or_top {a b : Nat} (ha : a < top64) (hb : b < top64) : a ||| b < top64 := Nat.or_lt_two_pow ha hb
/-- two numbers of 64 bits whose or differs from the first: some bit is new -/
theorem or_new {a b : Nat} (ha : a < top64) (hb : b < top64) (h : a ||| b ≠ a) : ∃ e, e < 64 ∧ a.testBit e = false ∧ b.testBit e = true := by
  refine Classical.byContradiction fun hno => h ?_
  apply Nat.eq_of_testBit_eq
  intro e
  rw [Nat.testBit_or]
  cases h1 : a.testBit e
  · cases h2 : b.testBit e
    · rfl
    · exact absurd ⟨e, bit_lt64 hb h2, h1, h2⟩ hno
  · rfl
theorem or_bits {a b : Nat} : a ||| b = a ↔ ∀ e, b.testBit e = true → a.testBit e = true := by
  constructor
  · intro h e he
    rw [← h, Nat.testBit_or, he, Bool.or_true]
  · intro h
    apply Nat.eq_of_testBit_eq
    intro e
    rw [Nat.testBit_or]
    cases h2 : b.testBit e
    · simp
    · rw [h e h2]; rfl
def stF (fs : List Nat) (i v e : Nat) : Bool := decide (v < 6) && (fs.getD (i * 6 + v) 0).testBit e
structure TrI (ts : List Int) (pts : List Pt) (G : Nat → Pt → Nat → Bool) (C : Pt → Bool) (fs : List Nat) : Prop where
  len : fs.length = pts.length * 6
  small : ∀ m ∈ fs, m < top64
  snd : ∀ i v e, stF fs i v e = true → Fl ts pts G C i v e
theorem TrI.init (ts : List Int) (pts : List Pt) (G : Nat → Pt → Nat → Bool) (C : Pt → Bool) : TrI ts pts G C (List.replicate (pts.length * 6) 0) := by
  refine ⟨by simp, fun m hm => ?_, fun i v e h => ?_⟩
  · rw [(List.mem_replicate.1 hm).2]; exact Nat.two_pow_pos _
  · have h0 : (List.replicate (pts.length * 6) 0).getD (i * 6 + v) 0 = 0 := by
      by_cases hk : i * 6 + v < pts.length * 6
      · rw [getD_lt (by simpa using hk)]; simp
      · rw [getD_ge (by simpa using hk)]
    unfold stF at h
    rw [h0] at h; simp at h
theorem getD_small {fs : List Nat} (h : ∀ m ∈ fs, m < top64) (k : Nat) : fs.getD k 0 < top64 := by
  by_cases hk : k < fs.length
  · rw [getD_lt hk]; exact h _ (List.getElem_mem hk)
  · rw [getD_ge (by omega)]; exact Nat.two_pow_pos _
theorem stF_set {fs : List Nat} {k v s i u e : Nat} (hk : k * 6 + v < fs.length) (hv : v < 6) : stF (fs.set (k * 6 + v) (fs.getD (k * 6 + v) 0 ||| s)) i u e = (stF fs i u e || (decide (i = k) && decide (u = v) && s.testBit e)) := by
  unfold stF
  rw [getD_setT hk]
  by_cases hu : u < 6
  · rw [decide_eq_true hu]
    by_cases e1 : i = k
    · by_cases e2 : u = v
      · rw [if_pos (by omega), e1, e2, Nat.testBit_or]; simp
      · rw [if_neg (by omega)]; simp [e2]
    · rw [if_neg (by omega)]; simp [e1]
  · have : ¬ u = v := by omega
    simp [hu, this]
theorem TrI.upd {ts : List Int} {pts : List Pt} {G : Nat → Pt → Nat → Bool} {C : Pt → Bool} {fs : List Nat} {k v s : Nat} (h : TrI ts pts G C fs) (hk : k < pts.length) (hv : v < 6) (hs : s < top64) (hf : ∀ e, s.testBit e = true → Fl ts pts G C k v e) : TrI ts pts G C (fs.set (k * 6 + v) (fs.getD (k * 6 + v) 0 ||| s)) := by
  have hl : k * 6 + v < fs.length := by rw [h.len]; omega
  refine ⟨by simp [h.len], fun m hm => ?_, fun i u e he => ?_⟩
  · rcases List.mem_or_eq_of_mem_set hm with hm | rfl
    · exact h.small m hm
    · exact or_top (getD_small h.small _) hs
  · rw [stF_set hl hv, Bool.or_eq_true] at he
    rcases he with he | he
    · exact h.snd i u e he
    · simp only [Bool.and_eq_true, decide_eq_true_eq] at he
      obtain ⟨⟨rfl, rfl⟩, he⟩ := he
      exact hf e he
theorem TrI.mu {fs : List Nat} {n k v s : Nat} (hl : fs.length = n * 6) (hsm : ∀ m ∈ fs, m < top64) (hk : k < n) (hv : v < 6) (hs : s < top64) (hne : fs.getD (k * 6 + v) 0 ||| s ≠ fs.getD (k * 6 + v) 0) : muB n 6 64 (stF (fs.set (k * 6 + v) (fs.getD (k * 6 + v) 0 ||| s))) < muB n 6 64 (stF fs) := by
  have hkl : k * 6 + v < fs.length := by rw [hl]; omega
  obtain ⟨e, he, h0, h1⟩ := or_new (getD_small hsm _) hs hne
  refine muB_lt (i := k) (v := v) (e := e) (fun i u e h => ?_) hk hv he ?_ ?_
  · rw [stF_set hkl hv, h]; rfl
  · unfold stF; rw [decide_eq_true hv, h0]; rfl
  · rw [stF_set hkl hv, h1]; simp
/-- the sets behind a point -/
def AfL (ts : List Int) (G : Nat → Pt → Nat → Bool) (C : Pt → Bool) (i : Nat) (p : Pt) (b : Nat → Nat → Bool) (af : List Nat) : Prop := af.length = 6 ∧ ∀ v, v < 6 → af.getD v 0 < top64 ∧ ∀ e, (af.getD v 0).testBit e = aftB ts G C i p b v e
theorem AfL.snd {ts : List Int} {pts : List Pt} {G : Nat → Pt → Nat → Bool} {C : Pt → Bool} {fs af : List Nat} {i k v e : Nat} {p : Pt} (h : TrI ts pts G C fs) (ha : AfL ts G C i p (stF fs i) af) (hp : pts[i]? = some p) (hk : k ∈ p.next) (hx : setsP p.op p.x < ts.length) (hv : v < 6) (he : (af.getD v 0).testBit e = true) : Fl ts pts G C k v e := by
  rw [(ha.2 v hv).2 e] at he
  by_cases hvl : v < ts.length
  · exact Fl.aft (h.snd i) hp hk hvl he
  · unfold aftB at he
    split at he
    · rename_i hs; omega
    · rw [Bool.and_eq_true] at he
      exact absurd (h.snd i v e he.1).lt hvl
theorem afl_rest {ts : List Int} {pts : List Pt} {G : Nat → Pt → Nat → Bool} {C : Pt → Bool} {ns : List Nat} {k v tk : Nat} {p : Pt} (h : TrI ts pts G C ns) (hv : v < 6) (ht : tk.testBit v = (decide (v < ts.length) && (useP ts p.op p.x p.y (v : Nat) == 2))) (e : Nat) :
    (if tk.testBit v = true then 0 else ns.getD (k * 6 + v) 0).testBit e = (stF ns k v e && !(useP ts p.op p.x p.y (v : Nat) == 2)) := by
  have h1 : (ns.getD (k * 6 + v) 0).testBit e = stF ns k v e := by unfold stF; rw [decide_eq_true hv, Bool.true_and]
  by_cases hvl : v < ts.length
  · rw [decide_eq_true hvl, Bool.true_and] at ht
    rw [ht]
    cases hu : (useP ts p.op p.x p.y (v : Nat) == 2)
    · simp [← h1]
    · simp
  · rw [decide_eq_false hvl, Bool.false_and] at ht
    rw [ht]
    have h2 : stF ns k v e = false := by
      cases hh : stF ns k v e
      · rfl
      · exact absurd (h.snd k v e hh).lt hvl
    rw [if_neg (by simp), h1, h2]; rfl
theorem afl_lt {ts : List Int} {pts : List Pt} {G : Nat → Pt → Nat → Bool} {C : Pt → Bool} {ns : List Nat} {k v tk : Nat} (h : TrI ts pts G C ns) : (if tk.testBit v = true then 0 else ns.getD (k * 6 + v) 0) < top64 := by
  split
  · exact Nat.two_pow_pos _
  · exact getD_small h.small _
theorem AfL.neg {ts : List Int} {pts : List Pt} {G : Nat → Pt → Nat → Bool} {C : Pt → Bool} {ns af : List Nat} {k tk : Nat} {p : Pt} (h : TrI ts pts G C ns) (hl : af.length = 6) (haf : ∀ u, u < 6 → af.getD u 0 = if tk.testBit u = true then 0 else ns.getD (k * 6 + u) 0)
    (ht : ∀ u : Nat, u < 6 → tk.testBit u = (decide (u < ts.length) && (useP ts p.op p.x p.y (u : Nat) == 2))) (hs : setsP p.op p.x < 0) : AfL ts G C k p (stF ns k) af := by
  refine ⟨hl, fun v hv => ⟨?_, fun e => ?_⟩⟩
  · rw [haf v hv]; exact afl_lt h
  · rw [haf v hv, afl_rest h hv (ht v hv)]
    unfold aftB
    rw [if_neg (by omega)]
theorem AfL.pos {ts : List Int} {pts : List Pt} {G : Nat → Pt → Nat → Bool} {C : Pt → Bool} {ns af fv : List Nat} {k tk x s : Nat} {p : Pt} (h : TrI ts pts G C ns) (hl : af.length = 6) (haf : ∀ u, u < 6 → af.getD u 0 = if tk.testBit u = true then 0 else ns.getD (k * 6 + u) 0)
    (ht : ∀ u : Nat, u < 6 → tk.testBit u = (decide (u < ts.length) && (useP ts p.op p.x p.y (u : Nat) == 2))) (hs : setsP p.op p.x = (x : Int)) (hx : x < 6) (hs64 : s < top64) (hfl : fv.length = 6) (hfv : ∀ u, u < 6 → fv.getD u 0 = ns.getD (k * 6 + u) 0)
    (hsb : ∀ e, s.testBit e = (G k p e || (C p && (fv.getD p.y.toNat 0).testBit e))) : AfL ts G C k p (stF ns k) (af.set x s) := by
  refine ⟨by simp [hl], fun v hv => ?_⟩
  rw [getD_setT (by omega)]
  by_cases e1 : v = x
  · rw [if_pos e1]
    refine ⟨hs64, fun e => ?_⟩
    unfold aftB
    rw [if_pos (by omega), hsb e]
    unfold stF
    by_cases hy : p.y.toNat < 6
    · rw [decide_eq_true hy, Bool.true_and, hfv _ hy]
    · rw [decide_eq_false hy, Bool.false_and, getD_ge (by omega)]; simp
  · rw [if_neg e1]
    refine ⟨?_, fun e => ?_⟩
    · rw [haf v hv]; exact afl_lt h
    · rw [haf v hv, afl_rest h hv (ht v hv)]
      unfold aftB
      rw [if_neg (by omega)]
/-- along all edges of point i nothing is missing -/
def ClT (ts : List Int) (pts : List Pt) (G : Nat → Pt → Nat → Bool) (C : Pt → Bool) (fs : List Nat) (i : Nat) : Prop :=
  ∀ p, pts[i]? = some p → ∀ k ∈ p.next, ∀ v, v < 6 → ∀ e, aftB ts G C i p (stF fs i) v e = true → stF fs k v e = true
theorem TrI.done {ts : List Int} {pts : List Pt} {G : Nat → Pt → Nat → Bool} {C : Pt → Bool} {fs : List Nat} (h : TrI ts pts G C fs) (h6 : ts.length ≤ 6) (hg : ∀ i p e, pts[i]? = some p → G i p e = true → e < 64) (hc : ∀ i, i < pts.length → ClT ts pts G C fs i) (i v e : Nat) : stF fs i v e = true ↔ Fl ts pts G C i v e := by
  refine ⟨h.snd i v e, fun hf => Fl.done (s := 64) (st := stF fs) hg (fun i p k v e hp hk hv _ ha => ?_) hf⟩
  refine hc i ?_ p hp k hk v (by omega) e ha
  rcases Nat.lt_or_ge i pts.length with h | h
  · exact h
  · rw [List.getElem?_eq_none h] at hp; cases hp

end Go.Proofs.Ytmaaaiccmllnlaa

/- Plain: the state of a search whose sets are rows of bools, one for each point and variable. No program in sight. -/
namespace Go.Proofs.Ytmaaaiccmllnlaa

def get3 (R : List (List (List Bool))) (i v e : Nat) : Bool := rget (R.getD i []) v e
structure RwI (ts : List Int) (pts : List Pt) (G : Nat → Pt → Nat → Bool) (C : Pt → Bool) (s : Nat) (R : List (List (List Bool))) : Prop where
  len : R.length = pts.length
  row : ∀ i, i < R.length → (R.getD i []).length = ts.length
  inn : ∀ i v, i < R.length → v < ts.length → ((R.getD i []).getD v []).length = s
  snd : ∀ i v e, get3 R i v e = true → Fl ts pts G C i v e
theorem RwI.init (ts : List Int) (pts : List Pt) (G : Nat → Pt → Nat → Bool) (C : Pt → Bool) (s : Nat) : RwI ts pts G C s (List.replicate pts.length (List.replicate ts.length (List.replicate s false))) := by
  have h1 : ∀ i, i < pts.length → (List.replicate pts.length (List.replicate ts.length (List.replicate s false))).getD i [] = List.replicate ts.length (List.replicate s false) := fun i hi => by
    rw [getD_lt (by simpa using hi)]; simp
  have h2 : ∀ v, v < ts.length → (List.replicate ts.length (List.replicate s false)).getD v [] = List.replicate s false := fun v hv => by
    rw [getD_lt (by simpa using hv)]; simp
  refine ⟨by simp, fun i hi => by rw [h1 i (by simpa using hi)]; simp, fun i v hi hv => by rw [h1 i (by simpa using hi), h2 v hv]; simp, fun i v e h => ?_⟩
  unfold get3 rget at h
  by_cases hi : i < pts.length
  · rw [h1 i hi] at h
    by_cases hv : v < ts.length
    · rw [h2 v hv] at h
      by_cases he : e < s
      · rw [getD_lt (by simpa using he)] at h; simp at h
      · rw [getD_ge (by simpa using he)] at h; cases h
    · rw [getD_ge (l := List.replicate ts.length (List.replicate s false)) (by simpa using hv)] at h; simp at h
  · rw [getD_ge (l := List.replicate pts.length _) (by simpa using hi)] at h; simp at h
/-- the rows r' are the rows r and what af has -/
structure Mrg (m s : Nat) (r af r' : List (List Bool)) : Prop where
  len : r'.length = m
  inn : ∀ v, v < m → (r'.getD v []).length = s
  get : ∀ v e, v < m → e < s → rget r' v e = (rget r v e || rget af v e)
theorem rget_out {m s : Nat} {r : List (List Bool)} (hl : r.length = m) (hi : ∀ v, v < m → (r.getD v []).length = s) {v e : Nat} (h : rget r v e = true) : v < m ∧ e < s := by
  unfold rget at h
  rcases Nat.lt_or_ge v m with hv | hv
  · refine ⟨hv, ?_⟩
    rcases Nat.lt_or_ge e s with he | he
    · exact he
    · rw [getD_ge (l := r.getD v []) (by rw [hi v hv]; exact he)] at h; cases h
  · rw [getD_ge (l := r) (by omega)] at h; simp at h
theorem RwI.upd {ts : List Int} {pts : List Pt} {G : Nat → Pt → Nat → Bool} {C : Pt → Bool} {s n : Nat} {R : List (List (List Bool))} {af r' : List (List Bool)} (h : RwI ts pts G C s R) (hn : n < R.length) (hm : Mrg ts.length s (R.getD n []) af r')
    (ha : ∀ v e, v < ts.length → e < s → rget af v e = true → Fl ts pts G C n v e) : RwI ts pts G C s (R.set n r') := by
  refine ⟨by rw [List.length_set]; exact h.len, fun i hi => ?_, fun i v hi hv => ?_, fun i v e he => ?_⟩
  · rw [List.length_set] at hi
    rw [getD_setT hn]; split
    · exact hm.len
    · exact h.row i hi
  · rw [List.length_set] at hi
    rw [getD_setT hn]; split
    · exact hm.inn v hv
    · exact h.inn i v hi hv
  · unfold get3 at he
    rw [getD_setT hn] at he
    split at he
    · rename_i e1; subst e1
      have ho := rget_out hm.len hm.inn he
      rw [hm.get v e ho.1 ho.2, Bool.or_eq_true] at he
      rcases he with he | he
      · exact h.snd i v e he
      · exact ha v e ho.1 ho.2 he
    · exact h.snd i v e he
theorem get3_up {ts : List Int} {pts : List Pt} {G : Nat → Pt → Nat → Bool} {C : Pt → Bool} {s n : Nat} {R : List (List (List Bool))} {af r' : List (List Bool)} (h : RwI ts pts G C s R) (hn : n < R.length) (hm : Mrg ts.length s (R.getD n []) af r') (i v e : Nat) (he : get3 R i v e = true) : get3 (R.set n r') i v e = true := by
  unfold get3 at *
  rw [getD_setT hn]
  split
  · rename_i e1; subst e1
    have ho := rget_out (h.row i hn) (h.inn i · hn) he
    rw [hm.get v e ho.1 ho.2, he]; rfl
  · exact he
theorem RwI.mu {ts : List Int} {pts : List Pt} {G : Nat → Pt → Nat → Bool} {C : Pt → Bool} {s n v e : Nat} {R : List (List (List Bool))} {af r' : List (List Bool)} (h : RwI ts pts G C s R) (hn : n < R.length) (hm : Mrg ts.length s (R.getD n []) af r')
    (hv : v < ts.length) (he : e < s) (h0 : rget (R.getD n []) v e = false) (h1 : rget af v e = true) : muB pts.length ts.length s (get3 (R.set n r')) < muB pts.length ts.length s (get3 R) := by
  refine muB_lt (i := n) (v := v) (e := e) (fun i u f hf => get3_up h hn hm i u f hf) (by rw [← h.len]; exact hn) hv he h0 ?_
  unfold get3
  rw [getD_setT hn, if_pos rfl, hm.get v e hv he, h1, Bool.or_true]
/-- the rows behind a point -/
structure AfR (ts : List Int) (G : Nat → Pt → Nat → Bool) (C : Pt → Bool) (s i : Nat) (p : Pt) (r af : List (List Bool)) : Prop where
  len : af.length = ts.length
  inn : ∀ v, v < ts.length → (af.getD v []).length = s
  get : ∀ v e, v < ts.length → e < s → rget af v e = aftB ts G C i p (rget r) v e
theorem AfR.snd {ts : List Int} {pts : List Pt} {G : Nat → Pt → Nat → Bool} {C : Pt → Bool} {s i k v e : Nat} {p : Pt} {R : List (List (List Bool))} {af : List (List Bool)} (h : RwI ts pts G C s R) (ha : AfR ts G C s i p (R.getD i []) af) (hp : pts[i]? = some p) (hk : k ∈ p.next) (hv : v < ts.length) (he : e < s) (hh : rget af v e = true) : Fl ts pts G C k v e := by
  rw [ha.get v e hv he] at hh
  exact Fl.aft (fun u f hf => h.snd i u f hf) hp hk hv hh
/-- along the edge from i (p) to k nothing is missing in R -/
def ClE (ts : List Int) (G : Nat → Pt → Nat → Bool) (C : Pt → Bool) (s : Nat) (R : List (List (List Bool))) (i : Nat) (p : Pt) (k : Nat) : Prop := ∀ v e, v < ts.length → e < s → aftB ts G C i p (rget (R.getD i [])) v e = true → get3 R k v e = true
def ClR (ts : List Int) (pts : List Pt) (G : Nat → Pt → Nat → Bool) (C : Pt → Bool) (s : Nat) (R : List (List (List Bool))) (i : Nat) : Prop := ∀ p, pts[i]? = some p → ∀ k ∈ p.next, ClE ts G C s R i p k
theorem RwI.done {ts : List Int} {pts : List Pt} {G : Nat → Pt → Nat → Bool} {C : Pt → Bool} {s : Nat} {R : List (List (List Bool))} (h : RwI ts pts G C s R) (hg : ∀ i p e, pts[i]? = some p → G i p e = true → e < s) (hc : ∀ i, i < pts.length → ClR ts pts G C s R i) (i v e : Nat) : get3 R i v e = true ↔ Fl ts pts G C i v e := by
  refine ⟨h.snd i v e, fun hf => Fl.done (s := s) (st := get3 R) hg (fun i p k v e hp hk hv he ha => ?_) hf⟩
  refine hc i ?_ p hp k hk v e hv he ha
  rcases Nat.lt_or_ge i pts.length with h | h
  · exact h
  · rw [List.getElem?_eq_none h] at hp; cases hp

end Go.Proofs.Ytmaaaiccmllnlaa

/- Words for rows of bools that are read, that a call owns, and that stand in rows of rows. -/
namespace Go.Proofs.Ytmaaaiccmllnlaa
open Go.RowKit

/-- only blocks in S have turned -/
structure Onl (S : Nat → Prop) (w w' : World) : Prop where
  os : w'.os = w.os
  tape : w'.tape = w.tape
  output : w'.output = w.output
  size : w.heap.size ≤ w'.heap.size
  block : ∀ k, k < w.heap.size → ¬ S k → w'.heap[k]? = w.heap[k]?
theorem Onl.refl (S : Nat → Prop) (w : World) : Onl S w w := ⟨rfl, rfl, rfl, Nat.le_refl _, fun _ _ _ => rfl⟩
theorem Onl.trans {S : Nat → Prop} {a b c : World} (h : Onl S a b) (k : Onl S b c) : Onl S a c :=
  ⟨k.os.trans h.os, k.tape.trans h.tape, k.output.trans h.output, Nat.le_trans h.size k.size, fun i hi hn => (k.block i (Nat.lt_of_lt_of_le hi h.size) hn).trans (h.block i hi hn)⟩
theorem Onl.set {S : Nat → Prop} (w : World) {g : Nat} (hg : S g) (i : Nat) (u : Value) : Onl S w (w.setCell ⟨g, i, none⟩ u) :=
  ⟨rfl, rfl, rfl, by simp [World.setCell], fun k _ hn => heap_setCell_other w ⟨g, i, none⟩ k u (fun e => hn (by rw [e]; exact hg))⟩
theorem Onl.bel {S : Nat → Prop} {w w' : World} (h : Below w.heap.size w w') : Onl S w w' := ⟨h.os, h.tape, h.output, h.size, fun k hk _ => h.block k hk⟩
theorem Onl.below {S : Nat → Prop} {w w' : World} {B : Nat} (h : Onl S w w') (hB : B ≤ w.heap.size) (hS : ∀ k, S k → B ≤ k) : Below B w w' :=
  ⟨h.os, h.tape, h.output, h.size, fun k hk => h.block k (by omega) (fun hs => by have := hS k hs; omega)⟩
theorem Onl.mono {S S' : Nat → Prop} {w w' : World} (h : Onl S w w') (hs : ∀ k, S k → S' k) : Onl S' w w' := ⟨h.os, h.tape, h.output, h.size, fun k hk hn => h.block k hk fun hh => hn (hs k hh)⟩
theorem RowB.onl {S : Nat → Prop} {w w' : World} {g : Nat} {t : TypeId} {l : List Value} (h : RowB w g t l) (k : Onl S w w') (hg : ¬ S g) : RowB w' g t l := (k.block g h.lt hg).trans h
theorem own_onl {S : Nat → Prop} {w w' : World} {base e size n : Nat} {v : Value} {xs : List Value} (h : w.ownsRow base e size v n xs) (k : Onl S w w') (hg : ∀ g, v.ownBlock = some g → ¬ S g) : w'.ownsRow base e size v n xs := by
  refine ⟨h.1, ?_⟩
  rcases h.2 with h' | ⟨g, cap, cur, rfl, hb, hh, hr⟩
  · exact .inl h'
  · refine .inr ⟨g, cap, cur, rfl, hb, ?_, hr⟩
    have hlt := (h.lt g rfl).2
    exact (k.block g hlt (hg g rfl)).trans hh

/-- the slice v reads as the bools l, its block meets P -/
def BoolX (w : World) (P : Nat → Prop) (v : Value) (l : List Bool) : Prop :=
  ∃ A c, v = .slice A l.length c ∧ l.length ≤ c ∧ l.length ≤ 4194304 ∧ (0 < l.length → ∃ b off, A = some ⟨b, off, none⟩ ∧ P b ∧ b < w.heap.size ∧ ∀ j, j < l.length → w.cell? ⟨b, off + j, none⟩ = some (.bool (l.getD j false)))
theorem BoolX.frame {w w' : World} {P P' : Nat → Prop} {v : Value} {l : List Bool} (h : BoolX w P v l) (hs : w.heap.size ≤ w'.heap.size) (hk : ∀ b, P b → b < w.heap.size → P' b ∧ w'.heap[b]? = w.heap[b]?) : BoolX w' P' v l := by
  obtain ⟨A, c, e, h1, h2, h3⟩ := h
  refine ⟨A, c, e, h1, h2, fun hn => ?_⟩
  obtain ⟨b, off, e, hp, hb, hc⟩ := h3 hn
  have k := hk b hp hb
  exact ⟨b, off, e, k.1, by omega, fun j hj => (World.cell?_of_block (w := w) (a := ⟨b, off + j, none⟩) k.2).trans (hc j hj)⟩
theorem BoolX.bel {w w' : World} {P : Nat → Prop} {v : Value} {l : List Bool} (h : BoolX w P v l) (hb : Below w.heap.size w w') : BoolX w' P v l := h.frame hb.size fun b hp hl => ⟨hp, hb.block b hl⟩
theorem BoolX.imp {w : World} {P P' : Nat → Prop} {v : Value} {l : List Bool} (h : BoolX w P v l) (hp : ∀ b, P b → b < w.heap.size → P' b) : BoolX w P' v l := h.frame (Nat.le_refl _) fun b h1 h2 => ⟨hp b h1 h2, rfl⟩
theorem BoolX.toS {w : World} {P : Nat → Prop} {v : Value} {l : List Bool} (h : BoolX w P v l) : BoolS w w.heap.size v l := by
  obtain ⟨A, c, e, h1, h2, h3⟩ := h
  refine ⟨A, c, e, h1, h2, by simp, fun hn => ?_⟩
  obtain ⟨b, off, e, _, hb, hc⟩ := h3 hn
  refine ⟨b, off, e, hb, fun j u hu => ?_⟩
  have hj : j < l.length := by have := (List.getElem?_eq_some_iff.1 hu).1; simpa using this
  rw [hc j hj, ← hu, List.getElem?_map, List.getElem?_eq_getElem hj, getD_lt hj]; rfl
theorem RowB.toX {w : World} {g c : Nat} {l : List Bool} {P : Nat → Prop} (h : RowB w g 4 (bv l)) (hP : P g) (hl : l.length ≤ 4194304) (hc : l.length ≤ c) : BoolX w P (.slice (some ⟨g, 0, none⟩) l.length c) l :=
  ⟨_, _, rfl, hc, hl, fun _ => ⟨g, 0, rfl, hP, h.lt, fun j hj => by rw [Nat.zero_add, h.cell, bv_get hj]⟩⟩
theorem OBools.toX {w : World} {base : Nat} {v : Value} {l : List Bool} (h : OBools w base v l) (hl : l.length ≤ 4194304) : BoolX w (fun b => base ≤ b) v l := by
  obtain ⟨A, c, rfl, hc⟩ := h.slice
  refine ⟨A, c, rfl, hc, hl, fun hn => ?_⟩
  obtain ⟨g, e, hb, hlt, -⟩ := h.at_ hn
  subst e
  refine ⟨g, 0, rfl, hb, hlt, fun j hj => ?_⟩
  obtain ⟨g', e, -, -, -, hcj, -⟩ := h.at_ hj
  injection e with e
  injection e with e
  subst e
  rw [Nat.zero_add]; exact hcj
theorem BoolX.slice {w : World} {P : Nat → Prop} {v : Value} {l : List Bool} (h : BoolX w P v l) : ∃ A c, v = .slice A l.length c ∧ l.length ≤ c := by
  obtain ⟨A, c, e, h1, _⟩ := h
  exact ⟨A, c, e, h1⟩
theorem BoolX.at_ {w : World} {P : Nat → Prop} {A : Option Addr} {n c : Nat} {l : List Bool} (h : BoolX w P (.slice A n c) l) {k : Nat} (hk : k < l.length) : ∃ b off, A = some ⟨b, off, none⟩ ∧ P b ∧ b < w.heap.size ∧ n = l.length ∧ w.cell? ⟨b, off + k, none⟩ = some (.bool (l.getD k false)) := by
  obtain ⟨A', c', e, h1, h2, h3⟩ := h
  injection e with e1 e2 e3
  subst e1 e2
  obtain ⟨b, off, e, hp, hb, hc⟩ := h3 (by omega)
  exact ⟨b, off, e, hp, hb, rfl, hc k hk⟩

/-- the slice v reads as the rows -/
def RwX (w : World) (P : Nat → Prop) (v : Value) (rows : List (List Bool)) : Prop :=
  ∃ A c, ∃ rv : Nat → Value, v = .slice A rows.length c ∧ rows.length ≤ c ∧ (0 < rows.length → ∃ b off, A = some ⟨b, off, none⟩ ∧ P b ∧ b < w.heap.size ∧ ∀ i, i < rows.length → w.cell? ⟨b, off + i, none⟩ = some (rv i)) ∧
    ∀ i, i < rows.length → BoolX w P (rv i) (rows.getD i [])
theorem RwX.frame {w w' : World} {P P' : Nat → Prop} {v : Value} {l : List (List Bool)} (h : RwX w P v l) (hs : w.heap.size ≤ w'.heap.size) (hk : ∀ b, P b → b < w.heap.size → P' b ∧ w'.heap[b]? = w.heap[b]?) : RwX w' P' v l := by
  obtain ⟨A, c, rv, e, h1, h2, h3⟩ := h
  refine ⟨A, c, rv, e, h1, fun hn => ?_, fun i hi => (h3 i hi).frame hs hk⟩
  obtain ⟨b, off, e, hp, hb, hc⟩ := h2 hn
  have k := hk b hp hb
  exact ⟨b, off, e, k.1, by omega, fun j hj => (World.cell?_of_block (w := w) (a := ⟨b, off + j, none⟩) k.2).trans (hc j hj)⟩
theorem RwX.bel {w w' : World} {P : Nat → Prop} {v : Value} {l : List (List Bool)} (h : RwX w P v l) (hb : Below w.heap.size w w') : RwX w' P v l := h.frame hb.size fun b hp hl => ⟨hp, hb.block b hl⟩
theorem RwX.onl {S : Nat → Prop} {w w' : World} {P : Nat → Prop} {v : Value} {l : List (List Bool)} (h : RwX w P v l) (hb : Onl S w w') (hP : ∀ b, P b → ¬ S b) : RwX w' P v l := h.frame hb.size fun b hp hl => ⟨hp, hb.block b hl (hP b hp)⟩
theorem RwX.slice {w : World} {P : Nat → Prop} {v : Value} {l : List (List Bool)} (h : RwX w P v l) : ∃ A c, v = .slice A l.length c ∧ l.length ≤ c := by
  obtain ⟨A, c, rv, e, h1, _⟩ := h
  exact ⟨A, c, e, h1⟩
theorem RwX.at_ {w : World} {P : Nat → Prop} {A : Option Addr} {n c : Nat} {l : List (List Bool)} (h : RwX w P (.slice A n c) l) {i : Nat} (hi : i < l.length) :
    ∃ b off rv, A = some ⟨b, off, none⟩ ∧ P b ∧ b < w.heap.size ∧ n = l.length ∧ w.cell? ⟨b, off + i, none⟩ = some rv ∧ BoolX w P rv (l.getD i []) := by
  obtain ⟨A', c', rv, e, h1, h2, h3⟩ := h
  injection e with e1 e2 e3
  subst e1 e2
  obtain ⟨b, off, e, hp, hb, hc⟩ := h2 (by omega)
  exact ⟨b, off, rv i, e, hp, hb, rfl, hc i hi, h3 i hi⟩
theorem BRow.toX {w : World} {base m : Nat} {v : Value} {rb : List Nat} {rows : List (List Bool)} (h : BRow w base v rb m rows) (hm : ∀ i, i < rows.length → (rows.getD i []).length = m) (hm2 : m ≤ 4194304) : RwX w (fun b => base ≤ b) v rows := by
  obtain ⟨A, c, rfl, hc⟩ := h.slice
  refine ⟨A, c, fun i => .slice (some ⟨rb.getD i 0, 0, none⟩) m m, rfl, hc, fun hn => ?_, fun i hi => ?_⟩
  · obtain ⟨g, c', e, hb, hlt, -, hcell, -⟩ := h.form hn
    injection e with e1 _ e2
    subst e1 e2
    exact ⟨g, 0, rfl, hb, hlt, fun i hi => by rw [Nat.zero_add]; exact hcell i hi⟩
  · have hr := h.row i hi
    have := RowB.toX (P := fun b => base ≤ b) (c := m) hr.1 hr.2 (by rw [hm i hi]; exact hm2) (by rw [hm i hi]; exact Nat.le_refl _)
    rw [hm i hi] at this
    exact this

/-- rows that a call owns, in whatever slices -/
structure ORw (w : World) (base : Nat) (v : Value) (vs : List Value) (rows : List (List Bool)) : Prop where
  own : w.ownsRow base 89 1 v rows.length vs
  len : vs.length = rows.length
  row : ∀ i, i < rows.length → OBools w base (vs.getD i (.slice none 0 0)) (rows.getD i [])
theorem ORw.empty (w : World) (base : Nat) (hb : base ≤ w.heap.size) : ORw (w.alloc (.cells #[] 89)) base (.slice (some ⟨w.heap.size, 0, none⟩) 0 0) [] [] :=
  ⟨World.ownsRow_lit (base := base) (e := 89) (size := 1) w #[] 0 hb (by simp [maxLen]) rfl, rfl, fun i h => by simp at h⟩
theorem ORw.slice {w : World} {base : Nat} {v : Value} {vs : List Value} {l : List (List Bool)} (h : ORw w base v vs l) : ∃ A c, v = .slice A l.length c ∧ l.length ≤ c := by
  rcases h.own.2 with ⟨rfl, h0⟩ | ⟨g, cap, cur, rfl, _, _, hc, _⟩
  · exact ⟨none, 0, by rw [h0], by omega⟩
  · exact ⟨_, cap, rfl, hc⟩
theorem ORw.bel {w w' : World} {base : Nat} {v : Value} {vs : List Value} {l : List (List Bool)} (h : ORw w base v vs l) (hb : Below w.heap.size w w') : ORw w' base v vs l :=
  ⟨h.own.kept (grown_bel hb (Nat.le_refl _) none) (by cases v.ownBlock <;> simp), h.len, fun i hi => (h.row i hi).bel hb⟩
theorem ORw.at_ {w : World} {base : Nat} {A : Option Addr} {n c : Nat} {vs : List Value} {l : List (List Bool)} (h : ORw w base (.slice A n c) vs l) {k : Nat} (hk : k < l.length) :
    ∃ g, A = some ⟨g, 0, none⟩ ∧ base ≤ g ∧ g < w.heap.size ∧ n = l.length ∧ w.cell? ⟨g, k, none⟩ = some (vs.getD k (.slice none 0 0)) ∧ w.frozen? ⟨g, k, none⟩ = false := by
  obtain ⟨A', c', e, _⟩ := h.slice
  injection e with _ e2 _
  subst e2
  obtain ⟨g, cap, e, hb, hlt⟩ := World.ownsRow.form h.own (by omega)
  injection e with e1 _ e3
  subst e1 e3
  refine ⟨g, rfl, hb, hlt, rfl, ?_, h.own.frozenAt k⟩
  have hkl : k < vs.length := by rw [h.len]; exact hk
  rw [h.own.cellAt k (by omega), List.getElem?_eq_getElem hkl, getD_lt hkl]
theorem ORw.set {w : World} {base g n c k : Nat} {vs : List Value} {l : List (List Bool)} {x : Value} {r : List Bool} (h : ORw w base (.slice (some ⟨g, 0, none⟩) n c) vs l) (hk : k < l.length) (hx : OBools w base x r) : ORw (w.setCell ⟨g, k, none⟩ x) base (.slice (some ⟨g, 0, none⟩) n c) (vs.set k x) (l.set k r) := by
  have hn : n = l.length := by
    obtain ⟨A, c', e, _⟩ := h.slice
    injection e
  subst hn
  have h1 := World.ownsRow.stored h.own k x
  have hev := Evo.grown (T := 89) h.own h1.2
  have hkeep : ∀ {v : Value} {r : List Bool}, OBools w base v r → OBools (w.setCell ⟨g, k, none⟩ x) base v r := fun hv => hev.own hv (by decide)
  refine ⟨by rw [List.length_set]; exact h1.1, by rw [List.length_set, List.length_set, h.len], fun i hi => ?_⟩
  rw [List.length_set] at hi
  rw [getD_setT (by rw [h.len]; exact hk), getD_setT hk]
  by_cases e : i = k
  · rw [if_pos e, if_pos e]; exact hkeep hx
  · rw [if_neg e, if_neg e]; exact hkeep (h.row i hi)
theorem ORw.toX {w : World} {base : Nat} {v : Value} {vs : List Value} {rows : List (List Bool)} (h : ORw w base v vs rows) (hl : ∀ i, i < rows.length → (rows.getD i []).length ≤ 4194304) : RwX w (fun b => base ≤ b) v rows := by
  obtain ⟨A, c, rfl, hc⟩ := h.slice
  refine ⟨A, c, fun i => vs.getD i (.slice none 0 0), rfl, hc, fun hn => ?_, fun i hi => (h.row i hi).toX (hl i hi)⟩
  obtain ⟨g, e, hb, hlt, -⟩ := h.at_ hn
  subst e
  refine ⟨g, 0, rfl, hb, hlt, fun i hi => ?_⟩
  obtain ⟨g', e, -, -, -, hcell, -⟩ := h.at_ hi
  injection e with e
  injection e with e
  subst e
  rw [Nat.zero_add]; exact hcell
/-- append(out, x), x a row of the call's own -/
theorem wpList_push_orw {ops : Array Oper} {rest : List Oper} {o : Oper} {a : Act} {Q : Exit → Act → World → Prop} {w : World} {base : Nat} {vo : Value} {vs : List Value} {rows : List (List Bool)} (hgd : o.guard = none) (s x : Operand)
    (ho : o.op = .call { callee := .builtin .append, args := #[s, x], argTypes := #[90, 90] })
    (hP : ORw w base vo vs rows) (hb : base ≤ w.heap.size) (hn : rows.length + 1 ≤ 100000) (xv : Value) (r : List Bool) (hr : OBools w base xv r)
    (hs : a.eval s = vo) (hx : a.eval x = .slice (some ⟨w.heap.size, 0, none⟩) 1 1)
    (h : ∀ v' w', ORw w' base v' (vs ++ [xv]) (rows ++ [r]) → Below base w w' → wpList Try.prog ops Q rest (a.put o.dst v') w') :
    wpList Try.prog ops Q (o :: rest) a (w.alloc (.cells #[xv] 89)) := by
  obtain ⟨i0, hi0, hz0, hz1, hz2⟩ := info_parts Try.infoBs
  have hown := World.ownsRow.alloc hP.own (.cells #[xv] 89)
  have hr1 := heap_alloc_new w (.cells #[xv] 89)
  have hx1 : xv.oneCell' = true := by obtain ⟨A, c, rfl, _⟩ := hr.slice; rfl
  refine wpList_append_own_at _ hgd s x 90 ho base 89 i0 _ 1 24 Try.underlying90 hi0 hz0 hz1 hz2 rfl (by omega) vo rows.length _ hs hown ⟨w.heap.size, 0, none⟩ 1 1 [xv] hx rfl ?_ ?_ (by simp only [maxLen]; omega) (by omega) (by simp; omega) ?_
  · intro j u hu
    have hj : j = 0 := by
      rcases Nat.eq_zero_or_pos j with h | h
      · exact h
      · rw [List.getElem?_eq_none (by simp; omega)] at hu; cases hu
    subst hj
    have : (w.alloc (.cells #[xv] 89)).cell? ⟨w.heap.size, 0, none⟩ = some u := by
      rw [cell_of_row _ _ _ _ _ _ hr1]; simpa using hu
    simpa [Addr.add] using this
  · intro u hu
    simp at hu
    subst hu; exact hx1
  · intro v' w' k1 k2 k3 k4
    have hev := Evo.grown (T := 89) hown k2
    have hkeep : ∀ {v : Value} {r : List Bool}, OBools w base v r → OBools w' base v r := fun hv => hev.own (hv.bel (bel_a w _)) (by decide)
    refine h v' w' ⟨by rw [List.length_append]; exact k1, by simp [hP.len], fun i hi => ?_⟩ (((bel_a w _).mono hb).trans (hev.below (by simp; omega)))
    by_cases hil : i < rows.length
    · have e1 : (vs ++ [xv]).getD i (.slice none 0 0) = vs.getD i (.slice none 0 0) := by
        rw [getD_lt (by simp [hP.len]; omega), List.getElem_append_left (by rw [hP.len]; exact hil), getD_lt (by rw [hP.len]; exact hil)]
      have e2 : (rows ++ [r]).getD i [] = rows.getD i [] := by
        rw [getD_lt hi, List.getElem_append_left hil, getD_lt hil]
      rw [e1, e2]
      exact hkeep (hP.row i hil)
    · have hie : i = rows.length := by simp at hi; omega
      subst hie
      have e1 : (vs ++ [xv]).getD rows.length (.slice none 0 0) = xv := by rw [← hP.len]; simp [List.getD]
      have e2 : (rows ++ [r]).getD rows.length [] = r := by simp [List.getD]
      rw [e1, e2]
      exact hkeep hr

end Go.Proofs.Ytmaaaiccmllnlaa

/- Words on uint64; impl.loanBits. -/
namespace Go.Proofs.Ytmaaaiccmllnlaa
open Go.RowKit

/-- sets as uint64 -/
def uv (ms : List Nat) : List Value := ms.map fun m => .int .u64 (m : Nat)
theorem uv_len (ms : List Nat) : (uv ms).length = ms.length := by simp [uv]
theorem uv_get {ms : List Nat} {k : Nat} (hk : k < ms.length) : (uv ms)[k]? = some (.int .u64 (ms.getD k 0 : Nat)) := by
  rw [List.getElem?_eq_getElem (by rw [uv_len]; exact hk), getD_lt hk]; simp [uv]
theorem uv_set (ms : List Nat) (k m : Nat) : (uv ms).set k (.int .u64 (m : Nat)) = uv (ms.set k m) := by simp [uv, List.map_set]
theorem top_eq : top64 = 18446744073709551616 := by unfold top64; decide
theorem or_u64 {a b : Nat} (ha : a < top64) (hb : b < top64) : bits .or .u64 (a : Int) (b : Int) = ((a ||| b : Nat) : Int) := u64_or_nat a b (by rw [top_eq] at ha; exact ha) (by rw [top_eq] at hb; exact hb)
theorem and_u64 {a b : Nat} (ha : a < top64) (hb : b < top64) : bits .and .u64 (a : Int) (b : Int) = ((a &&& b : Nat) : Int) := u64_and_nat a b (by rw [top_eq] at ha; exact ha) (by rw [top_eq] at hb; exact hb)
theorem wrap_u64 {m : Nat} (hm : m < top64) : IntKind.u64.wrap (m : Int) = (m : Int) := by
  rw [top_eq] at hm
  simp only [IntKind.wrap, IntKind.bits, IntKind.signed]
  simp; omega
theorem pow_u64 {k : Nat} (hk : k ≤ 63) : IntKind.u64.wrap (2 ^ k) = ((2 ^ k : Nat) : Int) := by
  have h : 2 ^ k < top64 := Nat.pow_lt_pow_right (by omega) (by omega)
  rw [← wrap_u64 h]; simp
theorem bit_u64 {m k : Nat} (hm : m < top64) : (bits .and .u64 ((m : Int) / 2 ^ k) 1 == 1) = m.testBit k := by
  have h1 := and_u64 (a := m / 2 ^ k) (b := 1) (Nat.lt_of_le_of_lt (Nat.div_le_self _ _) hm) (by rw [top_eq]; decide)
  have h2 : ((m : Int) / 2 ^ k) = ((m / 2 ^ k : Nat) : Int) := by simp
  rw [Nat.and_one_is_mod] at h1
  rw [h2, show bits .and .u64 ((m / 2 ^ k : Nat) : Int) 1 = ((m / 2 ^ k % 2 : Nat) : Int) from h1, Nat.testBit_eq_decide_div_mod_eq, Bool.eq_iff_iff]
  simp only [beq_iff_eq, decide_eq_true_eq]
  omega
theorem pow_bit (k e : Nat) : (2 ^ k).testBit e = (e == k) := by
  rw [Nat.testBit_two_pow, Bool.eq_iff_iff]; simp; exact eq_comm

set_option maxHeartbeats 1000000 in
theorem loanBits_any (m : Nat) (hm : m < top64) (w : World) :
    Calls Try.prog 67 #[.int .u64 (m : Nat)] w (IntsRet w (lst 64 m.testBit)) := by
  have HM := Lib.hid hm
  go_enter Try.func67, Try.ntmps67
  go_wp2_with fail
  go_loopw [3, 5] (fun v i wr => ∃ (k : Nat) (o : List Int), k ≤ 64 ∧ i = .int .i64 k ∧ o = lst k m.testBit ∧ OInts wr w.heap.size v o ∧ Below w.heap.size w wr) (fun _ i _ => 64 - (intOf i).toNat)
  case atStart => exact ⟨0, [], by omega, rfl, rfl, OInts.nil w _, Below.refl _ _⟩
  case round =>
    obtain ⟨k, o, hk, rfl, ho, hP, hb⟩ := hrel
    have hol : o.length ≤ k := by rw [ho]; exact lst_len _ _
    have HO := Lib.hid ho
    clear ho
    obtain ⟨A', c', rfl, hc'⟩ := hP.slice
    by_cases hlt : k < 64
    · have hbt := bit_u64 (k := k) HM.out
      cases hx : m.testBit k
      · rw [hx] at hbt
        have HX := Lib.hid hx
        clear hx
        go_wp2_with (at_builtin; fail)
        exact ⟨⟨k + 1, o, by omega, by go_num, by rw [lst_succ_false HX.out]; exact HO.out, hP, hb⟩, by simp [intOf]; omega⟩
      · rw [hx] at hbt
        have HX := Lib.hid hx
        clear hx
        go_wp2_with (at_builtin; go_must (refine wpList_push_int rfl (.tmp 13) (.tmp 15) rfl hP hb.size (by omega) _ rfl rfl ?_); intro v' w' hP' hE')
        exact ⟨⟨k + 1, _, by omega, by go_num, by rw [lst_succ_true HX.out, HO.out], hP', hb.trans ((((Evo.alloc w.heap.size 3 _ _).trans hE').below hb.size))⟩, by simp [intOf]; omega⟩
    · have hkl : k = 64 := by omega
      subst hkl
      go_wp2_with (at_builtin; fail)
      go_ret
      refine ⟨_, rfl, ?_, hb⟩
      rw [← HO.out]
      exact hP.toS (by omega)

end Go.Proofs.Ytmaaaiccmllnlaa
