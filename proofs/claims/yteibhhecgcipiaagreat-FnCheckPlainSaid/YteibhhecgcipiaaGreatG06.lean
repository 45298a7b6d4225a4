import Derived.Test.YteibhhecgcipiaaGreatG01
import Derived.Test.YteibhhecgcipiaaGreatG05
import Derived.Deep.RegionHeld3
set_option linter.unusedVariables false

/- Words for rows that a call makes: ints, bools. -/
namespace Go.Proofs.YteibhhecgcipiaaGreat
open Go.RowKit

/-- an owned row of ints -/
def OInts (w : World) (base : Nat) (v : Value) (l : List Int) : Prop := w.ownsRow base 3 1 v l.length (l.map (.int .i64))
theorem OInts.nil (w : World) (base : Nat) : OInts w base (.slice none 0 0) [] := World.ownsRow_nil _ _ _ _
theorem OInts.empty (w : World) (base : Nat) (hb : base ≤ w.heap.size) : OInts (w.alloc (.cells #[] 3)) base (.slice (some ⟨w.heap.size, 0, none⟩) 0 0) [] :=
  World.ownsRow_lit (base := base) (e := 3) (size := 1) w #[] 0 hb (by simp [maxLen]) rfl
theorem OInts.slice {w : World} {base : Nat} {v : Value} {l : List Int} (h : OInts w base v l) : ∃ A c, v = .slice A l.length c ∧ l.length ≤ c := by
  rcases h.2 with ⟨rfl, h0⟩ | ⟨g, cap, cur, rfl, _, _, hc, _⟩
  · exact ⟨none, 0, by rw [h0], by omega⟩
  · exact ⟨_, cap, rfl, hc⟩
theorem OInts.toS {w : World} {base : Nat} {v : Value} {l : List Int} (h : OInts w base v l) (hl : l.length ≤ 4194304) : IntS w w.heap.size v l := own_ints h hl

/-- append(out, x) -/
theorem wpList_push_int {ops : Array Oper} {rest : List Oper} {o : Oper} {a : Act} {Q : Exit → Act → World → Prop} {w : World} {base : Nat} {vo : Value} {l : List Int} (hgd : o.guard = none) (s x : Operand)
    (ho : o.op = .call { callee := .builtin .append, args := #[s, x], argTypes := #[23, 23] })
    (hP : OInts w base vo l) (hb : base ≤ w.heap.size) (hn : l.length + 1 ≤ 8388608) (n : Int) (hs : a.eval s = vo) (hx : a.eval x = .slice (some ⟨w.heap.size, 0, none⟩) 1 1)
    (h : ∀ v' w', OInts w' base v' (l ++ [n]) → Evo base 3 (w.alloc (.cells #[.int .i64 n] 3)) w' → wpList Tryz.prog ops Q rest (a.put o.dst v') w') :
    wpList Tryz.prog ops Q (o :: rest) a (w.alloc (.cells #[.int .i64 n] 3)) := by
  obtain ⟨i0, hi0, hz0, hz1, hz2⟩ := info_parts Tryz.infoInt
  have hown := World.ownsRow.alloc hP (.cells #[.int .i64 n] 3)
  refine wpList_append_own_at _ hgd s x 23 ho base 3 i0 _ 1 8 Tryz.underlying23 hi0 hz0 hz1 hz2 rfl (by omega) vo l.length _ hs hown ⟨w.heap.size, 0, none⟩ 1 1 [.int .i64 n] hx rfl ?_ ?_ (by simp only [maxLen]; omega) (by omega) (by simp; omega) ?_
  · intro j u hu
    have hj : j = 0 := by
      rcases Nat.eq_zero_or_pos j with h | h
      · exact h
      · rw [List.getElem?_eq_none (by simp; omega)] at hu; cases hu
    subst hj
    have : (w.alloc (.cells #[.int .i64 n] 3)).cell? ⟨w.heap.size, 0, none⟩ = some u := by
      rw [cell_of_row _ _ _ _ _ _ (heap_alloc_new w _)]
      simpa using hu
    simpa [Addr.add] using this
  · intro u hu
    simp at hu
    subst hu; rfl
  · intro v' w' k1 k2 k3 k4
    refine h v' w' ?_ (Evo.grown hown k2)
    simpa [OInts] using k1

end Go.Proofs.YteibhhecgcipiaaGreat

/- Plain: what flows into variables along points (cells, numbers, setters, loans), as a least set. No program in sight. -/
namespace Go.Proofs.YteibhhecgcipiaaGreat

/-- the sum of f below n -/
def sumN : Nat → (Nat → Nat) → Nat
  | 0, _ => 0
  | n + 1, f => sumN n f + f n
theorem sumN_le {n : Nat} {f g : Nat → Nat} (h : ∀ i, i < n → f i ≤ g i) : sumN n f ≤ sumN n g := by
  induction n with
  | zero => exact Nat.le_refl _
  | succ n ih => have := ih fun i hi => h i (by omega); have := h n (by omega); simp only [sumN]; omega
theorem sumN_lt {n k : Nat} {f g : Nat → Nat} (h : ∀ i, i < n → f i ≤ g i) (hk : k < n) (hlt : f k < g k) : sumN n f < sumN n g := by
  induction n with
  | zero => omega
  | succ n ih =>
    have h1 := h n (by omega)
    have h2 := sumN_le (n := n) (f := f) (g := g) fun i hi => h i (by omega)
    simp only [sumN]
    by_cases e : k = n
    · subst e; omega
    · have := ih (fun i hi => h i (by omega)) (by omega); omega
/-- how many entries are no -/
def muB (n m s : Nat) (st : Nat → Nat → Nat → Bool) : Nat := sumN n fun i => sumN m fun v => sumN s fun e => if st i v e then 0 else 1
theorem one_le {a b : Bool} (h : a = true → b = true) : (if b then 0 else 1) ≤ (if a then 0 else 1) := by
  cases a <;> cases b <;> simp at h ⊢
theorem muB_lt {n m s i v e : Nat} {st st' : Nat → Nat → Nat → Bool} (h : ∀ i v e, st i v e = true → st' i v e = true) (hi : i < n) (hv : v < m) (he : e < s) (h0 : st i v e = false) (h1 : st' i v e = true) : muB n m s st' < muB n m s st :=
  sumN_lt (fun i _ => sumN_le fun v _ => sumN_le fun e _ => one_le (h i v e)) hi
    (sumN_lt (fun v _ => sumN_le fun e _ => one_le (h i v e)) hv (sumN_lt (fun e _ => one_le (h i v e)) he (by rw [h0, h1]; decide)))

/-- what v has behind point i (p), where b says what there is before it -/
def aftB (ts : List Int) (G : Nat → Pt → Nat → Bool) (C : Pt → Bool) (i : Nat) (p : Pt) (b : Nat → Nat → Bool) (v e : Nat) : Bool :=
  if setsP p.op p.x = (v : Int) then G i p e || (C p && b p.y.toNat e) else b v e && !(useP ts p.op p.x p.y (v : Int) == 2)
/-- what v has before a point -/
inductive Fl (ts : List Int) (pts : List Pt) (G : Nat → Pt → Nat → Bool) (C : Pt → Bool) : Nat → Nat → Nat → Prop
  | gen {i k v e : Nat} {p : Pt} (hp : pts[i]? = some p) (hk : k ∈ p.next) (hv : v < ts.length) (hs : setsP p.op p.x = (v : Int)) (h : G i p e = true) : Fl ts pts G C k v e
  | copy {i k v e : Nat} {p : Pt} (hp : pts[i]? = some p) (hk : k ∈ p.next) (hv : v < ts.length) (hs : setsP p.op p.x = (v : Int)) (hc : C p = true) (hi : Fl ts pts G C i p.y.toNat e) : Fl ts pts G C k v e
  | keep {i k v e : Nat} {p : Pt} (hp : pts[i]? = some p) (hk : k ∈ p.next) (hv : v < ts.length) (hs : setsP p.op p.x ≠ (v : Int)) (ht : useP ts p.op p.x p.y (v : Int) ≠ 2) (hi : Fl ts pts G C i v e) : Fl ts pts G C k v e
theorem Fl.lt {ts : List Int} {pts : List Pt} {G : Nat → Pt → Nat → Bool} {C : Pt → Bool} {i v e : Nat} (h : Fl ts pts G C i v e) : v < ts.length := by
  cases h <;> assumption
theorem Fl.size {ts : List Int} {pts : List Pt} {G : Nat → Pt → Nat → Bool} {C : Pt → Bool} {s i v e : Nat} (h : Fl ts pts G C i v e) (hg : ∀ i p e, pts[i]? = some p → G i p e = true → e < s) : e < s := by
  induction h with
  | gen hp _ _ _ h => exact hg _ _ _ hp h
  | copy _ _ _ _ _ _ ih => exact ih
  | keep _ _ _ _ _ _ ih => exact ih
/-- one step goes on being right -/
theorem Fl.aft {ts : List Int} {pts : List Pt} {G : Nat → Pt → Nat → Bool} {C : Pt → Bool} {b : Nat → Nat → Bool} {i k v e : Nat} {p : Pt} (hb : ∀ v e, b v e = true → Fl ts pts G C i v e) (hp : pts[i]? = some p) (hk : k ∈ p.next) (hv : v < ts.length) (h : aftB ts G C i p b v e = true) : Fl ts pts G C k v e := by
  unfold aftB at h
  split at h
  · rename_i hs
    rw [Bool.or_eq_true, Bool.and_eq_true] at h
    rcases h with h | ⟨hc, h⟩
    · exact .gen hp hk hv hs h
    · exact .copy hp hk hv hs hc (hb _ _ h)
  · rename_i hs
    rw [Bool.and_eq_true] at h
    exact .keep hp hk hv hs (by simpa using h.2) (hb _ _ h.1)
/-- where nothing is missing any more, all is there -/
theorem Fl.done {ts : List Int} {pts : List Pt} {G : Nat → Pt → Nat → Bool} {C : Pt → Bool} {st : Nat → Nat → Nat → Bool} {s : Nat} (hg : ∀ i p e, pts[i]? = some p → G i p e = true → e < s)
    (hc : ∀ i p k v e, pts[i]? = some p → k ∈ p.next → v < ts.length → e < s → aftB ts G C i p (st i) v e = true → st k v e = true) {i v e : Nat} (h : Fl ts pts G C i v e) : st i v e = true := by
  have hs := h.size hg
  induction h with
  | gen hp hk hv hs' h => exact hc _ _ _ _ _ hp hk hv hs (by unfold aftB; rw [if_pos hs', h]; rfl)
  | copy hp hk hv hs' hc' _ ih => exact hc _ _ _ _ _ hp hk hv hs (by unfold aftB; rw [if_pos hs', hc', ih hs]; simp)
  | keep hp hk hv hs' ht _ ih => exact hc _ _ _ _ _ hp hk hv hs (by unfold aftB; rw [if_neg hs', ih hs]; simpa using ht)

def Gcell (i : Nat) (p : Pt) (e : Nat) : Bool := p.op == 2 && e == i
def Ccell (p : Pt) : Bool := p.op == 3 || p.op == 4 || p.op == 5
def Gset (i : Nat) (_ : Pt) (e : Nat) : Bool := e == i
def Cset (_ : Pt) : Bool := false
def Gloan (i : Nat) (p : Pt) (e : Nat) : Bool := (p.op == 4 || p.op == 5) && e == i
def Cloan (ts : List Int) (p : Pt) : Bool := p.op == 3 || ((p.op == 4 || p.op == 5) && isRefP (typeOfP ts p.y))

end Go.Proofs.YteibhhecgcipiaaGreat

/- Plain: runs with choices. No program in sight. -/
namespace Go.Proofs.YteibhhecgcipiaaGreat

/-- the point that comes next, the choices that are left -/
def stepP (p : Pt) (cs : List Int) : Nat := if p.next.length = 2 then (if (cs.headD 1) % 2 = 0 then p.next.getD 0 0 else p.next.getD 1 0) else p.next.getD 0 0
def restP (p : Pt) (cs : List Int) : List Int := if p.next.length = 2 then cs.drop 1 else cs
def ptD (pts : List Pt) (k : Nat) : Pt := pts.getD k ⟨11, 0, 0, 0, []⟩
theorem ptD_get {pts : List Pt} {k : Nat} (hk : k < pts.length) : ptD pts k = pts[k] := getD_lt hk
/-- a run from a point on, with at most m points before the last one -/
def runF (pts : List Pt) : Nat → Nat → List Int → List Nat × Bool
  | 0, a, _ => if (ptD pts a).op = 11 then ([a], true) else ([], false)
  | m + 1, a, cs => if (ptD pts a).op = 11 then ([a], true) else (a :: (runF pts m (stepP (ptD pts a) cs) (restP (ptD pts a) cs)).1, (runF pts m (stepP (ptD pts a) cs) (restP (ptD pts a) cs)).2)
theorem runF_end {pts : List Pt} {m a : Nat} {cs : List Int} (h : (ptD pts a).op = 11) : runF pts m a cs = ([a], true) := by
  cases m <;> simp only [runF, h, if_true]
theorem runF_cut {pts : List Pt} {a : Nat} {cs : List Int} (h : (ptD pts a).op ≠ 11) : runF pts 0 a cs = ([], false) := by
  simp only [runF, if_neg h]
theorem runF_go {pts : List Pt} {m a : Nat} {cs : List Int} (h : (ptD pts a).op ≠ 11) : runF pts (m + 1) a cs = (a :: (runF pts m (stepP (ptD pts a) cs) (restP (ptD pts a) cs)).1, (runF pts m (stepP (ptD pts a) cs) (restP (ptD pts a) cs)).2) := by
  simp only [runF, if_neg h]
end Go.Proofs.YteibhhecgcipiaaGreat

/- Plain: which points lead to which. No program in sight. -/
namespace Go.Proofs.YteibhhecgcipiaaGreat

/-- a leads to b in one step or more -/
inductive Lds (pts : List Pt) : Nat → Nat → Prop
  | one {a b : Nat} {p : Pt} (hp : pts[a]? = some p) (hb : b ∈ p.next) : Lds pts a b
  | more {a k b : Nat} {p : Pt} (hp : pts[a]? = some p) (hk : k ∈ p.next) (h : Lds pts k b) : Lds pts a b
theorem Lds.trans {pts : List Pt} {a b c : Nat} (h : Lds pts a b) (k : Lds pts b c) : Lds pts a c := by
  induction h with
  | one hp hb => exact .more hp hb k
  | more hp hk _ ih => exact .more hp hk (ih k)
theorem Lds.snoc {pts : List Pt} {a b c : Nat} {p : Pt} (h : Lds pts a b) (hp : pts[b]? = some p) (hc : c ∈ p.next) : Lds pts a c := h.trans (.one hp hc)
theorem getD_setT {α : Type} {l : List α} {k i : Nat} {x d : α} (hk : k < l.length) : (l.set k x).getD i d = if i = k then x else l.getD i d := by
  by_cases h : i = k
  · subst h; simp [List.getD, hk]
  · simp [List.getD, h, Ne.symm h]
/-- the state of the search for what a leads to: marks, and the points that are still to be looked at -/
structure FrI (pts : List Pt) (a : Nat) (fl : List Bool) (q : List Nat) : Prop where
  len : fl.length = pts.length
  snd : ∀ k, fl.getD k false = true → Lds pts a k
  qok : ∀ k ∈ q, Lds pts a k ∧ k < pts.length
  st : ∀ p, pts[a]? = some p → ∀ k ∈ p.next, fl.getD k false = true ∨ k ∈ q
  cl : ∀ k p, fl.getD k false = true → pts[k]? = some p → ∀ j ∈ p.next, fl.getD j false = true ∨ j ∈ q
theorem FrI.init {pts : List Pt} {a : Nat} {p : Pt} (hp : pts[a]? = some p) (hn : ∀ p ∈ pts, ∀ k ∈ p.next, k < pts.length) : FrI pts a (List.replicate pts.length false) p.next := by
  have h0 : ∀ k, (List.replicate pts.length false).getD k false = false := fun k => by
    by_cases hk : k < pts.length
    · rw [getD_lt (by simpa using hk)]; simp
    · rw [getD_ge (by simpa using hk)]
  refine ⟨by simp, fun k hk => ?_, fun k hk => ⟨.one hp hk, hn _ (List.mem_of_getElem? hp) _ hk⟩, fun p' hp' k hk => ?_, fun k p' hk => ?_⟩
  · rw [h0] at hk; cases hk
  · rw [hp] at hp'; injection hp' with e; subst e; exact .inr hk
  · rw [h0] at hk; cases hk
theorem FrI.skip {pts : List Pt} {a k : Nat} {fl : List Bool} {r : List Nat} (h : FrI pts a fl (k :: r)) (hk : fl.getD k false = true) : FrI pts a fl r := by
  refine ⟨h.len, h.snd, fun j hj => h.qok j (List.mem_cons_of_mem _ hj), fun p hp j hj => ?_, fun i p hi hp j hj => ?_⟩
  · rcases h.st p hp j hj with h1 | h1
    · exact .inl h1
    · rcases List.mem_cons.1 h1 with rfl | h2
      · exact .inl hk
      · exact .inr h2
  · rcases h.cl i p hi hp j hj with h1 | h1
    · exact .inl h1
    · rcases List.mem_cons.1 h1 with rfl | h2
      · exact .inl hk
      · exact .inr h2
theorem FrI.done {pts : List Pt} {a : Nat} {fl : List Bool} (h : FrI pts a fl []) (k : Nat) : fl.getD k false = true ↔ Lds pts a k := by
  have cl : ∀ i k, fl.getD i false = true → Lds pts i k → fl.getD k false = true := fun i k hi hl => by
    induction hl with
    | one hp hb => exact (h.cl _ _ hi hp _ hb).resolve_right (by simp)
    | more hp hk _ ih => exact ih ((h.cl _ _ hi hp _ hk).resolve_right (by simp))
  refine ⟨h.snd k, fun hl => ?_⟩
  cases hl with
  | one hp hb => exact (h.st _ hp _ hb).resolve_right (by simp)
  | more hp hk hl => exact cl _ _ ((h.st _ hp _ hk).resolve_right (by simp)) hl
end Go.Proofs.YteibhhecgcipiaaGreat

/- Plain: the state of a search whose sets are numbers of 64 bits, six for each point. No program in sight. -/
namespace Go.Proofs.YteibhhecgcipiaaGreat

def top64 : Nat := 2 ^ 64
theorem bit_lt64 {m e : Nat} (hm : m < top64) (h : m.testBit e = true) : e < 64 := by
  rcases Nat.lt_or_ge e 64 with h1 | h1
  · exact h1
  · rw [Nat.testBit_lt_two_pow (Nat.lt_of_lt_of_le hm (Nat.pow_le_pow_right (n := 2) (by omega) h1))] at h; cases h
theorem or_top {a b : Nat} (ha : a < top64) (hb : b < top64) : a ||| b < top64 := Nat.or_lt_two_pow ha hb
/-- two numbers of 64 bits whose or differs from the first: some bit is new -/
theorem or_new {a b : Nat} (ha : a < top64) (hb : b < top64) (h : a ||| b ≠ a) : ∃ e, e < 64 ∧ a.testBit e = false ∧ b.testBit e = true := by
  refine Classical.byContradiction fun hno => h ?_
  apply Nat.eq_of_testBit_eq
  intro e
  rw [Nat.testBit_or]
  cases h1 : a.testBit e
  · cases h2 : b.testBit e
    · rfl
    · exact absurd ⟨e, bit_lt64 hb h2, h1, h2⟩ hno
  · rfl
theorem or_bits {a b : Nat} : a ||| b = a ↔ ∀ e, b.testBit e = true → a.testBit e = true := by
  constructor
  · intro h e he
    rw [← h, Nat.testBit_or, he, Bool.or_true]
  · intro h
    apply Nat.eq_of_testBit_eq
    intro e
    rw [Nat.testBit_or]
    cases h2 : b.testBit e
    · simp
    · rw [h e h2]; rfl
def stF (fs : List Nat) (i v e : Nat) : Bool := decide (v < 6) && (fs.getD (i * 6 + v) 0).testBit e
structure TrI (ts : List Int) (pts : List Pt) (G : Nat → Pt → Nat → Bool) (C : Pt → Bool) (fs : List Nat) : Prop where
  len : fs.length = pts.length * 6
  small : ∀ m ∈ fs, m < top64
  snd : ∀ i v e, stF fs i v e = true → Fl ts pts G C i v e
theorem TrI.init (ts : List Int) (pts : List Pt) (G : Nat → Pt → Nat → Bool) (C : Pt → Bool) : TrI ts pts G C (List.replicate (pts.length * 6) 0) := by
  refine ⟨by simp, fun m hm => ?_, fun i v e h => ?_⟩
  · rw [(List.mem_replicate.1 hm).2]; exact Nat.two_pow_pos _
  · have h0 : (List.replicate (pts.length * 6) 0).getD (i * 6 + v) 0 = 0 := by
      by_cases hk : i * 6 + v < pts.length * 6
      · rw [getD_lt (by simpa using hk)]; simp
      · rw [getD_ge (by simpa using hk)]
    unfold stF at h
    rw [h0] at h; simp at h
theorem getD_small {fs : List Nat} (h : ∀ m ∈ fs, m < top64) (k : Nat) : fs.getD k 0 < top64 := by
  by_cases hk : k < fs.length
  · rw [getD_lt hk]; exact h _ (List.getElem_mem hk)
  · rw [getD_ge (by omega)]; exact Nat.two_pow_pos _
theorem stF_set {fs : List Nat} {k v s i u e : Nat} (hk : k * 6 + v < fs.length) (hv : v < 6) : stF (fs.set (k * 6 + v) (fs.getD (k * 6 + v) 0 ||| s)) i u e = (stF fs i u e || (decide (i = k) && decide (u = v) && s.testBit e)) := by
  unfold stF
  rw [getD_setT hk]
  by_cases hu : u < 6
  · rw [decide_eq_true hu]
    by_cases e1 : i = k
    · by_cases e2 : u = v
      · rw [if_pos (by omega), e1, e2, Nat.testBit_or]; simp
      · rw [if_neg (by omega)]; simp [e2]
    · rw [if_neg (by omega)]; simp [e1]
  · have : ¬ u = v := by omega
    simp [hu, this]
theorem TrI.upd {ts : List Int} {pts : List Pt} {G : Nat → Pt → Nat → Bool} {C : Pt → Bool} {fs : List Nat} {k v s : Nat} (h : TrI ts pts G C fs) (hk : k < pts.length) (hv : v < 6) (hs : s < top64) (hf : ∀ e, s.testBit e = true → Fl ts pts G C k v e) : TrI ts pts G C (fs.set (k * 6 + v) (fs.getD (k * 6 + v) 0 ||| s)) := by
  have hl : k * 6 + v < fs.length := by rw [h.len]; omega
  refine ⟨by simp [h.len], fun m hm => ?_, fun i u e he => ?_⟩
  · rcases List.mem_or_eq_of_mem_set hm with hm | rfl
    · exact h.small m hm
    · exact or_top (getD_small h.small _) hs
  · rw [stF_set hl hv, Bool.or_eq_true] at he
    rcases he with he | he
    · exact h.snd i u e he
    · simp only [Bool.and_eq_true, decide_eq_true_eq] at he
      obtain ⟨⟨rfl, rfl⟩, he⟩ := he
      exact hf e he
theorem TrI.mu {fs : List Nat} {n k v s : Nat} (hl : fs.length = n * 6) (hsm : ∀ m ∈ fs, m < top64) (hk : k < n) (hv : v < 6) (hs : s < top64) (hne : fs.getD (k * 6 + v) 0 ||| s ≠ fs.getD (k * 6 + v) 0) : muB n 6 64 (stF (fs.set (k * 6 + v) (fs.getD (k * 6 + v) 0 ||| s))) < muB n 6 64 (stF fs) := by
  have hkl : k * 6 + v < fs.length := by rw [hl]; omega
  obtain ⟨e, he, h0, h1⟩ := or_new (getD_small hsm _) hs hne
  refine muB_lt (i := k) (v := v) (e := e) (fun i u e h => ?_) hk hv he ?_ ?_
  · rw [stF_set hkl hv, h]; rfl
  · unfold stF; rw [decide_eq_true hv, h0]; rfl
  · rw [stF_set hkl hv, h1]; simp
/-- the sets behind a point -/
def AfL (ts : List Int) (G : Nat → Pt → Nat → Bool) (C : Pt → Bool) (i : Nat) (p : Pt) (b : Nat → Nat → Bool) (af : List Nat) : Prop := af.length = 6 ∧ ∀ v, v < 6 → af.getD v 0 < top64 ∧ ∀ e, (af.getD v 0).testBit e = aftB ts G C i p b v e
theorem AfL.snd {ts : List Int} {pts : List Pt} {G : Nat → Pt → Nat → Bool} {C : Pt → Bool} {fs af : List Nat} {i k v e : Nat} {p : Pt} (h : TrI ts pts G C fs) (ha : AfL ts G C i p (stF fs i) af) (hp : pts[i]? = some p) (hk : k ∈ p.next) (hx : setsP p.op p.x < ts.length) (hv : v < 6) (he : (af.getD v 0).testBit e = true) : Fl ts pts G C k v e := by
  rw [(ha.2 v hv).2 e] at he
  by_cases hvl : v < ts.length
  · exact Fl.aft (h.snd i) hp hk hvl he
  · unfold aftB at he
    split at he
    · rename_i hs; omega
    · rw [Bool.and_eq_true] at he
      exact absurd (h.snd i v e he.1).lt hvl
theorem afl_rest {ts : List Int} {pts : List Pt} {G : Nat → Pt → Nat → Bool} {C : Pt → Bool} {ns : List Nat} {k v tk : Nat} {p : Pt} (h : TrI ts pts G C ns) (hv : v < 6) (ht : tk.testBit v = (decide (v < ts.length) && (useP ts p.op p.x p.y (v : Nat) == 2))) (e : Nat) :
    (if tk.testBit v = true then 0 else ns.getD (k * 6 + v) 0).testBit e = (stF ns k v e && !(useP ts p.op p.x p.y (v : Nat) == 2)) := by
  have h1 : (ns.getD (k * 6 + v) 0).testBit e = stF ns k v e := by unfold stF; rw [decide_eq_true hv, Bool.true_and]
  by_cases hvl : v < ts.length
  · rw [decide_eq_true hvl, Bool.true_and] at ht
    rw [ht]
    cases hu : (useP ts p.op p.x p.y (v : Nat) == 2)
    · simp [← h1]
    · simp
  · rw [decide_eq_false hvl, Bool.false_and] at ht
    rw [ht]
    have h2 : stF ns k v e = false := by
      cases hh : stF ns k v e
      · rfl
      · exact absurd (h.snd k v e hh).lt hvl
    rw [if_neg (by simp), h1, h2]; rfl
theorem afl_lt {ts : List Int} {pts : List Pt} {G : Nat → Pt → Nat → Bool} {C : Pt → Bool} {ns : List Nat} {k v tk : Nat} (h : TrI ts pts G C ns) : (if tk.testBit v = true then 0 else ns.getD (k * 6 + v) 0) < top64 := by
  split
  · exact Nat.two_pow_pos _
  · exact getD_small h.small _
theorem AfL.neg {ts : List Int} {pts : List Pt} {G : Nat → Pt → Nat → Bool} {C : Pt → Bool} {ns af : List Nat} {k tk : Nat} {p : Pt} (h : TrI ts pts G C ns) (hl : af.length = 6) (haf : ∀ u, u < 6 → af.getD u 0 = if tk.testBit u = true then 0 else ns.getD (k * 6 + u) 0)
    (ht : ∀ u : Nat, u < 6 → tk.testBit u = (decide (u < ts.length) && (useP ts p.op p.x p.y (u : Nat) == 2))) (hs : setsP p.op p.x < 0) : AfL ts G C k p (stF ns k) af := by
  refine ⟨hl, fun v hv => ⟨?_, fun e => ?_⟩⟩
  · rw [haf v hv]; exact afl_lt h
  · rw [haf v hv, afl_rest h hv (ht v hv)]
    unfold aftB
    rw [if_neg (by omega)]
theorem AfL.pos {ts : List Int} {pts : List Pt} {G : Nat → Pt → Nat → Bool} {C : Pt → Bool} {ns af fv : List Nat} {k tk x s : Nat} {p : Pt} (h : TrI ts pts G C ns) (hl : af.length = 6) (haf : ∀ u, u < 6 → af.getD u 0 = if tk.testBit u = true then 0 else ns.getD (k * 6 + u) 0)
    (ht : ∀ u : Nat, u < 6 → tk.testBit u = (decide (u < ts.length) && (useP ts p.op p.x p.y (u : Nat) == 2))) (hs : setsP p.op p.x = (x : Int)) (hx : x < 6) (hs64 : s < top64) (hfl : fv.length = 6) (hfv : ∀ u, u < 6 → fv.getD u 0 = ns.getD (k * 6 + u) 0)
    (hsb : ∀ e, s.testBit e = (G k p e || (C p && (fv.getD p.y.toNat 0).testBit e))) : AfL ts G C k p (stF ns k) (af.set x s) := by
  refine ⟨by simp [hl], fun v hv => ?_⟩
  rw [getD_setT (by omega)]
  by_cases e1 : v = x
  · rw [if_pos e1]
    refine ⟨hs64, fun e => ?_⟩
    unfold aftB
    rw [if_pos (by omega), hsb e]
    unfold stF
    by_cases hy : p.y.toNat < 6
    · rw [decide_eq_true hy, Bool.true_and, hfv _ hy]
    · rw [decide_eq_false hy, Bool.false_and, getD_ge (by omega)]; simp
  · rw [if_neg e1]
    refine ⟨?_, fun e => ?_⟩
    · rw [haf v hv]; exact afl_lt h
    · rw [haf v hv, afl_rest h hv (ht v hv)]
      unfold aftB
      rw [if_neg (by omega)]
/-- along all edges of point i nothing is missing -/
def ClT (ts : List Int) (pts : List Pt) (G : Nat → Pt → Nat → Bool) (C : Pt → Bool) (fs : List Nat) (i : Nat) : Prop :=
  ∀ p, pts[i]? = some p → ∀ k ∈ p.next, ∀ v, v < 6 → ∀ e, aftB ts G C i p (stF fs i) v e = true → stF fs k v e = true
theorem TrI.done {ts : List Int} {pts : List Pt} {G : Nat → Pt → Nat → Bool} {C : Pt → Bool} {fs : List Nat} (h : TrI ts pts G C fs) (h6 : ts.length ≤ 6) (hg : ∀ i p e, pts[i]? = some p → G i p e = true → e < 64) (hc : ∀ i, i < pts.length → ClT ts pts G C fs i) (i v e : Nat) : stF fs i v e = true ↔ Fl ts pts G C i v e := by
  refine ⟨h.snd i v e, fun hf => Fl.done (s := 64) (st := stF fs) hg (fun i p k v e hp hk hv _ ha => ?_) hf⟩
  refine hc i ?_ p hp k hk v (by omega) e ha
  rcases Nat.lt_or_ge i pts.length with h | h
  · exact h
  · rw [List.getElem?_eq_none h] at hp; cases hp

end Go.Proofs.YteibhhecgcipiaaGreat

namespace Go.Proofs.YteibhhecgcipiaaGreat
open Go.RowKit

/-- v points to a graph: types and points -/
def GrS (w : World) (B : Nat) (v : Value) (ts : List Int) (pts : List Pt) : Prop :=
  ∃ g vt vb vl, v = .pointer (some ⟨g, 0, none⟩) ∧ g < B ∧ w.cell? ⟨g, 0, none⟩ = some vt ∧ w.cell? ⟨g, 1, none⟩ = some vb ∧ w.cell? ⟨g, 2, none⟩ = some vl ∧ IntS w B vt ts ∧ PtS w B vl pts
theorem GrS.keep {w w' : World} {B : Nat} {v : Value} {ts : List Int} {pts : List Pt} (h : GrS w B v ts pts) (hk : ∀ b o, b < B → w'.cell? ⟨b, o, none⟩ = w.cell? ⟨b, o, none⟩) : GrS w' B v ts pts := by
  obtain ⟨g, vt, vb, vl, e, hg, h0, h1, h2, h3, h4⟩ := h
  exact ⟨g, vt, vb, vl, e, hg, (hk _ _ hg).trans h0, (hk _ _ hg).trans h1, (hk _ _ hg).trans h2, h3.keep hk, h4.keep hk⟩
theorem GrS.low {w w' : World} {B B' : Nat} {v : Value} {ts : List Int} {pts : List Pt} (h : GrS w B v ts pts) (hb : Below B' w w') (hB : B ≤ B') : GrS w' B v ts pts :=
  h.keep fun b o hlt => hb.cell (p := ⟨b, o, none⟩) (by show b < B'; omega)
theorem GrS.more {w : World} {B B' : Nat} {v : Value} {ts : List Int} {pts : List Pt} (h : GrS w B v ts pts) (hB : B ≤ B') : GrS w B' v ts pts := by
  obtain ⟨g, vt, vb, vl, e, hg, h0, h1, h2, h3, h4⟩ := h
  exact ⟨g, vt, vb, vl, e, by omega, h0, h1, h2, h3.more hB, h4.more hB⟩

def graphOk (ts : List Int) (l : List St) (ats : List Int) : Bool := validP ts l && ats.all (fun a => withinP a 0 ((ptsP l).length - 1))
/-- what impl.graphOf answers -/
def GraphRet (w : World) (ts : List Int) (l : List St) (ok : Bool) (e : Ending) (w' : World) : Prop :=
  ∃ v, e = .returned (.tuple #[v, .bool ok]) ∧ (ok = true → GrS w' w'.heap.size v ts (ptsP l)) ∧ Below w.heap.size w w'

/-- two cells of a box of the call's own, and all that is older: what a region holds on to -/
def Held2 (w1 : World) (g : Nat) (vt vb : Value) (w' : World) : Prop := w'.cell? ⟨g, 0, none⟩ = some vt ∧ w'.cell? ⟨g, 1, none⟩ = some vb ∧ Below w1.heap.size w1 w' ∧ g < w1.heap.size
theorem Held2.step {w1 : World} {g : Nat} {vt vb : Value} {w' w'' : World} (h : Held2 w1 g vt vb w') (hb : Below w'.heap.size w' w'') : Held2 w1 g vt vb w'' := by
  obtain ⟨h0, h1, h2, h3⟩ := h
  have hs := h2.size
  exact ⟨(hb.cell (p := ⟨g, 0, none⟩) (by show g < _; omega)).trans h0, (hb.cell (p := ⟨g, 1, none⟩) (by show g < _; omega)).trans h1, h2.trans (hb.mono hs), h3⟩

theorem Held2.bel {w1 : World} {g : Nat} {vt vb : Value} {w' : World} (h : Held2 w1 g vt vb w') : Below w1.heap.size w1 w' := h.2.2.1

set_option maxHeartbeats 1000000 in
theorem graphOf_any (vt vb va : Value) (ts : List Int) (l : List St) (ats : List Int) (B : Nat) (w : World) (ht : IntS w B vt ts) (hl : StS w B vb l) (ha : IntS w B va ats) (hB : B ≤ w.heap.size) (hsz : szL l ≤ 4194300) :
    Calls Tryz.prog 34 #[.agg #[vt, vb], va] w (GraphRet w ts l (graphOk ts l ats)) := by
  have hpos := ptsP_pos l
  have ha' := ha
  obtain ⟨A, c, rfl, hac, ham, har⟩ := ha
  cases hv : validP ts l
  · have HV := Lib.hid hv
    clear hv
    go_enter Tryz.func34, Tryz.ntmps34
    go_wp2_with fail
    refine (iProgramValid_any vt vb ts l B _ (ht.low (bel_a _ _) hB) (hl.low (bel_a _ _) hB) (by simp; omega) (by omega)).mono ?_
    rintro e w1 ⟨rfl, hb1⟩
    have hb2 := (bel_a _ _).trans (hb1.mono (by simp))
    rw [HV.out]
    go_wp2_with fail
    go_ret2
    exact ⟨_, by rw [graphOk, HV.out]; rfl, fun h => (by rw [graphOk, HV.out] at h; cases h), hb2⟩
  · have HV := Lib.hid hv
    clear hv
    go_enter Tryz.func34, Tryz.ntmps34
    go_wp2_with fail
    refine (iProgramValid_any vt vb ts l B _ (ht.low (bel_a _ _) hB) (hl.low (bel_a _ _) hB) (by simp; omega) (by omega)).mono ?_
    rintro e w1 ⟨rfl, hb1⟩
    have hc := box_kept hb1 (by simp)
    have hb2 := (bel_a _ _).trans (hb1.mono (by simp))
    have hs2 := hb2.size
    have hs1 : w.heap.size < w1.heap.size := by have := hb1.size; simp at this; omega
    have hc0 := hc 0
    have hc1 := hc 1
    simp at hc0 hc1
    rw [HV.out]
    clear hc
    go_wp2_with fail
    go_region_held3 (fun w' => w'.cell? ⟨w.heap.size, 0, none⟩ = some vt ∧ w'.cell? ⟨w.heap.size, 1, none⟩ = some vb ∧ Below w1.heap.size w1 w' ∧ w.heap.size < w1.heap.size) (first | exact ⟨hc0, hc1, (Below.refl _ _).drew, hs1⟩ | exact Held2.step (by assumption) (by assumption) | exact Held2.step (by assumption) (bel_a _ _) | go_keep)
      (first | (go_at_call 67; refine (points_any vt vb l B _ (by exact hl.low (hb2.trans ((Held2.bel (g := w.heap.size) (vt := vt) (vb := vb) (by assumption)).mono hs2)) hB) (by have := (Held2.bel (w1 := w1) (g := w.heap.size) (vt := vt) (vb := vb) (by assumption)).size; omega) hsz).mono ?_; (rintro e w2 ⟨v2, rfl, hP2, hb3⟩); (obtain ⟨A3, c3, rfl, hc3, hm3⟩ := hP2.slice)))
    have hb4 : Below w.heap.size w w2 := hb2.trans (((Below.refl _ _).drew.trans hb3).mono hs2)
    have hb5 := hb4.alloc hb4.size (.cells #[vt, vb, .slice A3 (ptsP l).length c3] 114)
    have hs4 := hb4.size
    have har5 := ha'.low hb5 hB
    have hgr : GrS (w2.alloc (.cells #[vt, vb, .slice A3 (ptsP l).length c3] 114)) (w2.alloc (.cells #[vt, vb, .slice A3 (ptsP l).length c3] 114)).heap.size (.pointer (some ⟨w2.heap.size, 0, none⟩)) ts (ptsP l) :=
      ⟨w2.heap.size, vt, vb, _, rfl, by simp, cell_of_row _ _ _ _ _ _ (heap_alloc_new w2 _), cell_of_row _ _ _ _ _ _ (heap_alloc_new w2 _), cell_of_row _ _ _ _ _ _ (heap_alloc_new w2 _),
        (ht.low hb5 hB).more (by simp; omega), (hP2.low (bel_a _ _) (Nat.le_refl _)).more (by simp)⟩
    have HGR := Lib.hid hgr
    have HB5 := Lib.hid hb5
    obtain ⟨A', c', hsl, _, _, har6⟩ := har5
    injection hsl with e1 _ e2
    subst e1 e2
    clear hb5 hgr hb4 har
    go_wp2_with fail
    go_loop [19] (fun i => ∃ k : Nat, k ≤ ats.length ∧ i = .int .i64 k ∧ ∀ x ∈ ats.take k, withinP x 0 ((ptsP l).length - 1) = true) (fun i => ats.length - (intOf i).toNat)
    case atStart => exact ⟨0, Nat.zero_le _, rfl, by simp⟩
    case round =>
      obtain ⟨k, hk, rfl, hn⟩ := hrel
      have H := Lib.hid hn
      clear hn
      by_cases hlt : k < ats.length
      · obtain ⟨b, off, rfl, hb, hcell⟩ := har6.int_at hlt
        have hck := hcell k hlt
        clear hcell
        go_wp2_with fail
        refine (within_any _ _ _ _).mono ?_
        rintro e w' ⟨rfl, rfl⟩
        cases hx : withinP ats[k] 0 ((ptsP l).length - 1)
        · have HX := Lib.hid hx
          clear hx
          go_wp2_with fail
          go_ret2
          have hno : graphOk ts l ats = false := by
            rw [graphOk, Bool.and_eq_false_iff]
            right
            rw [List.all_eq_false]
            exact ⟨ats[k], List.getElem_mem hlt, by rw [HX.out]; simp⟩
          exact ⟨_, by rw [hno]; rfl, fun h => (by rw [hno] at h; cases h), HB5.out⟩
        · have HX := Lib.hid hx
          clear hx
          go_wp2_with fail
          refine ⟨⟨k + 1, by omega, by go_num, ?_⟩, by simp [intOf]; omega⟩
          rw [take_succ_get ats k hlt]
          intro x hxm
          rcases List.mem_append.1 hxm with h | h
          · exact H.out x h
          · rw [List.mem_singleton.1 h]; exact HX.out
      · have hkl : k = ats.length := by omega
        have h := H.out
        rw [take_all hkl] at h
        have H' := Lib.hid h
        clear h hkl
        go_wp2_with fail
        go_ret2
        have hyes : graphOk ts l ats = true := by
          rw [graphOk, HV.out, Bool.true_and, List.all_eq_true]
          exact H'.out
        exact ⟨_, by rw [hyes]; rfl, fun _ => HGR.out, HB5.out⟩

end Go.Proofs.YteibhhecgcipiaaGreat

namespace Go.Proofs.YteibhhecgcipiaaGreat
open Go.RowKit

/-- a graph, opened for a walk -/
theorem GrS.open_ {w : World} {B : Nat} {v : Value} {ts : List Int} {pts : List Pt} (h : GrS w B v ts pts) :
    ∃ g At ct vb Al cl, v = .pointer (some ⟨g, 0, none⟩) ∧ g < B ∧ w.cell? ⟨g, 0, none⟩ = some (.slice At ts.length ct) ∧ w.cell? ⟨g, 1, none⟩ = some vb ∧ w.cell? ⟨g, 2, none⟩ = some (.slice Al pts.length cl) ∧
      IntS w B (.slice At ts.length ct) ts ∧ PtS w B (.slice Al pts.length cl) pts ∧ ts.length ≤ 4194304 ∧ pts.length ≤ 8388608 := by
  obtain ⟨g, vt, vb, vl, e, hg, h0, h1, h2, h3, h4⟩ := h
  have h3' := h3
  obtain ⟨At, ct, rfl, _, ht, _⟩ := h3
  obtain ⟨Al, cl, rfl, _, hp⟩ := h4.slice
  exact ⟨g, At, ct, vb, Al, cl, e, hg, h0, h1, h2, h3', h4, ht, hp⟩

set_option maxHeartbeats 400000 in
theorem takes_any (vg : Value) (ts : List Int) (pts : List Pt) (B : Nat) (v : Int) (w : World) (hg : GrS w B vg ts pts) (h0 : 0 ≤ v) (h1 : v < ts.length) :
    Calls Tryz.prog 148 #[vg, .int .i64 v] w fun e w' => e = .returned (.bool (takesP ts v)) ∧ w = w' := by
  obtain ⟨g, At, ct, vb, Al, cl, rfl, hgB, g0, g1, g2, ht, hp, htl, hpl⟩ := hg.open_
  obtain ⟨b, off, c, e, hb, hc, hm, hcell⟩ := ht.get h0 h1
  injection e with e1 _ e2
  subst e1 e2
  go_enter Tryz.func148, Tryz.ntmps148
  go_wp2
  all_goals (go_ret; exact ⟨ret_bool (by simp_all [takesP]), rfl⟩)

theorem useP_alt (ts : List Int) (op x y v : Int) : useP ts op x y v =
    if op = 3 then (if y = v then (if takesP ts v = true then 2 else 1) else 0)
    else if op = 4 ∨ op = 5 ∨ op = 6 then (if y = v then 3 else 0)
    else if op = 7 then (if x = v then 3 else if y = v then 1 else 0)
    else if op = 8 then (if x = v then 2 else 0)
    else 0 := by
  unfold useP takesP
  have e1 : (v = y) = (y = v) := propext eq_comm
  have e2 : (v = x) = (x = v) := propext eq_comm
  simp only [e1, e2, Bool.or_eq_true, beq_iff_eq]

set_option maxHeartbeats 1000000 in
theorem use_any (vg : Value) (ts : List Int) (pts : List Pt) (B : Nat) (op x y n v : Int) (nv : Value) (w : World) (hg : GrS w B vg ts pts) (hB : B ≤ w.heap.size) (h0 : 0 ≤ v) (h1 : v < ts.length) :
    Calls Tryz.prog 160 #[vg, .agg #[.int .i64 op, .int .i64 x, .int .i64 y, .int .i64 n, nv], .int .i64 v] w fun e w' => e = .returned (.int .i64 (useP ts op x y v)) ∧ Below w.heap.size w w' := by
  go_enter Tryz.func160, Tryz.ntmps160
  go_wp2_with (go_at_call 148; go_must (refine (takes_any _ ts pts B _ _ (hg.low (bel_a _ _) hB) (by omega) (by omega)).mono ?_); rintro e w' ⟨rfl, rfl⟩)
  all_goals (go_ret; refine ⟨ret_int ?_, bel_a _ _⟩; rw [useP_alt]; simp_all)

end Go.Proofs.YteibhhecgcipiaaGreat

namespace Go.Proofs.YteibhhecgcipiaaGreat
open Go.RowKit

/-- the variables that a point uses in one of these ways -/
def whichP (ts uses : List Int) (op x y : Int) : Nat := bm ts.length (fun v => hasP uses (useP ts op x y (v : Nat)))

set_option maxHeartbeats 1000000 in
theorem which_any (vg vu : Value) (ts uses : List Int) (pts : List Pt) (B : Nat) (op x y n : Int) (nv : Value) (w : World) (hg : GrS w B vg ts pts) (hu : IntS w B vu uses) (hB : B ≤ w.heap.size) (h6 : ts.length ≤ 6) :
    Calls Tryz.prog 119 #[vg, .agg #[.int .i64 op, .int .i64 x, .int .i64 y, .int .i64 n, nv], vu] w fun e w' => e = .returned (.int .i64 (whichP ts uses op x y : Nat)) ∧ Below w.heap.size w w' := by
  have HG := Lib.hid hg
  obtain ⟨g, At, ct, vb, Al, cl, rfl, hgB, g0, g1, g2, ht, hp, htl, hpl⟩ := hg.open_
  have g0' : ∀ o, (w.alloc o).cell? ⟨g, 0, none⟩ = some (.slice At ts.length ct) := fun o => (World.cell?_alloc_past _ _ _ (by omega)).trans g0
  go_enter Tryz.func119, Tryz.ntmps119
  go_wp2_with fail
  go_loopw [7, 15] (fun s i wr => ∃ k : Nat, k ≤ ts.length ∧ i = .int .i64 k ∧ s = .int .i64 (bm k (fun v => hasP uses (useP ts op x y (v : Nat))) : Nat) ∧ Below (w.alloc (.cells #[.int .i64 op, .int .i64 x, .int .i64 y, .int .i64 n, nv] 76)).heap.size (w.alloc (.cells #[.int .i64 op, .int .i64 x, .int .i64 y, .int .i64 n, nv] 76)) wr) (fun _ i _ => ts.length - (intOf i).toNat)
  case atStart => exact ⟨0, Nat.zero_le _, rfl, rfl, Below.refl _ _⟩
  case round =>
    obtain ⟨k, hk, rfl, rfl, hb1⟩ := hrel
    have hc := box_kept hb1 (by simp)
    have hb2 := (bel_a _ _).trans (hb1.mono (by simp))
    have hs2 := hb2.size
    by_cases hlt : k < ts.length
    · have hc0 := hc 0
      have hc1 := hc 1
      have hc2 := hc 2
      have hc3 := hc 3
      have hc4 := hc 4
      simp at hc0 hc1 hc2 hc3 hc4
      clear hc
      have hbl := bm_lt64 (n := k) (by omega) (fun v => hasP uses (useP ts op x y (v : Nat)))
      go_wp2_with fail
      refine (use_any _ ts pts B op x y n k nv _ (HG.out.low hb2 hB) (by omega) (by omega) (by omega)).mono ?_
      rintro e w1 ⟨rfl, hb3⟩
      have hb4 := hb2.trans (hb3.mono (by omega))
      go_wp2_with fail
      refine (contains_any _ uses _ B _ (hu.low hb4 hB)).mono ?_
      rintro e w' ⟨rfl, rfl⟩
      cases hx : hasP uses (useP ts op x y k)
      · have HX := Lib.hid hx
        clear hx
        go_wp2_with fail
        refine ⟨⟨k + 1, by omega, by go_num, by rw [bm_succ_false HX.out], hb1.trans ((hb3.mono (by have := hb1.size; omega)))⟩, by simp [intOf]; omega⟩
      · have HX := Lib.hid hx
        clear hx
        go_wp2_with fail
        refine ⟨⟨k + 1, by omega, by go_num, ?_, hb1.trans ((hb3.mono (by have := hb1.size; omega)))⟩, by simp [intOf]; omega⟩
        rw [pow_small (by omega), or_small hbl (two_pow_lt (by omega)), bm_succ_true HX.out]
    · obtain rfl : k = ts.length := by omega
      go_wp2_with fail
      go_ret
      exact ⟨rfl, hb2⟩

end Go.Proofs.YteibhhecgcipiaaGreat

namespace Go.Proofs.YteibhhecgcipiaaGreat
open Go.RowKit

/-- what comes of ints -/
def IntsRet (w : World) (l : List Int) (e : Ending) (w' : World) : Prop := ∃ v, e = .returned v ∧ IntS w' w'.heap.size v l ∧ Below w.heap.size w w'

end Go.Proofs.YteibhhecgcipiaaGreat

namespace Go.Proofs.YteibhhecgcipiaaGreat
open Go.RowKit

theorem ints_lit (w : World) (l : List Int) (t : TypeId) (hl : l.length ≤ 4194304) : IntS (w.alloc (.cells ((l.map (.int .i64)).toArray) t)) (w.heap.size + 1) (.slice (some ⟨w.heap.size, 0, none⟩) l.length l.length) l := by
  refine ⟨_, _, rfl, Nat.le_refl _, hl, by simp, fun hn => ⟨w.heap.size, 0, rfl, by omega, fun j u hu => ?_⟩⟩
  rw [Nat.zero_add, cell_of_row _ _ _ _ _ _ (heap_alloc_new w _)]
  simpa using hu

def takenP (ts : List Int) (op x y : Int) : Nat := bm ts.length (fun v => useP ts op x y (v : Nat) == 2)
def usedP (ts : List Int) (op x y : Int) : Nat := bm ts.length (fun v => useP ts op x y (v : Nat) != 0)
theorem useP_range (ts : List Int) (op x y v : Int) : useP ts op x y v = 0 ∨ useP ts op x y v = 1 ∨ useP ts op x y v = 2 ∨ useP ts op x y v = 3 := by
  unfold useP
  repeat' split
  all_goals simp
theorem taken_which (ts : List Int) (op x y : Int) : whichP ts [2] op x y = takenP ts op x y := by
  refine bm_congr fun i hi => ?_
  rcases useP_range ts op x y (i : Nat) with h | h | h | h <;> rw [h] <;> rfl
theorem used_which (ts : List Int) (op x y : Int) : whichP ts [1, 2, 3] op x y = usedP ts op x y := by
  refine bm_congr fun i hi => ?_
  rcases useP_range ts op x y (i : Nat) with h | h | h | h <;> rw [h] <;> rfl

set_option maxHeartbeats 400000 in
theorem taken_any (vg : Value) (ts : List Int) (pts : List Pt) (B : Nat) (op x y n : Int) (nv : Value) (w : World) (hg : GrS w B vg ts pts) (hB : B ≤ w.heap.size) (h6 : ts.length ≤ 6) :
    Calls Tryz.prog 70 #[vg, .agg #[.int .i64 op, .int .i64 x, .int .i64 y, .int .i64 n, nv]] w fun e w' => e = .returned (.int .i64 (takenP ts op x y : Nat)) ∧ Below w.heap.size w w' := by
  have e := taken_which ts op x y
  have HE := Lib.hid e
  clear e
  go_enter Tryz.func70, Tryz.ntmps70
  go_wp2_with fail
  have hb2 : ∀ o o', Below w.heap.size w ((w.alloc o).alloc o') := fun o o' => (bel_a w o).alloc (by simp) o'
  refine (which_any vg _ ts [2] pts (w.heap.size + 2) op x y n nv _ ((hg.low (hb2 _ _) hB).more (by omega)) (by simpa using ints_lit (w.alloc _) [2] 3 (by simp)) (by simp) h6).mono ?_
  rintro e w1 ⟨rfl, hb⟩
  go_wp2_with fail
  go_ret
  exact ⟨by rw [← HE.out]; rfl, (hb2 _ _).trans (hb.mono (by simp; omega))⟩

set_option maxHeartbeats 400000 in
theorem used_any (vg : Value) (ts : List Int) (pts : List Pt) (B : Nat) (op x y n : Int) (nv : Value) (w : World) (hg : GrS w B vg ts pts) (hB : B ≤ w.heap.size) (h6 : ts.length ≤ 6) :
    Calls Tryz.prog 76 #[vg, .agg #[.int .i64 op, .int .i64 x, .int .i64 y, .int .i64 n, nv]] w fun e w' => e = .returned (.int .i64 (usedP ts op x y : Nat)) ∧ Below w.heap.size w w' := by
  have e := used_which ts op x y
  have HE := Lib.hid e
  clear e
  go_enter Tryz.func76, Tryz.ntmps76
  go_wp2_with fail
  have hb2 : ∀ o o', Below w.heap.size w ((w.alloc o).alloc o') := fun o o' => (bel_a w o).alloc (by simp) o'
  refine (which_any vg _ ts [1, 2, 3] pts (w.heap.size + 2) op x y n nv _ ((hg.low (hb2 _ _) hB).more (by omega)) (by simpa using ints_lit (w.alloc _) [1, 2, 3] 3 (by simp)) (by simp) h6).mono ?_
  rintro e w1 ⟨rfl, hb⟩
  go_wp2_with fail
  go_ret
  exact ⟨by rw [← HE.out]; rfl, (hb2 _ _).trans (hb.mono (by simp; omega))⟩

/-- the set of the variable that a point sets -/
def setBitP (op x : Int) : Nat := if 0 ≤ setsP op x then 2 ^ (setsP op x).toNat else 0

set_option maxHeartbeats 400000 in
theorem setBit_any (op x y n : Int) (nv : Value) (w : World) (h : setsP op x < 6) :
    Calls Tryz.prog 71 #[.agg #[.int .i64 op, .int .i64 x, .int .i64 y, .int .i64 n, nv]] w fun e w' => e = .returned (.int .i64 (setBitP op x : Nat)) ∧ Below w.heap.size w w' := by
  by_cases h0 : 0 ≤ setsP op x
  · obtain ⟨k, hk⟩ : ∃ k : Nat, setsP op x = k := ⟨(setsP op x).toNat, by omega⟩
    have hk6 : k < 6 := by omega
    have e : setBitP op x = 2 ^ k := by unfold setBitP; rw [if_pos h0, hk]; simp
    have HE := Lib.hid e
    have HK := Lib.hid hk
    clear e hk h0 h
    go_enter Tryz.func71, Tryz.ntmps71
    go_wp2_with fail
    refine (sets_any op x y n nv _).mono ?_
    rintro e w1 ⟨rfl, hb⟩
    rw [HK.out]
    go_wp2_with fail
    go_ret
    exact ⟨ret_int (by rw [HE.out, ← pow_small (by omega)]), (bel_a _ _).trans (hb.mono (by simp))⟩
  · have e : setBitP op x = 0 := by unfold setBitP; rw [if_neg h0]
    have HE := Lib.hid e
    clear e
    go_enter Tryz.func71, Tryz.ntmps71
    go_wp2_with fail
    refine (sets_any op x y n nv _).mono ?_
    rintro e w1 ⟨rfl, hb⟩
    go_wp2_with fail
    go_ret
    exact ⟨ret_int (by rw [HE.out]; rfl), (bel_a _ _).trans (hb.mono (by simp))⟩

theorem bm_all (n : Nat) : bm n (fun _ => true) = 2 ^ n - 1 := by
  induction n with
  | zero => rfl
  | succ n ih =>
    apply Nat.eq_of_testBit_eq
    intro i
    rw [bm_bit, Nat.testBit_two_pow_sub_one]
    simp

set_option maxHeartbeats 400000 in
theorem all_any (vg : Value) (ts : List Int) (pts : List Pt) (B : Nat) (w : World) (hg : GrS w B vg ts pts) (h6 : ts.length ≤ 6) :
    Calls Tryz.prog 118 #[vg] w fun e w' => e = .returned (.int .i64 (bm ts.length (fun _ => true) : Nat)) ∧ w = w' := by
  obtain ⟨g, At, ct, vb, Al, cl, rfl, hgB, g0, g1, g2, ht, hp, htl, hpl⟩ := hg.open_
  go_enter Tryz.func118, Tryz.ntmps118
  go_wp2_with fail
  go_ret
  refine ⟨ret_int ?_, rfl⟩
  have h1 : 1 ≤ 2 ^ ts.length := Nat.one_le_two_pow
  rw [bm_all, pow_small h6]
  have h2 : 2 ^ ts.length ≤ 64 := Nat.pow_le_pow_right (n := 2) (by omega) h6
  first | (unfold wrap64; omega) | omega

end Go.Proofs.YteibhhecgcipiaaGreat

namespace Go.Proofs.YteibhhecgcipiaaGreat
open Go.RowKit

/-- sets as ints -/
def msk (ms : List Nat) : List Int := ms.map fun m => ((m : Nat) : Int)
theorem msk_len (ms : List Nat) : (msk ms).length = ms.length := by simp [msk]
theorem msk_get {ms : List Nat} {k : Nat} (hk : k < ms.length) : (msk ms).getD k 0 = ((ms.getD k 0 : Nat) : Int) := by
  rw [getD_lt (by rw [msk_len]; exact hk), getD_lt hk]; simp [msk]
def orL (ms : List Nat) (nx : List Nat) : Nat := nx.foldl (fun a k => a ||| ms.getD k 0) 0
theorem orL_snoc (ms nx : List Nat) (k : Nat) : orL ms (nx ++ [k]) = orL ms nx ||| ms.getD k 0 := by simp [orL]
theorem orL_lt {ms : List Nat} (hm : ∀ m ∈ ms, m < 64) (nx : List Nat) : orL ms nx < 64 := by
  have h : ∀ k, ms.getD k 0 < 64 := fun k => by
    by_cases hk : k < ms.length
    · rw [getD_lt hk]; exact hm _ (List.getElem_mem hk)
    · rw [getD_ge (by omega)]; omega
  have hz : ∀ z : Nat, z < 2 ^ 6 → nx.foldl (fun a k => a ||| ms.getD k 0) z < 2 ^ 6 := by
    induction nx with
    | nil => exact fun z hz => hz
    | cons k r ih => exact fun z hz => ih _ (Nat.or_lt_two_pow hz (h k))
  exact hz 0 (by omega)
theorem orL_bit (ms nx : List Nat) (i : Nat) : (orL ms nx).testBit i = nx.any fun k => (ms.getD k 0).testBit i := by
  unfold orL
  have : ∀ z : Nat, (nx.foldl (fun a k => a ||| ms.getD k 0) z).testBit i = (z.testBit i || nx.any fun k => (ms.getD k 0).testBit i) := by
    induction nx with
    | nil => simp
    | cons k r ih => intro z; simp only [List.foldl_cons, List.any_cons, ih, Nat.testBit_or, Bool.or_assoc]
  simpa using this 0

set_option maxHeartbeats 400000 in
theorem after_any (vg vs : Value) (ts : List Int) (pts : List Pt) (ms : List Nat) (B k : Nat) (w : World) (hg : GrS w B vg ts pts) (hs : IntS w B vs (msk ms)) (hm : ∀ m ∈ ms, m < 64) (hk : k < pts.length) (hn : ∀ j ∈ pts[k].next, j < ms.length) :
    Calls Tryz.prog 168 #[vg, vs, .int .i64 (k : Nat)] w fun e w' => e = .returned (.int .i64 (orL ms pts[k].next : Nat)) ∧ w = w' := by
  obtain ⟨g, At, ct, vb, Al, cl, rfl, hgB, g0, g1, g2, ht, hp, htl, hpl⟩ := hg.open_
  obtain ⟨b, off, c, nv, e, hb, hc, hl, hnx, q0, q1, q2, q3, q4⟩ := hp.get hk
  injection e with e1 _ e2
  subst e1 e2
  generalize hnxe : pts[k].next = nx at *
  clear hnxe
  obtain ⟨An, cn, rfl, hcn, hln, hrn⟩ := hnx
  obtain ⟨As, cs, rfl, hcs, hls, hrs⟩ := hs
  simp only [List.length_map, msk_len] at *
  go_enter Tryz.func168, Tryz.ntmps168
  go_wp2_with fail
  go_loop [7, 19] (fun s i => ∃ j : Nat, j ≤ nx.length ∧ i = .int .i64 j ∧ s = .int .i64 (orL ms (nx.take j) : Nat)) (fun _ i => nx.length - (intOf i).toNat)
  case atStart => exact ⟨0, Nat.zero_le _, rfl, rfl⟩
  case round =>
    obtain ⟨j, hj, rfl, rfl⟩ := hrel
    by_cases hlt : j < nx.length
    · obtain ⟨b1, off1, rfl, hb1, hcell⟩ := Rd.int_at (l := nx.map fun k => ((k : Nat) : Int)) (by simpa using hrn) (k := j) (by simpa using hlt)
      have hck := hcell j (by simpa using hlt)
      have hj2 : nx[j] < ms.length := hn _ (List.getElem_mem hlt)
      obtain ⟨b2, off2, rfl, hb2, hcell2⟩ := Rd.int_at (l := msk ms) (by rw [msk_len]; exact hrs) (k := nx[j]) (by rw [msk_len]; exact hj2)
      have hck2 := hcell2 nx[j] (by rw [msk_len]; exact hj2)
      rw [msk_get hj2] at hck2
      rw [getD_lt (by simpa using hlt)] at hck
      simp only [List.getElem_map] at hck
      have hor := orL_lt hm (nx.take j)
      have hmm : ms.getD nx[j] 0 < 64 := by rw [getD_lt hj2]; exact hm _ (List.getElem_mem hj2)
      have HT := Lib.hid (take_succ_get nx j hlt)
      clear hcell hcell2
      generalize hjj : nx[j] = jj at *
      generalize hmj : ms.getD jj 0 = mj at *
      have HJ := Lib.hid hjj
      have HM := Lib.hid hmj
      clear hjj hmj
      go_wp2_with fail
      refine ⟨⟨j + 1, by omega, by go_num, ?_⟩, by simp [intOf]; omega⟩
      rw [HT.out, orL_snoc, HM.out, or_small hor hmm]
    · obtain rfl : j = nx.length := by omega
      go_wp2_with fail
      go_ret
      exact ⟨rfl, rfl⟩

/-- what a region holds on to: a boxed point, and all that is older -/
def Box5 (w1 : World) (g : Nat) (op x y n : Int) (nv : Value) (w' : World) : Prop :=
  w'.cell? ⟨g, 0, none⟩ = some (.int .i64 op) ∧ w'.cell? ⟨g, 1, none⟩ = some (.int .i64 x) ∧ w'.cell? ⟨g, 2, none⟩ = some (.int .i64 y) ∧ w'.cell? ⟨g, 3, none⟩ = some (.int .i64 n) ∧ w'.cell? ⟨g, 4, none⟩ = some nv ∧
    Below w1.heap.size w1 w' ∧ g < w1.heap.size
theorem Box5.step {w1 : World} {g : Nat} {op x y n : Int} {nv : Value} {w' w'' : World} (h : Box5 w1 g op x y n nv w') (hb : Below w'.heap.size w' w'') : Box5 w1 g op x y n nv w'' := by
  obtain ⟨h0, h1, h2, h3, h4, h5, h6⟩ := h
  have hs := h5.size
  exact ⟨(hb.cell (p := ⟨g, 0, none⟩) (by show g < _; omega)).trans h0, (hb.cell (p := ⟨g, 1, none⟩) (by show g < _; omega)).trans h1, (hb.cell (p := ⟨g, 2, none⟩) (by show g < _; omega)).trans h2,
    (hb.cell (p := ⟨g, 3, none⟩) (by show g < _; omega)).trans h3, (hb.cell (p := ⟨g, 4, none⟩) (by show g < _; omega)).trans h4, h5.trans (hb.mono hs), h6⟩
theorem Box5.bel {w1 : World} {g : Nat} {op x y n : Int} {nv : Value} {w' : World} (h : Box5 w1 g op x y n nv w') : Below w1.heap.size w1 w' := h.2.2.2.2.2.1
theorem Box5.new (w : World) (op x y n : Int) (nv : Value) (t : TypeId) : Box5 (w.alloc (.cells #[.int .i64 op, .int .i64 x, .int .i64 y, .int .i64 n, nv] t)) w.heap.size op x y n nv (w.alloc (.cells #[.int .i64 op, .int .i64 x, .int .i64 y, .int .i64 n, nv] t)).drew :=
  ⟨cell_of_row _ _ _ _ _ _ (heap_alloc_new w _), cell_of_row _ _ _ _ _ _ (heap_alloc_new w _), cell_of_row _ _ _ _ _ _ (heap_alloc_new w _), cell_of_row _ _ _ _ _ _ (heap_alloc_new w _), cell_of_row _ _ _ _ _ _ (heap_alloc_new w _), (Below.refl _ _).drew, by simp⟩

def valP (ts : List Int) (p : Pt) (m : Nat) : Nat := andn m (takenP ts p.op p.x p.y) ||| setBitP p.op p.x
theorem takenP_lt {ts : List Int} (h6 : ts.length ≤ 6) (op x y : Int) : takenP ts op x y < 64 := bm_lt64 h6 _
theorem usedP_lt {ts : List Int} (h6 : ts.length ≤ 6) (op x y : Int) : usedP ts op x y < 64 := bm_lt64 h6 _
theorem setBitP_lt {op x : Int} (h : setsP op x < 6) : setBitP op x < 64 := by
  unfold setBitP; split
  · exact two_pow_lt (by omega)
  · omega
theorem valP_lt {ts : List Int} {p : Pt} (h : setsP p.op p.x < 6) (m : Nat) : valP ts p m < 64 := Nat.or_lt_two_pow (n := 6) (andn_lt _ _) (setBitP_lt h)

set_option maxHeartbeats 1000000 in
theorem valued_any (vg : Value) (ts : List Int) (pts : List Pt) (B k m : Nat) (w : World) (hg : GrS w B vg ts pts) (hB : B ≤ w.heap.size) (h6 : ts.length ≤ 6) (hk : k < pts.length) (hm : m < 64) (hs : setsP pts[k].op pts[k].x < 6) :
    Calls Tryz.prog 36 #[vg, .int .i64 (k : Nat), .int .i64 (m : Nat)] w fun e w' => e = .returned (.int .i64 (valP ts pts[k] m : Nat)) ∧ Below w.heap.size w w' := by
  have HG := Lib.hid hg
  obtain ⟨g, At, ct, vb, Al, cl, rfl, hgB, g0, g1, g2, ht, hp, htl, hpl⟩ := hg.open_
  obtain ⟨b, off, c, nv, e, hb, hc, hl, hnx, q0, q1, q2, q3, q4⟩ := hp.get hk
  injection e with e1 _ e2
  subst e1 e2
  obtain ⟨An, cn, rfl, hcn, hln, hrn⟩ := hnx
  simp only [List.length_map] at *
  have ht64 := takenP_lt h6 pts[k].op pts[k].x pts[k].y
  have hs64 := setBitP_lt hs
  go_enter Tryz.func36, Tryz.ntmps36
  go_wp2_with fail
  have hnew := Box5.new w pts[k].op pts[k].x pts[k].y pts[k].n (.slice An pts[k].next.length cn) 76
  have hba := bel_a w (.cells #[.int .i64 pts[k].op, .int .i64 pts[k].x, .int .i64 pts[k].y, .int .i64 pts[k].n, .slice An pts[k].next.length cn] 76)
  generalize hW : w.alloc (.cells #[.int .i64 pts[k].op, .int .i64 pts[k].x, .int .i64 pts[k].y, .int .i64 pts[k].n, .slice An pts[k].next.length cn] 76) = W at *
  clear hW
  have hWs := hba.size
  go_region_held3 (fun w' => w'.cell? ⟨w.heap.size, 0, none⟩ = some (.int .i64 pts[k].op) ∧ w'.cell? ⟨w.heap.size, 1, none⟩ = some (.int .i64 pts[k].x) ∧ w'.cell? ⟨w.heap.size, 2, none⟩ = some (.int .i64 pts[k].y) ∧ w'.cell? ⟨w.heap.size, 3, none⟩ = some (.int .i64 pts[k].n) ∧ w'.cell? ⟨w.heap.size, 4, none⟩ = some (.slice An pts[k].next.length cn) ∧ Below W.heap.size W w' ∧ w.heap.size < W.heap.size) (first | exact hnew | exact Box5.step (by assumption) (by assumption) | go_keep)
    (first
      | (go_at_call 70; go_must (refine (taken_any _ ts pts B _ _ _ _ _ _ (by exact HG.out.low (hba.trans ((Box5.bel (g := w.heap.size) (op := pts[k].op) (x := pts[k].x) (y := pts[k].y) (n := pts[k].n) (nv := .slice An pts[k].next.length cn) (by assumption)).mono hWs)) hB) (by have := (Box5.bel (w1 := W) (g := w.heap.size) (op := pts[k].op) (x := pts[k].x) (y := pts[k].y) (n := pts[k].n) (nv := .slice An pts[k].next.length cn) (by assumption)).size; omega) h6).mono ?_); (rintro e w2 ⟨rfl, hb3⟩))
      | (go_at_call 71; go_must (refine (setBit_any _ _ _ _ _ _ hs).mono ?_); (rintro e w2 ⟨rfl, hb4⟩)))
  go_wp2_with fail
  go_ret
  exact ⟨ret_int (by rw [andn_small hm ht64, or_small (andn_lt _ _) hs64]; rfl), hba.trans ((Box5.bel (g := w.heap.size) (op := pts[k].op) (x := pts[k].x) (y := pts[k].y) (n := pts[k].n) (nv := .slice An pts[k].next.length cn) (by assumption)).mono hWs)⟩

end Go.Proofs.YteibhhecgcipiaaGreat
