import Derived.Test.YtfioaohadanjmaaGreatU07
import Derived.Test.YtfioaohadanjmaaGreatU27
import Derived.Test.YtfioaohadanjmaaGreatU13
import Derived.Deep.DeepCutAuto
import Derived.Test.YtfioaohadanjmaaGreatU08
import Derived.Test.YtfioaohadanjmaaGreatU22
set_option linter.unusedVariables false

/- Plain: shortest ways, as a search in breadth finds them. No program in sight. -/
namespace Go.Proofs.YtfioaohadanjmaaGreat

/-- a search's state: for each point the one before it (or -1), the points still to be looked at, the points still to be looked at behind c -/
structure WS where
  bk : List Int
  q : List Nat
  pe : List Nat
  c : Nat
def WS.fl (s : WS) (k : Nat) : Prop := 0 ≤ s.bk.getD k (-1)
def stepW (pts : List Pt) (s : WS) : WS := match s.pe with
  | j :: r => if s.bk.getD j (-1) < 0 then ⟨s.bk.set j (s.c : Nat), s.q ++ [j], r, s.c⟩ else ⟨s.bk, s.q, r, s.c⟩
  | [] => match s.q with
    | c :: r => ⟨s.bk, r, (ptD pts c).next, c⟩
    | [] => s
def itW (pts : List Pt) (a : Nat) : Nat → WS
  | 0 => ⟨List.replicate pts.length (-1), [a], [], a⟩
  | n + 1 => stepW pts (itW pts a n)
/-- the state s is one of the search's from a on -/
def WyS (pts : List Pt) (a : Nat) (s : WS) : Prop := ∃ n, s = itW pts a n
theorem WyS.init (pts : List Pt) (a : Nat) : WyS pts a ⟨List.replicate pts.length (-1), [a], [], a⟩ := ⟨0, rfl⟩
theorem WyS.skip {pts : List Pt} {a c j : Nat} {bk : List Int} {q r : List Nat} (h : WyS pts a ⟨bk, q, j :: r, c⟩) (hj : 0 ≤ bk.getD j (-1)) : WyS pts a ⟨bk, q, r, c⟩ := by
  obtain ⟨n, h⟩ := h
  refine ⟨n + 1, ?_⟩
  simp only [itW, ← h, stepW]
  rw [if_neg (by omega)]
theorem WyS.take {pts : List Pt} {a c j : Nat} {bk : List Int} {q r : List Nat} (h : WyS pts a ⟨bk, q, j :: r, c⟩) (hj : bk.getD j (-1) < 0) : WyS pts a ⟨bk.set j (c : Nat), q ++ [j], r, c⟩ := by
  obtain ⟨n, h⟩ := h
  refine ⟨n + 1, ?_⟩
  simp only [itW, ← h, stepW]
  rw [if_pos hj]

theorem count_set_neg {bk : List Int} {k : Nat} {x : Int} (hk : k < bk.length) (h : bk.getD k (-1) = -1) (hx : x ≠ -1) : (bk.set k x).count (-1) + 1 = bk.count (-1) := by
  induction bk generalizing k with
  | nil => simp at hk
  | cons b r ih =>
    cases k with
    | zero => simp at h; subst h; simp [hx]
    | succ k =>
      have := ih (k := k) (by simpa using hk) (by simpa using h)
      simp only [List.set_cons_succ, List.count_cons]; omega
/-- what is known of a state; od has the points in the order in which they were found -/
structure WyI (pts : List Pt) (a : Nat) (s : WS) (od : List Nat) : Prop where
  len : s.bk.length = pts.length
  inn : ∀ k ∈ od, k < pts.length
  fill : ∀ k, k ∈ od → 0 ≤ s.bk.getD k (-1)
  none_ : ∀ k, k ∉ od → s.bk.getD k (-1) = -1
  cnt : od.length + s.bk.count (-1) = pts.length
  par : ∀ i k : Nat, od[i]? = some k → ∃ b : Nat, s.bk.getD k (-1) = b ∧ (∃ p, pts[b]? = some p ∧ k ∈ p.next) ∧ (b = a ∨ ∃ j : Nat, j < i ∧ od[j]? = some b)
  qok : ∀ k ∈ s.q, k < pts.length ∧ (k = a ∨ k ∈ od)
  pok : ∀ k ∈ s.pe, k < pts.length ∧ ∃ p, pts[s.c]? = some p ∧ k ∈ p.next
  cok : s.c < pts.length ∧ (s.c = a ∨ s.c ∈ od)
  cl : ∀ k p, (k = a ∨ k ∈ od) → pts[k]? = some p → ∀ j ∈ p.next, j ∈ od ∨ k ∈ s.q ∨ j ∈ s.pe
theorem itW_I {pts : List Pt} {a : Nat} (ha : a < pts.length) (hn : ∀ p ∈ pts, ∀ k ∈ p.next, k < pts.length) (n : Nat) : ∃ od, WyI pts a (itW pts a n) od := by
  induction n with
  | zero =>
    refine ⟨[], by simp [itW], by simp, by simp, fun k _ => ?_, by simp [itW], by simp, fun k hk => ?_, by simp [itW], ⟨ha, .inl rfl⟩, fun k p hk _ j _ => .inr (.inl ?_)⟩
    · simp only [itW]
      by_cases hk : k < pts.length
      · rw [getD_lt (by simpa using hk)]; simp
      · rw [getD_ge (by simpa using hk)]
    · simp only [itW, List.mem_singleton] at hk; subst hk; exact ⟨ha, .inl rfl⟩
    · rcases hk with hk | hk
      · subst hk; simp [itW]
      · simp at hk
  | succ n ih =>
    obtain ⟨od, h⟩ := ih
    simp only [itW]
    generalize itW pts a n = s at *
    obtain ⟨bk, q, pe, c⟩ := s
    unfold stepW
    cases pe with
    | cons j r =>
      simp only
      have hj := h.pok j List.mem_cons_self
      by_cases hb : bk.getD j (-1) < 0
      · rw [if_pos hb]
        have hjn : j ∉ od := fun hh => by have := h.fill j hh; simp only at this; omega
        have hjl : j < bk.length := by have := h.len; simp only at this; omega
        have old : ∀ k, k ≠ j → (bk.set j (c : Nat)).getD k (-1) = bk.getD k (-1) := fun k hk => by rw [getD_setT hjl, if_neg hk]
        have new : (bk.set j (c : Nat)).getD j (-1) = (c : Nat) := by rw [getD_setT hjl, if_pos rfl]
        refine ⟨od ++ [j], by simpa using h.len, fun k hk => ?_, fun k hk => ?_, fun k hk => ?_, ?_, fun i k hi => ?_, fun k hk => ?_, fun k hk => ?_, ⟨h.cok.1, ?_⟩, fun k p hk hp i hi => ?_⟩
        · rcases List.mem_append.1 hk with hk | hk
          · exact h.inn k hk
          · rw [List.mem_singleton] at hk; subst hk; exact hj.1
        · simp only
          by_cases e : k = j
          · subst e; rw [new]; omega
          · rw [old k e]
            rcases List.mem_append.1 hk with hk | hk
            · exact h.fill k hk
            · rw [List.mem_singleton] at hk; exact absurd hk e
        · simp only [List.mem_append, List.mem_singleton, not_or] at hk ⊢
          rw [old k hk.2]; exact h.none_ k hk.1
        · have h1 := h.cnt
          have h2 := count_set_neg (x := (c : Nat)) hjl (h.none_ j hjn) (by omega)
          simp only at h1 ⊢
          simp only [List.length_append, List.length_singleton]; omega
        · rcases Nat.lt_or_ge i od.length with hlt | hge
          · rw [List.getElem?_append_left hlt] at hi
            obtain ⟨b, h1, h2, h3⟩ := h.par i k hi
            have hkj : k ≠ j := fun e => hjn (e ▸ List.mem_of_getElem? hi)
            refine ⟨b, ?_, h2, ?_⟩
            · simp only; rw [old k hkj]; exact h1
            · rcases h3 with h3 | ⟨m, hm, h3⟩
              · exact .inl h3
              · exact .inr ⟨m, hm, by rw [List.getElem?_append_left (by omega)]; exact h3⟩
          · rw [List.getElem?_append_right hge] at hi
            have hi0 : i - od.length = 0 := by
              rcases Nat.eq_zero_or_pos (i - od.length) with h0 | h0
              · exact h0
              · rw [List.getElem?_eq_none (by simp; omega)] at hi; cases hi
            rw [hi0] at hi
            simp at hi
            subst hi
            refine ⟨c, new, hj.2, ?_⟩
            rcases h.cok.2 with h3 | h3
            · exact .inl h3
            · obtain ⟨m, hm, e⟩ := List.getElem_of_mem h3
              exact .inr ⟨m, by omega, by rw [List.getElem?_append_left hm, List.getElem?_eq_getElem hm, e]⟩
        · rcases List.mem_append.1 hk with hk | hk
          · have := h.qok k hk; exact ⟨this.1, this.2.imp id (fun h => List.mem_append_left _ h)⟩
          · rw [List.mem_singleton] at hk; subst hk; exact ⟨hj.1, .inr (by simp)⟩
        · exact h.pok k (List.mem_cons_of_mem _ hk)
        · exact h.cok.2.imp id (fun h => List.mem_append_left _ h)
        · by_cases e : k ∈ q ++ [j]
          · exact .inr (.inl e)
          · simp only [List.mem_append, List.mem_singleton, not_or] at e
            have hk2 : k = a ∨ k ∈ od := by
              rcases hk with hk | hk
              · exact .inl hk
              · rcases List.mem_append.1 hk with hk | hk
                · exact .inr hk
                · rw [List.mem_singleton] at hk; exact absurd hk e.2
            rcases h.cl k p hk2 hp i hi with h1 | h1 | h1
            · exact .inl (List.mem_append_left _ h1)
            · exact absurd h1 e.1
            · rcases List.mem_cons.1 h1 with h1 | h1
              · subst h1; exact .inl (by simp)
              · exact .inr (.inr h1)
      · rw [if_neg hb]
        have hjo : j ∈ od := Classical.byContradiction fun hh => by have := h.none_ j hh; simp only at this; omega
        refine ⟨od, h.len, h.inn, h.fill, h.none_, h.cnt, h.par, h.qok, fun k hk => h.pok k (List.mem_cons_of_mem _ hk), h.cok, fun k p hk hp i hi => ?_⟩
        rcases h.cl k p hk hp i hi with h1 | h1 | h1
        · exact .inl h1
        · exact .inr (.inl h1)
        · rcases List.mem_cons.1 h1 with h1 | h1
          · subst h1; exact .inl hjo
          · exact .inr (.inr h1)
    | nil =>
      simp only
      cases q with
      | nil => exact ⟨od, h⟩
      | cons k r =>
        have hk := h.qok k List.mem_cons_self
        simp only
        rw [ptD_get hk.1]
        refine ⟨od, h.len, h.inn, h.fill, h.none_, h.cnt, h.par, fun j hj => h.qok j (List.mem_cons_of_mem _ hj), fun j hj => ⟨hn _ (List.getElem_mem hk.1) j hj, _, List.getElem?_eq_getElem hk.1, hj⟩, hk, fun i p hi hp j hj => ?_⟩
        rcases h.cl i p hi hp j hj with h1 | h1 | h1
        · exact .inl h1
        · rcases List.mem_cons.1 h1 with h1 | h1
          · subst h1
            rw [List.getElem?_eq_getElem hk.1] at hp
            injection hp with hp
            subst hp
            exact .inr (.inr hj)
          · exact .inr (.inl h1)
        · simp at h1
theorem WyS.I {pts : List Pt} {a : Nat} {s : WS} (h : WyS pts a s) (ha : a < pts.length) (hn : ∀ p ∈ pts, ∀ k ∈ p.next, k < pts.length) : ∃ od, WyI pts a s od := by
  obtain ⟨n, rfl⟩ := h; exact itW_I ha hn n
/-- the points before k, up to a -/
inductive Chn (bk : List Int) (a : Nat) : Nat → List Nat → Prop
  | stop {k : Nat} (h : bk.getD k (-1) = (a : Nat)) : Chn bk a k [a]
  | more {k b : Nat} {L : List Nat} (h : bk.getD k (-1) = (b : Nat)) (hne : b ≠ a) (r : Chn bk a b L) : Chn bk a k (b :: L)
theorem Chn.up {bk bk' : List Int} {a k : Nat} {L : List Nat} (h : Chn bk a k L) (hu : ∀ k, 0 ≤ bk.getD k (-1) → bk'.getD k (-1) = bk.getD k (-1)) : Chn bk' a k L := by
  induction h with
  | stop h => exact .stop (by rw [hu _ (by rw [h]; omega)]; exact h)
  | more h hne _ ih => exact .more (by rw [hu _ (by rw [h]; omega)]; exact h) hne ih
theorem WyI.chain {pts : List Pt} {a : Nat} {s : WS} {od : List Nat} (h : WyI pts a s od) : ∀ i k, od[i]? = some k → ∃ L, Chn s.bk a k L ∧ L.length ≤ i + 1 := by
  intro i
  induction i using Nat.strongRecOn with
  | _ i ih =>
    intro k hk
    obtain ⟨b, h1, h2, h3⟩ := h.par i k hk
    by_cases e : b = a
    · subst e; exact ⟨[b], .stop h1, by simp⟩
    · rcases h3 with h3 | ⟨j, hj, h3⟩
      · exact absurd h3 e
      · obtain ⟨L, hL, hl⟩ := ih j hj b h3
        exact ⟨b :: L, .more h1 e hL, by simp; omega⟩
theorem WyI.found {pts : List Pt} {a k : Nat} {s : WS} {od : List Nat} (h : WyI pts a s od) (hf : 0 ≤ s.bk.getD k (-1)) : ∃ L, Chn s.bk a k L ∧ L.length ≤ pts.length := by
  have hk : k ∈ od := Classical.byContradiction fun hh => by have := h.none_ k hh; omega
  obtain ⟨i, hi, e⟩ := List.getElem_of_mem hk
  obtain ⟨L, h1, h2⟩ := h.chain i k (by rw [List.getElem?_eq_getElem hi, e])
  have := h.cnt
  exact ⟨L, h1, by omega⟩
/-- a way from a to t, in one step or more -/
structure IsWay (pts : List Pt) (a t : Nat) (w : List Nat) : Prop where
  two : 2 ≤ w.length
  first : w.getD 0 0 = a
  last : w.getD (w.length - 1) 0 = t
  inn : ∀ k ∈ w, k < pts.length
  edge : ∀ i, i + 1 < w.length → ∃ p, pts[w.getD i 0]? = some p ∧ w.getD (i + 1) 0 ∈ p.next
theorem getD_snocN {w : List Nat} {x i : Nat} : (w ++ [x]).getD i 0 = if i < w.length then w.getD i 0 else if i = w.length then x else 0 := by
  split
  · rename_i h; rw [getD_lt (by simp; omega), getD_lt h, List.getElem_append_left h]
  · split
    · rename_i h; subst h; rw [getD_lt (by simp)]; simp
    · rw [getD_ge (by simp; omega)]
theorem IsWay.snoc {pts : List Pt} {a b t : Nat} {w : List Nat} (h : IsWay pts a b w) (hb : ∃ p, pts[b]? = some p ∧ t ∈ p.next) (ht : t < pts.length) : IsWay pts a t (w ++ [t]) := by
  have h2 := h.two
  refine ⟨by simp; omega, ?_, ?_, fun k hk => ?_, fun i hi => ?_⟩
  · rw [getD_snocN, if_pos (by omega)]; exact h.first
  · rw [getD_snocN]; simp
  · rcases List.mem_append.1 hk with hk | hk
    · exact h.inn k hk
    · rw [List.mem_singleton] at hk; subst hk; exact ht
  · simp at hi
    rw [getD_snocN, getD_snocN, if_pos hi]
    by_cases e : i + 1 < w.length
    · rw [if_pos e]; exact h.edge i e
    · have e2 : i = w.length - 1 := by omega
      rw [if_neg e, if_pos (by omega), e2, h.last]; exact hb
theorem Chn.way {pts : List Pt} {a k : Nat} {bk : List Int} {L : List Nat} (h : Chn bk a k L) (hk : k < pts.length) (hp : ∀ k, k < pts.length → 0 ≤ bk.getD k (-1) → ∃ b : Nat, bk.getD k (-1) = b ∧ b < pts.length ∧ ∃ p, pts[b]? = some p ∧ k ∈ p.next) : IsWay pts a k (k :: L).reverse := by
  induction h with
  | @stop k h =>
    obtain ⟨b, h1, h2, h3⟩ := hp k hk (by rw [h]; omega)
    rw [h] at h1
    have := Int.ofNat.inj h1
    subst this
    have e : ([k, a] : List Nat).reverse = [a, k] := rfl
    rw [e]
    refine ⟨by simp, rfl, rfl, fun j hj => ?_, fun i hi => ?_⟩
    · simp at hj; rcases hj with rfl | rfl <;> assumption
    · have : i = 0 := by simp at hi; omega
      subst this; exact h3
  | @more k b L h hne r ih =>
    obtain ⟨b', h1, h2, h3⟩ := hp k hk (by rw [h]; omega)
    rw [h] at h1
    have := Int.ofNat.inj h1
    subst this
    rw [List.reverse_cons]
    exact (ih h2).snoc h3 hk
theorem WyI.par_ {pts : List Pt} {a : Nat} {s : WS} {od : List Nat} (h : WyI pts a s od) : ∀ k, k < pts.length → 0 ≤ s.bk.getD k (-1) → ∃ b : Nat, s.bk.getD k (-1) = b ∧ b < pts.length ∧ ∃ p, pts[b]? = some p ∧ k ∈ p.next := fun k _ hf => by
  have hk : k ∈ od := Classical.byContradiction fun hh => by have := h.none_ k hh; omega
  obtain ⟨i, hi, e⟩ := List.getElem_of_mem hk
  obtain ⟨b, h1, h2, _⟩ := h.par i k (by rw [List.getElem?_eq_getElem hi, e])
  refine ⟨b, h1, ?_, h2⟩
  obtain ⟨p, hp, _⟩ := h2
  exact (List.getElem?_eq_some_iff.1 hp).1

end Go.Proofs.YtfioaohadanjmaaGreat

/- Plain: the search for a shortest way, step by step; a list reversed in place. No program in sight. -/
namespace Go.Proofs.YtfioaohadanjmaaGreat

section
variable {pts : List Pt} {a : Nat}
theorem WyS.bnd (ha : a < pts.length) (hn : ∀ p ∈ pts, ∀ k ∈ p.next, k < pts.length) {s : WS} (h : WyS pts a s) : s.bk.length = pts.length ∧ (∀ k ∈ s.q, k < pts.length) ∧ (∀ k ∈ s.pe, k < pts.length) ∧ s.c < pts.length ∧ ∀ k, -1 ≤ s.bk.getD k (-1) ∧ s.bk.getD k (-1) < pts.length := by
  obtain ⟨od, hi⟩ := h.I ha hn
  refine ⟨hi.len, fun k hk => (hi.qok k hk).1, fun k hk => (hi.pok k hk).1, hi.cok.1, fun k => ?_⟩
  by_cases hk : k ∈ od
  · have hf := hi.fill k hk
    obtain ⟨b, h1, h3, _⟩ := hi.par_ k (hi.inn k hk) hf
    rw [h1]; omega
  · rw [hi.none_ k hk]; omega
end
theorem Chn.cons {bk : List Int} {a k : Nat} {M : List Nat} (h : Chn bk a k M) : ∃ b M', M = b :: M' ∧ bk.getD k (-1) = (b : Nat) ∧ (b = a ∧ M' = [] ∨ b ≠ a ∧ Chn bk a b M') := by
  cases h with
  | stop h => exact ⟨a, [], rfl, h, .inl ⟨rfl, rfl⟩⟩
  | @more _ b L h hne r => exact ⟨b, L, rfl, h, .inr ⟨hne, r⟩⟩
end Go.Proofs.YtfioaohadanjmaaGreat

/- Shortest ways: slices.Reverse of ints, impl.graph.shortWay, impl.ShortWay. -/
namespace Go.Proofs.YtfioaohadanjmaaGreat
open Go.RowKit

theorem OInts.put {w : World} {base g n c : Nat} {l : List Int} (h : OInts w base (.slice (some ⟨g, 0, none⟩) n c) l) (hn : n = l.length) (k : Nat) (x : Int) : OInts (w.setCell ⟨g, k, none⟩ (.int .i64 x)) base (.slice (some ⟨g, 0, none⟩) n c) (l.set k x) := by
  subst hn
  have := (World.ownsRow.stored h k (.int .i64 x)).1
  unfold OInts
  rw [List.length_set, List.map_set]
  exact this

end Go.Proofs.YtfioaohadanjmaaGreat

/- Shortest ways: impl.graph.shortWay, impl.ShortWay. -/
namespace Go.Proofs.YtfioaohadanjmaaGreat
open Go.RowKit

/-- the queue's slice without its head -/
theorem Qu.ints {w : World} {base : Nat} (hb : base ≤ w.heap.size) (j : Nat) : IntS (w.alloc (.cells #[.int .i64 (j : Nat)] 3)) (w.heap.size + 1) (.slice (some ⟨w.heap.size, 0, none⟩) 1 1) (msk [j]) := ints_one w (j : Nat)
end Go.Proofs.YtfioaohadanjmaaGreat

/- spec.RunPath: the whole answer. -/
namespace Go.Proofs.YtfioaohadanjmaaGreat
open Go.RowKit

/-- a run's path, and whether it came to the end -/
def RpfRet (w : World) (r : List Nat × Bool) (e : Ending) (w' : World) : Prop := ∃ v, e = .returned (.tuple #[v, .bool r.2]) ∧ OInts w' w.heap.size v (msk r.1) ∧ Below w.heap.size w w'
theorem tmod2 (c : Int) : (c.tmod 2 == 0) = decide (c % 2 = 0) := by
  have h : c.tmod 2 = 0 ↔ c % 2 = 0 := ⟨fun h => by have := Int.dvd_of_tmod_eq_zero h; omega, fun h => Int.tmod_eq_zero_of_dvd (by omega)⟩
  rw [Bool.eq_iff_iff, beq_iff_eq, decide_eq_true_iff]; exact h
theorem pointsP_ok {ts : List Int} {l : List St} (h : validP ts l = true) : pointsP ts l = ptsP l := by unfold pointsP; rw [if_pos h]
theorem runRel_full {pts : List Pt} {m a : Nat} {cs cs' : List Int} {o : List Nat} (h : RunRel pts m cs o a cs') (hl : o.length = m) (ho : (ptD pts a).op ≠ 11) : runF pts m 0 cs = (o, false) := by
  have h2 := h.go (by omega) ho
  have := h2.cut (by rw [List.length_append, List.length_singleton]; omega)
  rw [this.2, List.take_append_of_le_length (by omega), List.take_of_length_le (by omega)]
theorem drop_cons_at {cs : List Int} {us : Nat} (h : us < cs.length) : cs.drop us = cs.getD us 0 :: cs.drop (us + 1) := by rw [List.drop_eq_getElem_cons h, getD_lt h]
set_option maxHeartbeats 4000000 in
set_option maxRecDepth 100000 in
theorem sRunPath_any (vt vb vc : Value) (ts : List Int) (l : List St) (cs : List Int) (m B : Nat) (w : World) (ht : IntS w B vt ts) (hl : StS w B vb l) (hc : IntS w B vc cs) (hB : B ≤ w.heap.size) (hv : validP ts l = true) (hm : m ≤ 150) :
    Calls Tryz.prog 59 #[.agg #[vt, vb], vc, .int .i64 (m : Nat)] w (RpfRet w (runF (ptsP l) m 0 cs)) := by
  have hsz : szL l ≤ 4194300 := by have := (valid_parts hv).2.2; omega
  have GD := Lib.hid (Good.of_valid hv)
  have HPV := Lib.hid (pointsP_ok hv)
  have HBX := Lib.hid (Boxed.new ht hl hB 31)
  have HC := Lib.hid hc
  have ht0 := ht
  obtain ⟨At, ct, rfl, hct, -, -⟩ := ht0
  obtain ⟨Ab, cb, rfl, hcb⟩ := hl.slice
  obtain ⟨Ac, cc, rfl, hcc, hcm, -⟩ := hc
  clear ht hl hv
  go_enter Tryz.func59, Tryz.ntmps59
  go_wp2_with (at_builtin; fail)
  have HO0 := Lib.hid (OInts.empty (w.alloc (.cells #[.slice At ts.length ct, .slice Ab l.length cb] 31)) w.heap.size (by simp))
  rw [show (w.alloc (.cells #[.slice At ts.length ct, .slice Ab l.length cb] 31)).heap.size = w.heap.size + 1 by simp] at HO0
  have HBY := Lib.hid (HBX.out.bels (bel_a _ (.cells #[] 3)) hB)
  refine (sPointsOf_any _ _ ts l B _ HBY.out.ht HBY.out.hl (by have := HBY.out.lt; omega) hsz).mono ?_
  rintro e w1 ⟨vp, rfl, hps, hb1⟩
  rw [HPV.out] at hps
  have HB1 := Lib.hid (HBY.out.bels hb1 hB).bel
  have HO1 := Lib.hid (HO0.out.bel hb1)
  have HPS := Lib.hid hps
  have HC1 := Lib.hid (HC.out.low HB1.out hB)
  obtain ⟨Ap, cp, rfl, hcp, hpl⟩ := hps.slice
  have hs1 := HB1.out.size
  clear hps hb1
  have hplen := GD.out.len
  have hpos := GD.out.pos
  have HNE := Lib.hid (ptsP_next1 l)
  generalize ptsP l = pts at *
  have hz : ((pts.length : Int) == 0) = false := beq_eq_false_iff_ne.2 (by omega)
  have hm0 : decide ((m : Int) < 0) = false := decide_eq_false (by omega)
  have hm1 : decide ((m : Int) > 1000) = false := decide_eq_false (by omega)
  have hm2 : decide ((1000 : Int) < (m : Int)) = false := decide_eq_false (by omega)
  go_wp2_with (at_builtin; fail)
  go_loopw [8, 10, 11] (fun v c u wr => ∃ (o : List Nat) (a us : Nat), c = .int .i64 a ∧ u = .int .i64 us ∧ a < pts.length ∧ us ≤ o.length ∧ o.length ≤ m ∧ OutI w1 wr w.heap.size v (msk o) ∧ RunRel pts m cs o a (cs.drop us)) (fun v _ _ _ => m + 10 - (match v with | .slice _ n _ => n | _ => 0))
  case atStart => exact ⟨[], 0, 0, rfl, rfl, hpos, Nat.le_refl _, Nat.zero_le _, OutI.start HO1.out hs1, RunRel.start _ _ _⟩
  case round =>
    obtain ⟨o, a, us, rfl, rfl, ha, hus, hol, hO, hR⟩ := hrel
    have HRR := Lib.hid hR
    have HO := Lib.hid hO
    have HKP := Lib.hid hO.kp
    have hsw := hO.kp.2
    obtain ⟨A8, c8, rfl, hc8⟩ := hO.lenc
    rw [msk_len] at hc8 HO ⊢
    have HML := Lib.hid (msk_len o)
    have HPD : Hid (ptD pts a = pts[a]) := Lib.hid (ptD_get ha)
    have HME : Hid (msk o ++ [((a : Nat) : Int)] = msk (o ++ [a])) := Lib.hid (by simp [msk])
    obtain ⟨bp, op, cp', nv, e, hbp, hcp', hlp, hnx, z0, z1, z2, z3, z4⟩ := HPS.out.get ha
    injection e with e1 e9 e2
    subst e1 e2
    have HNX := Lib.hid hnx
    have hmem : pts[a] ∈ pts := List.getElem_mem ha
    have HIN := Lib.hid (GD.out.next _ hmem)
    have h2 := GD.out.next2 _ hmem
    have H1 := Lib.hid (HNE.out _ hmem)
    obtain ⟨An, cn, rfl, hcn, hln, -⟩ := hnx
    simp only [List.length_map] at z4 hcn hln HNX
    generalize pts[a] = P at *
    have p0 := HKP.out.1 _ _ _ z0
    have p4 := HKP.out.1 _ _ _ z4
    clear hO hmem e9 z1 z2 z3
    by_cases hop : P.op = 11
    · have ho1 : (P.op != 11) = false := by simpa using hop
      have HST := Lib.hid (HRR.out.stop hol (by rw [HPD.out]; exact hop))
      clear hop hR
      go_wp2_with (at_builtin; go_must (refine wpList_push_outI rfl (.tmp 72) (.tmp 74) rfl HO.out (by rw [HML.out]; omega) _ rfl rfl ?_); intro v' w' hP')
      go_ret2
      rw [HST.out]
      exact ⟨_, rfl, by rw [← HME.out]; exact Out.own hP', HB1.out.trans (Out.bel hP')⟩
    · have ho1 : (P.op != 11) = true := by simpa using hop
      have hn1 := H1.out hop
      have HOP := Lib.hid hop
      clear hop hR
      by_cases h20 : o.length = m
      · have hl1 : ((o.length : Int) == (m : Int)) = true := by rw [beq_iff_eq]; omega
        have HFU := Lib.hid (runRel_full HRR.out h20 (by rw [HPD.out]; exact HOP.out))
        clear h20
        go_wp2_with (at_builtin; fail)
        go_ret2
        rw [HFU.out]
        exact ⟨_, rfl, Out.own HO.out, HB1.out.trans (Out.bel HO.out)⟩
      · have hl1 : ((o.length : Int) == (m : Int)) = false := beq_eq_false_iff_ne.2 (by omega)
        have hol2 : o.length + 1 ≤ m := by omega
        have HGO := Lib.hid (HRR.out.go hol (by rw [HPD.out]; exact HOP.out))
        rw [HPD.out] at HGO
        have h12 : (∃ x, P.next = [x]) ∨ (∃ x y, P.next = [x, y]) := by
          generalize P.next = nx at *
          match nx, hn1, h2 with
          | [x], _, _ => exact .inl ⟨x, rfl⟩
          | [x, y], _, _ => exact .inr ⟨x, y, rfl⟩
        clear h20 hn1 h2
        obtain ⟨A9, c9, e9, -, -, hr9⟩ := HNX.out
        injection e9 with e9 e10 e11
        subst e9 e11
        clear e10
        rcases h12 with ⟨x, hnxe⟩ | ⟨x, y, hnxe⟩
        · have hxl : x < pts.length := HIN.out x (by rw [hnxe]; simp)
          have HG2 : Hid (RunRel pts m cs (o ++ [a]) x (cs.drop us)) := Lib.hid (by
            have := HGO.out
            unfold stepP restP at this
            rw [hnxe] at this
            simpa using this)
          rw [hnxe] at hr9 z4 hcn hln
          obtain ⟨bn, on, rfl, hbn, hcell⟩ := Rd.int_at (l := [((x : Nat) : Int)]) hr9 (k := 0) (by simp)
          have hc0 := hcell 0 (by simp)
          simp only [List.length_cons, List.length_nil, Nat.zero_add, List.getD_cons_zero, Nat.add_zero] at z4 hc0 hcn
          clear hcell hr9 hnxe
          go_upto_region 11 with (at_builtin; go_must (refine wpList_push_outI rfl (.tmp 39) (.tmp 41) rfl HO.out (by rw [HML.out]; omega) _ rfl rfl ?_); intro v' w' hP')
          rw [HME.out] at hP'
          have HPF := Lib.hid hP'
          have HKF := Lib.hid (Out.kp hP')
          obtain ⟨A6, c6, rfl, hc6⟩ := Out.lenc hP'
          rw [msk_len] at hc6 HPF ⊢
          have y4 := HKF.out.1 _ _ _ z4
          clear hP' p0 p4
          have d0 := HKF.out.1 _ _ _ hc0
          clear hc0 z0 z4
          go_wp2_with (at_builtin; fail)
          exact ⟨⟨o ++ [a], x, us, rfl, rfl, hxl, by simp; omega, by simp; omega, HPF.out, HG2.out⟩, by simp; omega⟩
        · have hxl : x < pts.length := HIN.out x (by rw [hnxe]; simp)
          have hyl : y < pts.length := HIN.out y (by rw [hnxe]; simp)
          have HG2 : Hid (RunRel pts m cs (o ++ [a]) (if (cs.drop us).headD 1 % 2 = 0 then x else y) ((cs.drop us).drop 1)) := Lib.hid (by
            have := HGO.out
            unfold stepP restP at this
            rw [hnxe] at this
            simpa using this)
          rw [hnxe] at hr9 z4 hcn hln
          obtain ⟨bn, on, rfl, hbn, hcell⟩ := Rd.int_at (l := [((x : Nat) : Int), ((y : Nat) : Int)]) hr9 (k := 0) (by simp)
          have hc0 := hcell 0 (by simp)
          have hc1 := hcell 1 (by simp)
          simp only [List.length_cons, List.length_nil, Nat.zero_add, List.getD_cons_zero, List.getD_cons_succ, Nat.add_zero] at z4 hc0 hc1 hcn
          clear hcell hr9 hnxe
          go_upto_region 11 with (at_builtin; go_must (refine wpList_push_outI rfl (.tmp 39) (.tmp 41) rfl HO.out (by rw [HML.out]; omega) _ rfl rfl ?_); intro v' w' hP')
          rw [HME.out] at hP'
          have HPF := Lib.hid hP'
          have HKF := Lib.hid (Out.kp hP')
          obtain ⟨A6, c6, rfl, hc6⟩ := Out.lenc hP'
          rw [msk_len] at hc6 HPF ⊢
          have y4 := HKF.out.1 _ _ _ z4
          clear hP' p0 p4
          have d0 := HKF.out.1 _ _ _ hc0
          have d1 := HKF.out.1 _ _ _ hc1
          clear hc0 hc1 z0 z4
          by_cases huc : us < cs.length
          · obtain ⟨A7, c7, e7, -, -, hr7⟩ := HC1.out.imp HKF.out
            injection e7 with e7 e10 e11
            subst e7 e11
            obtain ⟨bc, oc, rfl, hbc, hcc2⟩ := hr7.int_at huc
            have dcc := hcc2 us huc
            have hucd : decide ((us : Int) < (cs.length : Int)) = true := decide_eq_true (by omega)
            rw [drop_cons_at huc] at HG2
            simp only [List.headD_cons, List.drop_succ_cons, List.drop_zero] at HG2
            generalize cs.getD us 0 = zc at *
            clear hcc2 hr7 e10
            by_cases hz2 : zc % 2 = 0
            · have ht2 : (zc.tmod 2 == 0) = true := by rw [tmod2]; exact decide_eq_true hz2
              have HG3 : Hid (RunRel pts m cs (o ++ [a]) x (cs.drop (us + 1))) := Lib.hid (by have := HG2.out; simpa only [hz2, if_true] using this)
              clear hz2
              go_wp2_with (at_builtin; fail)
              exact ⟨⟨o ++ [a], x, us + 1, rfl, by go_num, hxl, by simp; omega, by simp; omega, HPF.out, HG3.out⟩, by simp; omega⟩
            · have ht2 : (zc.tmod 2 == 0) = false := by rw [tmod2]; exact decide_eq_false hz2
              have HG3 : Hid (RunRel pts m cs (o ++ [a]) y (cs.drop (us + 1))) := Lib.hid (by have := HG2.out; simpa only [hz2, if_false] using this)
              clear hz2
              go_wp2_with (at_builtin; fail)
              exact ⟨⟨o ++ [a], y, us + 1, rfl, by go_num, hyl, by simp; omega, by simp; omega, HPF.out, HG3.out⟩, by simp; omega⟩
          · have hucd : decide ((us : Int) < (cs.length : Int)) = false := decide_eq_false (by omega)
            have HG3 : Hid (RunRel pts m cs (o ++ [a]) y (cs.drop (us + 1))) := Lib.hid (by
              have := HG2.out
              rw [List.drop_eq_nil_of_le (by omega)] at this
              rw [List.drop_eq_nil_of_le (by omega)]
              simpa using this)
            go_wp2_with (at_builtin; fail)
            exact ⟨⟨o ++ [a], y, us + 1, rfl, by go_num, hyl, by simp; omega, by simp; omega, HPF.out, HG3.out⟩, by simp; omega⟩

end Go.Proofs.YtfioaohadanjmaaGreat

/- Plain: what is no end point never ends a run well. No program in sight. -/
namespace Go.Proofs.YtfioaohadanjmaaGreat

theorem endP_ne0 (c : Int) : endP c ≠ 0 := by unfold endP; split <;> decide
theorem endO_ne0 {c e : Int} (h : endO c = some e) : e ≠ 0 := by
  unfold endO at h
  split at h
  · cases h
  · injection h with h; rw [← h]; exact endP_ne0 c
theorem putP_ne0 {ts : List Int} {s : Ms} {v : Nat} {x : Sl} {e : Int} (h : (putP ts s v x).2 = some e) : e ≠ 0 := by
  unfold putP at h
  split at h
  · exact endO_ne0 h
  · cases h
theorem doP_ne0 {ts : List Int} {s : Ms} {x : Pt} {e : Int} (ho : x.op ≠ 11) (h : (doP ts s x).2 = some e) : e ≠ 0 := by
  unfold doP at h
  split at h
  · injection h with h; rw [← h]; decide
  split at h
  · exact putP_ne0 h
  split at h
  · split at h
    · exact putP_ne0 h
    · injection h with h; rw [← h]; decide
  split at h
  · exact putP_ne0 h
  split at h
  · split at h
    · injection h with h; rw [← h]; exact endP_ne0 _
    · exact putP_ne0 h
  split at h
  · split at h
    · injection h with h; rw [← h]; exact endP_ne0 _
    · exact putP_ne0 h
  split at h
  · exact endO_ne0 h
  split at h
  · exact endO_ne0 h
  cases h
end Go.Proofs.YtfioaohadanjmaaGreat
