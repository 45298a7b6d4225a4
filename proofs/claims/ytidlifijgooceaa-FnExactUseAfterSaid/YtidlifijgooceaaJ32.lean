import Derived.Test.YtidlifijgooceaaJ31
import Derived.Test.YtidlifijgooceaaJ29
import Derived.Test.YtidlifijgooceaaJ11
import Derived.Test.YtidlifijgooceaaJ30
set_option linter.unusedVariables false

/- Plain: loops of a program's points: they come back, and their choice dominates them. No program in sight. -/
namespace Go.Proofs.Ytidlifijgooceaa

theorem Emb.one_ {pts : List Pt} {at_ : Nat} {s : St} (hE : Emb pts at_ (ptsSt at_ s)) (h : ¬ s.op = 9) (h2 : ¬ s.op = 10) : pts[at_]? = some ⟨s.op, s.x, s.y, s.n, [at_ + 1]⟩ := by
  rw [ptsSt_eq, if_neg h, if_neg h2] at hE
  exact hE.head

/-- a leads to b, or is it -/
def LdE (pts : List Pt) (a b : Nat) : Prop := a = b ∨ Lds pts a b
theorem Lds.to {pts : List Pt} {a k b : Nat} {p : Pt} (hp : pts[a]? = some p) (hk : k ∈ p.next) (h : LdE pts k b) : Lds pts a b := by
  rcases h with rfl | h
  · exact .one hp hk
  · exact .more hp hk h

/-- a leads to it in no step or more, without passing wo -/
inductive Ard (pts : List Pt) (wo a : Nat) : Nat → Prop
  | refl (h : a ≠ wo) : Ard pts wo a a
  | step {k j : Nat} {p : Pt} (h : Ard pts wo a k) (hp : pts[k]? = some p) (hj : j ∈ p.next) (hne : j ≠ wo) : Ard pts wo a j
theorem Ard.ne {pts : List Pt} {wo a k : Nat} (h : Ard pts wo a k) : k ≠ wo := by cases h <;> assumption
/-- the state of the search for what a leads to without passing wo -/
structure ArI (pts : List Pt) (wo a : Nat) (fl : List Bool) (q : List Nat) : Prop where
  len : fl.length = pts.length
  snd : ∀ k, fl.getD k false = true → Ard pts wo a k
  qok : ∀ k ∈ q, (k ≠ wo → Ard pts wo a k) ∧ k < pts.length
  st : a ≠ wo → fl.getD a false = true ∨ a ∈ q
  cl : ∀ k p, fl.getD k false = true → pts[k]? = some p → ∀ j ∈ p.next, j = wo ∨ fl.getD j false = true ∨ j ∈ q
theorem ArI.init {pts : List Pt} {wo a : Nat} (ha : a < pts.length) : ArI pts wo a (List.replicate pts.length false) [a] := by
  have h0 : ∀ k, (List.replicate pts.length false).getD k false = false := fun k => by
    by_cases hk : k < pts.length
    · rw [getD_lt (by simpa using hk)]; simp
    · rw [getD_ge (by simpa using hk)]
  refine ⟨by simp, fun k hk => ?_, fun k hk => ?_, fun _ => .inr (by simp), fun k p hk => ?_⟩
  · rw [h0] at hk; cases hk
  · rw [List.mem_singleton] at hk; subst hk; exact ⟨.refl, ha⟩
  · rw [h0] at hk; cases hk
theorem ArI.skip {pts : List Pt} {wo a k : Nat} {fl : List Bool} {r : List Nat} (h : ArI pts wo a fl (k :: r)) (hk : k = wo ∨ fl.getD k false = true) : ArI pts wo a fl r := by
  refine ⟨h.len, h.snd, fun j hj => h.qok j (List.mem_cons_of_mem _ hj), fun hne => ?_, fun i p hi hp j hj => ?_⟩
  · rcases h.st hne with h1 | h1
    · exact .inl h1
    · rcases List.mem_cons.1 h1 with rfl | h2
      · rcases hk with hk | hk
        · exact absurd hk hne
        · exact .inl hk
      · exact .inr h2
  · rcases h.cl i p hi hp j hj with h1 | h1 | h1
    · exact .inl h1
    · exact .inr (.inl h1)
    · rcases List.mem_cons.1 h1 with rfl | h2
      · rcases hk with hk | hk
        · exact .inl hk
        · exact .inr (.inl hk)
      · exact .inr (.inr h2)
theorem ArI.mark {pts : List Pt} {wo a k : Nat} {fl : List Bool} {r : List Nat} {p : Pt} (h : ArI pts wo a fl (k :: r)) (hne : k ≠ wo) (hp : pts[k]? = some p) (hn : ∀ p ∈ pts, ∀ k ∈ p.next, k < pts.length) : ArI pts wo a (fl.set k true) (r ++ p.next) := by
  have hk := h.qok k List.mem_cons_self
  have hkl : k < fl.length := by rw [h.len]; exact hk.2
  have up : ∀ j, (fl.getD j false = true ∨ j ∈ k :: r) → ((fl.set k true).getD j false = true ∨ j ∈ r ++ p.next) := fun j hj => by
    rw [getD_setT hkl]
    by_cases e : j = k
    · rw [if_pos e]; exact .inl rfl
    · rw [if_neg e]
      rcases hj with h1 | h1
      · exact .inl h1
      · rcases List.mem_cons.1 h1 with h2 | h2
        · exact absurd h2 e
        · exact .inr (List.mem_append_left _ h2)
  refine ⟨by simp [h.len], fun j hj => ?_, fun j hj => ?_, fun ha => up _ (h.st ha), fun i p' hi hp' j hj => ?_⟩
  · rw [getD_setT hkl] at hj
    split at hj
    · rename_i e; subst e; exact hk.1 hne
    · exact h.snd j hj
  · rcases List.mem_append.1 hj with h1 | h1
    · exact h.qok j (List.mem_cons_of_mem _ h1)
    · exact ⟨fun hj => .step (hk.1 hne) hp h1 hj, hn _ (List.mem_of_getElem? hp) _ h1⟩
  · rw [getD_setT hkl] at hi
    split at hi
    · rename_i e; subst e
      rw [hp] at hp'; injection hp' with e; subst e
      exact .inr (.inr (List.mem_append_right _ hj))
    · rcases h.cl i p' hi hp' j hj with h1 | h1
      · exact .inl h1
      · exact .inr (up j h1)
theorem ArI.done {pts : List Pt} {wo a : Nat} {fl : List Bool} (h : ArI pts wo a fl []) (k : Nat) : fl.getD k false = true ↔ Ard pts wo a k := by
  refine ⟨h.snd k, fun hl => ?_⟩
  induction hl with
  | refl hne => exact (h.st hne).resolve_right (by simp)
  | step _ hp hj hne ih => exact ((h.cl _ _ ih hp _ hj).resolve_left hne).resolve_right (by simp)

end Go.Proofs.Ytidlifijgooceaa

/- Dominators: impl.graph.around, impl.graph.dominates, impl.Dominates. -/
namespace Go.Proofs.Ytidlifijgooceaa
open Go.RowKit

theorem graphOk_two {ts : List Int} {l : List St} {a b : Int} (h : graphOk ts l [a, b] = true) : validP ts l = true ∧ ∃ k j : Nat, a = k ∧ b = j ∧ k < (ptsP l).length ∧ j < (ptsP l).length := by
  unfold graphOk at h
  simp only [List.all_cons, List.all_nil, Bool.and_true, Bool.and_eq_true] at h
  obtain ⟨h1, h2, h3⟩ := h
  unfold withinP at h2 h3
  simp only [Bool.and_eq_true, decide_eq_true_eq] at h2 h3
  exact ⟨h1, a.toNat, b.toNat, by omega, by omega, by omega, by omega⟩
end Go.Proofs.Ytidlifijgooceaa

/- Plain: shortest ways, as a search in breadth finds them. No program in sight. -/
namespace Go.Proofs.Ytidlifijgooceaa

/-- a search's state: for each point the one before it (or -1), the points still to be looked at, the points still to be looked at behind c -/
structure WS where
  bk : List Int
  q : List Nat
  pe : List Nat
  c : Nat
def WS.fl (s : WS) (k : Nat) : Prop := 0 ≤ s.bk.getD k (-1)
def stepW (pts : List Pt) (s : WS) : WS := match s.pe with
  | j :: r => if s.bk.getD j (-1) < 0 then ⟨s.bk.set j (s.c : Nat), s.q ++ [j], r, s.c⟩ else ⟨s.bk, s.q, r, s.c⟩
  | [] => match s.q with
    | c :: r => ⟨s.bk, r, (ptD pts c).next, c⟩
    | [] => s
def itW (pts : List Pt) (a : Nat) : Nat → WS
  | 0 => ⟨List.replicate pts.length (-1), [a], [], a⟩
  | n + 1 => stepW pts (itW pts a n)
/-- the state s is one of the search's from a on -/
def WyS (pts : List Pt) (a : Nat) (s : WS) : Prop := ∃ n, s = itW pts a n
theorem WyS.init (pts : List Pt) (a : Nat) : WyS pts a ⟨List.replicate pts.length (-1), [a], [], a⟩ := ⟨0, rfl⟩
theorem WyS.pop {pts : List Pt} {a c d : Nat} {bk : List Int} {r : List Nat} (h : WyS pts a ⟨bk, c :: r, [], d⟩) (hc : c < pts.length) : WyS pts a ⟨bk, r, pts[c].next, c⟩ := by
  obtain ⟨n, h⟩ := h
  refine ⟨n + 1, ?_⟩
  simp only [itW, ← h, stepW, ptD_get hc]
theorem WyS.skip {pts : List Pt} {a c j : Nat} {bk : List Int} {q r : List Nat} (h : WyS pts a ⟨bk, q, j :: r, c⟩) (hj : 0 ≤ bk.getD j (-1)) : WyS pts a ⟨bk, q, r, c⟩ := by
  obtain ⟨n, h⟩ := h
  refine ⟨n + 1, ?_⟩
  simp only [itW, ← h, stepW]
  rw [if_neg (by omega)]
theorem WyS.take {pts : List Pt} {a c j : Nat} {bk : List Int} {q r : List Nat} (h : WyS pts a ⟨bk, q, j :: r, c⟩) (hj : bk.getD j (-1) < 0) : WyS pts a ⟨bk.set j (c : Nat), q ++ [j], r, c⟩ := by
  obtain ⟨n, h⟩ := h
  refine ⟨n + 1, ?_⟩
  simp only [itW, ← h, stepW]
  rw [if_pos hj]

theorem count_set_neg {bk : List Int} {k : Nat} {x : Int} (hk : k < bk.length) (h : bk.getD k (-1) = -1) (hx : x ≠ -1) : (bk.set k x).count (-1) + 1 = bk.count (-1) := by
  induction bk generalizing k with
  | nil => simp at hk
  | cons b r ih =>
    cases k with
    | zero => simp at h; subst h; simp [hx]
    | succ k =>
      have := ih (k := k) (by simpa using hk) (by simpa using h)
      simp only [List.set_cons_succ, List.count_cons]; omega
/-- what is known of a state; od has the points in the order in which they were found -/
structure WyI (pts : List Pt) (a : Nat) (s : WS) (od : List Nat) : Prop where
  len : s.bk.length = pts.length
  inn : ∀ k ∈ od, k < pts.length
  fill : ∀ k, k ∈ od → 0 ≤ s.bk.getD k (-1)
  none_ : ∀ k, k ∉ od → s.bk.getD k (-1) = -1
  cnt : od.length + s.bk.count (-1) = pts.length
  par : ∀ i k : Nat, od[i]? = some k → ∃ b : Nat, s.bk.getD k (-1) = b ∧ (∃ p, pts[b]? = some p ∧ k ∈ p.next) ∧ (b = a ∨ ∃ j : Nat, j < i ∧ od[j]? = some b)
  qok : ∀ k ∈ s.q, k < pts.length ∧ (k = a ∨ k ∈ od)
  pok : ∀ k ∈ s.pe, k < pts.length ∧ ∃ p, pts[s.c]? = some p ∧ k ∈ p.next
  cok : s.c < pts.length ∧ (s.c = a ∨ s.c ∈ od)
  cl : ∀ k p, (k = a ∨ k ∈ od) → pts[k]? = some p → ∀ j ∈ p.next, j ∈ od ∨ k ∈ s.q ∨ j ∈ s.pe
theorem itW_I {pts : List Pt} {a : Nat} (ha : a < pts.length) (hn : ∀ p ∈ pts, ∀ k ∈ p.next, k < pts.length) (n : Nat) : ∃ od, WyI pts a (itW pts a n) od := by
  induction n with
  | zero =>
    refine ⟨[], by simp [itW], by simp, by simp, fun k _ => ?_, by simp [itW], by simp, fun k hk => ?_, by simp [itW], ⟨ha, .inl rfl⟩, fun k p hk _ j _ => .inr (.inl ?_)⟩
    · simp only [itW]
      by_cases hk : k < pts.length
      · rw [getD_lt (by simpa using hk)]; simp
      · rw [getD_ge (by simpa using hk)]
    · simp only [itW, List.mem_singleton] at hk; subst hk; exact ⟨ha, .inl rfl⟩
    · rcases hk with hk | hk
      · subst hk; simp [itW]
      · simp at hk
  | succ n ih =>
    obtain ⟨od, h⟩ := ih
    simp only [itW]
    generalize itW pts a n = s at *
    obtain ⟨bk, q, pe, c⟩ := s
    unfold stepW
    cases pe with
    | cons j r =>
      simp only
      have hj := h.pok j List.mem_cons_self
      by_cases hb : bk.getD j (-1) < 0
      · rw [if_pos hb]
        have hjn : j ∉ od := fun hh => by have := h.fill j hh; simp only at this; omega
        have hjl : j < bk.length := by have := h.len; simp only at this; omega
        have old : ∀ k, k ≠ j → (bk.set j (c : Nat)).getD k (-1) = bk.getD k (-1) := fun k hk => by rw [getD_setT hjl, if_neg hk]
        have new : (bk.set j (c : Nat)).getD j (-1) = (c : Nat) := by rw [getD_setT hjl, if_pos rfl]
        refine ⟨od ++ [j], by simpa using h.len, fun k hk => ?_, fun k hk => ?_, fun k hk => ?_, ?_, fun i k hi => ?_, fun k hk => ?_, fun k hk => ?_, ⟨h.cok.1, ?_⟩, fun k p hk hp i hi => ?_⟩
        · rcases List.mem_append.1 hk with hk | hk
          · exact h.inn k hk
          · rw [List.mem_singleton] at hk; subst hk; exact hj.1
        · simp only
          by_cases e : k = j
          · subst e; rw [new]; omega
          · rw [old k e]
            rcases List.mem_append.1 hk with hk | hk
            · exact h.fill k hk
            · rw [List.mem_singleton] at hk; exact absurd hk e
        · simp only [List.mem_append, List.mem_singleton, not_or] at hk ⊢
          rw [old k hk.2]; exact h.none_ k hk.1
        · have h1 := h.cnt
          have h2 := count_set_neg (x := (c : Nat)) hjl (h.none_ j hjn) (by omega)
          simp only at h1 ⊢
          simp only [List.length_append, List.length_singleton]; omega
        · rcases Nat.lt_or_ge i od.length with hlt | hge
          · rw [List.getElem?_append_left hlt] at hi
            obtain ⟨b, h1, h2, h3⟩ := h.par i k hi
            have hkj : k ≠ j := fun e => hjn (e ▸ List.mem_of_getElem? hi)
            refine ⟨b, ?_, h2, ?_⟩
            · simp only; rw [old k hkj]; exact h1
            · rcases h3 with h3 | ⟨m, hm, h3⟩
              · exact .inl h3
              · exact .inr ⟨m, hm, by rw [List.getElem?_append_left (by omega)]; exact h3⟩
          · rw [List.getElem?_append_right hge] at hi
            have hi0 : i - od.length = 0 := by
              rcases Nat.eq_zero_or_pos (i - od.length) with h0 | h0
              · exact h0
              · rw [List.getElem?_eq_none (by simp; omega)] at hi; cases hi
            rw [hi0] at hi
            simp at hi
            subst hi
            refine ⟨c, new, hj.2, ?_⟩
            rcases h.cok.2 with h3 | h3
            · exact .inl h3
            · obtain ⟨m, hm, e⟩ := List.getElem_of_mem h3
              exact .inr ⟨m, by omega, by rw [List.getElem?_append_left hm, List.getElem?_eq_getElem hm, e]⟩
        · rcases List.mem_append.1 hk with hk | hk
          · have := h.qok k hk; exact ⟨this.1, this.2.imp id (fun h => List.mem_append_left _ h)⟩
          · rw [List.mem_singleton] at hk; subst hk; exact ⟨hj.1, .inr (by simp)⟩
        · exact h.pok k (List.mem_cons_of_mem _ hk)
        · exact h.cok.2.imp id (fun h => List.mem_append_left _ h)
        · by_cases e : k ∈ q ++ [j]
          · exact .inr (.inl e)
          · simp only [List.mem_append, List.mem_singleton, not_or] at e
            have hk2 : k = a ∨ k ∈ od := by
              rcases hk with hk | hk
              · exact .inl hk
              · rcases List.mem_append.1 hk with hk | hk
                · exact .inr hk
                · rw [List.mem_singleton] at hk; exact absurd hk e.2
            rcases h.cl k p hk2 hp i hi with h1 | h1 | h1
            · exact .inl (List.mem_append_left _ h1)
            · exact absurd h1 e.1
            · rcases List.mem_cons.1 h1 with h1 | h1
              · subst h1; exact .inl (by simp)
              · exact .inr (.inr h1)
      · rw [if_neg hb]
        have hjo : j ∈ od := Classical.byContradiction fun hh => by have := h.none_ j hh; simp only at this; omega
        refine ⟨od, h.len, h.inn, h.fill, h.none_, h.cnt, h.par, h.qok, fun k hk => h.pok k (List.mem_cons_of_mem _ hk), h.cok, fun k p hk hp i hi => ?_⟩
        rcases h.cl k p hk hp i hi with h1 | h1 | h1
        · exact .inl h1
        · exact .inr (.inl h1)
        · rcases List.mem_cons.1 h1 with h1 | h1
          · subst h1; exact .inl hjo
          · exact .inr (.inr h1)
    | nil =>
      simp only
      cases q with
      | nil => exact ⟨od, h⟩
      | cons k r =>
        have hk := h.qok k List.mem_cons_self
        simp only
        rw [ptD_get hk.1]
        refine ⟨od, h.len, h.inn, h.fill, h.none_, h.cnt, h.par, fun j hj => h.qok j (List.mem_cons_of_mem _ hj), fun j hj => ⟨hn _ (List.getElem_mem hk.1) j hj, _, List.getElem?_eq_getElem hk.1, hj⟩, hk, fun i p hi hp j hj => ?_⟩
        rcases h.cl i p hi hp j hj with h1 | h1 | h1
        · exact .inl h1
        · rcases List.mem_cons.1 h1 with h1 | h1
          · subst h1
            rw [List.getElem?_eq_getElem hk.1] at hp
            injection hp with hp
            subst hp
            exact .inr (.inr hj)
          · exact .inr (.inl h1)
        · simp at h1
theorem WyS.I {pts : List Pt} {a : Nat} {s : WS} (h : WyS pts a s) (ha : a < pts.length) (hn : ∀ p ∈ pts, ∀ k ∈ p.next, k < pts.length) : ∃ od, WyI pts a s od := by
  obtain ⟨n, rfl⟩ := h; exact itW_I ha hn n
theorem stepW_up (pts : List Pt) (s : WS) (k : Nat) (h : 0 ≤ s.bk.getD k (-1)) : (stepW pts s).bk.getD k (-1) = s.bk.getD k (-1) := by
  obtain ⟨bk, q, pe, c⟩ := s
  unfold stepW
  cases pe with
  | cons j r =>
    simp only at h ⊢
    split
    · rename_i hb
      have hkj : k ≠ j := fun e => by subst e; omega
      by_cases hl : j < bk.length
      · rw [getD_setT hl, if_neg hkj]
      · rw [List.set_eq_of_length_le (by omega)]
    · rfl
  | nil =>
    cases q with
    | nil => rfl
    | cons c r => rfl
theorem itW_up {pts : List Pt} {a n m k : Nat} (hnm : n ≤ m) (h : 0 ≤ (itW pts a n).bk.getD k (-1)) : (itW pts a m).bk.getD k (-1) = (itW pts a n).bk.getD k (-1) := by
  induction m with
  | zero => have : n = 0 := by omega
            subst this; rfl
  | succ m ih =>
    by_cases e : n = m + 1
    · subst e; rfl
    · have := ih (by omega)
      rw [itW, stepW_up _ _ _ (by rw [this]; exact h), this]
theorem itW_stop {pts : List Pt} {a n m : Nat} (hnm : n ≤ m) (hq : (itW pts a n).q = []) (hp : (itW pts a n).pe = []) : itW pts a m = itW pts a n := by
  induction m with
  | zero => have : n = 0 := by omega
            subst this; rfl
  | succ m ih =>
    by_cases e : n = m + 1
    · subst e; rfl
    · rw [itW, ih (by omega)]
      generalize itW pts a n = s at *
      obtain ⟨bk, q, pe, c⟩ := s
      simp only at hq hp
      subst hq hp
      rfl
/-- the points before k, up to a -/
inductive Chn (bk : List Int) (a : Nat) : Nat → List Nat → Prop
  | stop {k : Nat} (h : bk.getD k (-1) = (a : Nat)) : Chn bk a k [a]
  | more {k b : Nat} {L : List Nat} (h : bk.getD k (-1) = (b : Nat)) (hne : b ≠ a) (r : Chn bk a b L) : Chn bk a k (b :: L)
theorem Chn.det {bk : List Int} {a k : Nat} {L M : List Nat} (h : Chn bk a k L) (h2 : Chn bk a k M) : L = M := by
  induction h generalizing M with
  | stop h =>
    cases h2 with
    | stop _ => rfl
    | more h2 hne _ => rw [h] at h2; exact absurd (by omega) hne
  | more h hne r ih =>
    cases h2 with
    | stop h2 => rw [h] at h2; exact absurd (by omega) hne
    | more h2 _ r2 =>
      rw [h] at h2
      have := Int.ofNat.inj h2
      subst this
      rw [ih r2]
theorem Chn.up {bk bk' : List Int} {a k : Nat} {L : List Nat} (h : Chn bk a k L) (hu : ∀ k, 0 ≤ bk.getD k (-1) → bk'.getD k (-1) = bk.getD k (-1)) : Chn bk' a k L := by
  induction h with
  | stop h => exact .stop (by rw [hu _ (by rw [h]; omega)]; exact h)
  | more h hne _ ih => exact .more (by rw [hu _ (by rw [h]; omega)]; exact h) hne ih
theorem WyI.chain {pts : List Pt} {a : Nat} {s : WS} {od : List Nat} (h : WyI pts a s od) : ∀ i k, od[i]? = some k → ∃ L, Chn s.bk a k L ∧ L.length ≤ i + 1 := by
  intro i
  induction i using Nat.strongRecOn with
  | _ i ih =>
    intro k hk
    obtain ⟨b, h1, h2, h3⟩ := h.par i k hk
    by_cases e : b = a
    · subst e; exact ⟨[b], .stop h1, by simp⟩
    · rcases h3 with h3 | ⟨j, hj, h3⟩
      · exact absurd h3 e
      · obtain ⟨L, hL, hl⟩ := ih j hj b h3
        exact ⟨b :: L, .more h1 e hL, by simp; omega⟩
theorem WyI.found {pts : List Pt} {a k : Nat} {s : WS} {od : List Nat} (h : WyI pts a s od) (hf : 0 ≤ s.bk.getD k (-1)) : ∃ L, Chn s.bk a k L ∧ L.length ≤ pts.length := by
  have hk : k ∈ od := Classical.byContradiction fun hh => by have := h.none_ k hh; omega
  obtain ⟨i, hi, e⟩ := List.getElem_of_mem hk
  obtain ⟨L, h1, h2⟩ := h.chain i k (by rw [List.getElem?_eq_getElem hi, e])
  have := h.cnt
  exact ⟨L, h1, by omega⟩
/-- a way from a to t, in one step or more -/
structure IsWay (pts : List Pt) (a t : Nat) (w : List Nat) : Prop where
  two : 2 ≤ w.length
  first : w.getD 0 0 = a
  last : w.getD (w.length - 1) 0 = t
  inn : ∀ k ∈ w, k < pts.length
  edge : ∀ i, i + 1 < w.length → ∃ p, pts[w.getD i 0]? = some p ∧ w.getD (i + 1) 0 ∈ p.next
theorem getD_snocN {w : List Nat} {x i : Nat} : (w ++ [x]).getD i 0 = if i < w.length then w.getD i 0 else if i = w.length then x else 0 := by
  split
  · rename_i h; rw [getD_lt (by simp; omega), getD_lt h, List.getElem_append_left h]
  · split
    · rename_i h; subst h; rw [getD_lt (by simp)]; simp
    · rw [getD_ge (by simp; omega)]
theorem IsWay.snoc {pts : List Pt} {a b t : Nat} {w : List Nat} (h : IsWay pts a b w) (hb : ∃ p, pts[b]? = some p ∧ t ∈ p.next) (ht : t < pts.length) : IsWay pts a t (w ++ [t]) := by
  have h2 := h.two
  refine ⟨by simp; omega, ?_, ?_, fun k hk => ?_, fun i hi => ?_⟩
  · rw [getD_snocN, if_pos (by omega)]; exact h.first
  · rw [getD_snocN]; simp
  · rcases List.mem_append.1 hk with hk | hk
    · exact h.inn k hk
    · rw [List.mem_singleton] at hk; subst hk; exact ht
  · simp at hi
    rw [getD_snocN, getD_snocN, if_pos hi]
    by_cases e : i + 1 < w.length
    · rw [if_pos e]; exact h.edge i e
    · have e2 : i = w.length - 1 := by omega
      rw [if_neg e, if_pos (by omega), e2, h.last]; exact hb
theorem Chn.way {pts : List Pt} {a k : Nat} {bk : List Int} {L : List Nat} (h : Chn bk a k L) (hk : k < pts.length) (hp : ∀ k, k < pts.length → 0 ≤ bk.getD k (-1) → ∃ b : Nat, bk.getD k (-1) = b ∧ b < pts.length ∧ ∃ p, pts[b]? = some p ∧ k ∈ p.next) : IsWay pts a k (k :: L).reverse := by
  induction h with
  | @stop k h =>
    obtain ⟨b, h1, h2, h3⟩ := hp k hk (by rw [h]; omega)
    rw [h] at h1
    have := Int.ofNat.inj h1
    subst this
    have e : ([k, a] : List Nat).reverse = [a, k] := rfl
    rw [e]
    refine ⟨by simp, rfl, rfl, fun j hj => ?_, fun i hi => ?_⟩
    · simp at hj; rcases hj with rfl | rfl <;> assumption
    · have : i = 0 := by simp at hi; omega
      subst this; exact h3
  | @more k b L h hne r ih =>
    obtain ⟨b', h1, h2, h3⟩ := hp k hk (by rw [h]; omega)
    rw [h] at h1
    have := Int.ofNat.inj h1
    subst this
    rw [List.reverse_cons]
    exact (ih h2).snoc h3 hk
theorem IsWay.lds {pts : List Pt} {a t : Nat} {w : List Nat} (h : IsWay pts a t w) : Lds pts a t := by
  have h2 := h.two
  have : ∀ i, i + 1 < w.length → Lds pts a (w.getD (i + 1) 0) := fun i => by
    induction i with
    | zero => intro hi; obtain ⟨p, hp, hb⟩ := h.edge 0 hi; rw [h.first] at hp; exact .one hp hb
    | succ i ih => intro hi; obtain ⟨p, hp, hb⟩ := h.edge (i + 1) hi; exact (ih (by omega)).snoc hp hb
  have := this (w.length - 2) (by omega)
  rwa [show w.length - 2 + 1 = w.length - 1 by omega, h.last] at this
theorem WyI.ended {pts : List Pt} {a k : Nat} {s : WS} {od : List Nat} (h : WyI pts a s od) (hq : s.q = []) (hp : s.pe = []) (hl : Lds pts a k) : 0 ≤ s.bk.getD k (-1) := by
  have cl : ∀ i k, (i = a ∨ i ∈ od) → Lds pts i k → k ∈ od := fun i k hi hl => by
    induction hl with
    | one hp2 hb =>
      rcases h.cl _ _ hi hp2 _ hb with h1 | h1 | h1
      · exact h1
      · rw [hq] at h1; simp at h1
      · rw [hp] at h1; simp at h1
    | more hp2 hk _ ih =>
      rcases h.cl _ _ hi hp2 _ hk with h1 | h1 | h1
      · exact ih (.inr h1)
      · rw [hq] at h1; simp at h1
      · rw [hp] at h1; simp at h1
  exact h.fill k (cl a k (.inl rfl) hl)
theorem WyI.par_ {pts : List Pt} {a : Nat} {s : WS} {od : List Nat} (h : WyI pts a s od) : ∀ k, k < pts.length → 0 ≤ s.bk.getD k (-1) → ∃ b : Nat, s.bk.getD k (-1) = b ∧ b < pts.length ∧ ∃ p, pts[b]? = some p ∧ k ∈ p.next := fun k _ hf => by
  have hk : k ∈ od := Classical.byContradiction fun hh => by have := h.none_ k hh; omega
  obtain ⟨i, hi, e⟩ := List.getElem_of_mem hk
  obtain ⟨b, h1, h2, _⟩ := h.par i k (by rw [List.getElem?_eq_getElem hi, e])
  refine ⟨b, h1, ?_, h2⟩
  obtain ⟨p, hp, _⟩ := h2
  exact (List.getElem?_eq_some_iff.1 hp).1

open Classical in
/-- the points before t on the way that the search finds -/
noncomputable def wayC (pts : List Pt) (a t : Nat) : Option (List Nat) := if h : ∃ L n, Chn (itW pts a n).bk a t L then some h.choose else none
theorem wayC_of {pts : List Pt} {a t : Nat} {s : WS} {L : List Nat} (h : WyS pts a s) (hc : Chn s.bk a t L) : wayC pts a t = some L := by
  obtain ⟨n, rfl⟩ := h
  have he : ∃ L n, Chn (itW pts a n).bk a t L := ⟨L, n, hc⟩
  unfold wayC
  rw [dif_pos he]
  obtain ⟨m, hm⟩ := he.choose_spec
  have key : ∀ n m L M, n ≤ m → Chn (itW pts a n).bk a t L → Chn (itW pts a m).bk a t M → L = M := fun n m L M hnm h1 h2 => (h1.up fun k hk => itW_up hnm hk).det h2
  rcases Nat.le_total n m with h | h
  · rw [key n m _ _ h hc hm]
  · rw [← key m n _ _ h hm hc]
theorem wayC_none {pts : List Pt} {a t : Nat} {s : WS} (h : WyS pts a s) (hq : s.q = []) (hp : s.pe = []) (hf : s.bk.getD t (-1) < 0) : wayC pts a t = none := by
  obtain ⟨n, rfl⟩ := h
  unfold wayC
  rw [dif_neg]
  rintro ⟨L, m, hc⟩
  have hfm : 0 ≤ (itW pts a m).bk.getD t (-1) := by
    cases hc with
    | stop h => rw [h]; omega
    | more h => rw [h]; omega
  rcases Nat.le_total n m with h | h
  · rw [itW_stop h hq hp] at hfm; omega
  · rw [itW_up h hfm] at hf; omega
/-- the way from a to t, if there is one -/
noncomputable def wayN (pts : List Pt) (a t : Nat) : List Nat := match wayC pts a t with
  | some L => (t :: L).reverse
  | none => []
theorem wayC_ok {pts : List Pt} {a t : Nat} (ha : a < pts.length) (ht : t < pts.length) (hn : ∀ p ∈ pts, ∀ k ∈ p.next, k < pts.length) {L : List Nat} (h : wayC pts a t = some L) : IsWay pts a t (t :: L).reverse ∧ (t :: L).length ≤ pts.length + 1 := by
  unfold wayC at h
  split at h
  · rename_i he
    injection h with h
    obtain ⟨n, hc⟩ := he.choose_spec
    rw [h] at hc
    obtain ⟨od, hi⟩ := itW_I ha hn n
    have hf : 0 ≤ (itW pts a n).bk.getD t (-1) := by
      cases hc with
      | stop h3 => rw [h3]; omega
      | more h3 => rw [h3]; omega
    obtain ⟨M, hM, hl⟩ := hi.found hf
    obtain rfl := hc.det hM
    exact ⟨hc.way ht hi.par_, by simp; omega⟩
  · cases h
/-- the search comes to an end -/
def muW2 (s : WS) : Nat := 3 * (s.q.length + 2 * s.bk.count (-1)) + s.pe.length
theorem stepW_mu {pts : List Pt} {a : Nat} {s : WS} {od : List Nat} (h : WyI pts a s od) (h2 : ∀ p ∈ pts, p.next.length ≤ 2) (hne : ¬ (s.q = [] ∧ s.pe = [])) : muW2 (stepW pts s) < muW2 s := by
  obtain ⟨bk, q, pe, c⟩ := s
  unfold stepW muW2
  cases pe with
  | cons j r =>
    simp only
    have hj := h.pok j List.mem_cons_self
    split
    · rename_i hb
      have hjl : j < bk.length := by have := h.len; simp only at this; omega
      have hjn : j ∉ od := fun hh => by have := h.fill j hh; simp only at this; omega
      have := count_set_neg (x := (c : Nat)) hjl (h.none_ j hjn) (by omega)
      simp only [List.length_append, List.length_cons, List.length_nil]; omega
    · simp only [List.length_cons]; omega
  | nil =>
    cases q with
    | nil => exact absurd ⟨rfl, rfl⟩ hne
    | cons k r =>
      have hk := h.qok k List.mem_cons_self
      have := h2 _ (List.getElem_mem hk.1)
      simp only [ptD_get hk.1, List.length_cons, List.length_nil]; omega
theorem wayC_lds {pts : List Pt} {a t : Nat} (ha : a < pts.length) (ht : t < pts.length) (hn : ∀ p ∈ pts, ∀ k ∈ p.next, k < pts.length) (h2 : ∀ p ∈ pts, p.next.length ≤ 2) : (wayC pts a t).isSome = true ↔ Lds pts a t := by
  constructor
  · intro h
    obtain ⟨L, h⟩ := Option.isSome_iff_exists.1 h
    exact (wayC_ok ha ht hn h).1.lds
  · intro hl
    have fin : ∀ m n, muW2 (itW pts a n) ≤ m → ∃ k, (itW pts a k).q = [] ∧ (itW pts a k).pe = [] := by
      intro m
      induction m with
      | zero =>
        intro n hm
        obtain ⟨od, hi⟩ := itW_I ha hn n
        refine Classical.byContradiction fun hno => ?_
        have := stepW_mu hi h2 (fun h => hno ⟨n, h⟩)
        omega
      | succ m ih =>
        intro n hm
        obtain ⟨od, hi⟩ := itW_I ha hn n
        by_cases hne : (itW pts a n).q = [] ∧ (itW pts a n).pe = []
        · exact ⟨n, hne⟩
        · have := stepW_mu hi h2 hne
          exact ih (n + 1) (by rw [itW]; omega)
    obtain ⟨k, hq, hp⟩ := fin _ 0 (Nat.le_refl _)
    obtain ⟨od, hi⟩ := itW_I ha hn k
    have hf := hi.ended hq hp hl
    obtain ⟨L, hc, _⟩ := hi.found hf
    rw [wayC_of ⟨k, rfl⟩ hc]; rfl

end Go.Proofs.Ytidlifijgooceaa

/- Plain: the search for a shortest way, step by step; a list reversed in place. No program in sight. -/
namespace Go.Proofs.Ytidlifijgooceaa

section
variable {pts : List Pt} {a : Nat}
theorem WyS.popMu (ha : a < pts.length) (hn : ∀ p ∈ pts, ∀ k ∈ p.next, k < pts.length) (h2 : ∀ p ∈ pts, p.next.length ≤ 2) {c d : Nat} {bk : List Int} {r : List Nat} (h : WyS pts a ⟨bk, c :: r, [], d⟩) (hc : c < pts.length) : muW2 ⟨bk, r, pts[c].next, c⟩ < muW2 ⟨bk, c :: r, [], d⟩ := by
  obtain ⟨od, hi⟩ := h.I ha hn
  have := stepW_mu hi h2 (by simp)
  simpa only [stepW, ptD_get hc] using this
theorem WyS.skipMu (ha : a < pts.length) (hn : ∀ p ∈ pts, ∀ k ∈ p.next, k < pts.length) (h2 : ∀ p ∈ pts, p.next.length ≤ 2) {c j : Nat} {bk : List Int} {q r : List Nat} (h : WyS pts a ⟨bk, q, j :: r, c⟩) (hj : 0 ≤ bk.getD j (-1)) : muW2 ⟨bk, q, r, c⟩ < muW2 ⟨bk, q, j :: r, c⟩ := by
  obtain ⟨od, hi⟩ := h.I ha hn
  have := stepW_mu hi h2 (by simp)
  simp only [stepW] at this
  rwa [if_neg (by omega)] at this
theorem WyS.takeMu (ha : a < pts.length) (hn : ∀ p ∈ pts, ∀ k ∈ p.next, k < pts.length) (h2 : ∀ p ∈ pts, p.next.length ≤ 2) {c j : Nat} {bk : List Int} {q r : List Nat} (h : WyS pts a ⟨bk, q, j :: r, c⟩) (hj : bk.getD j (-1) < 0) : muW2 ⟨bk.set j (c : Nat), q ++ [j], r, c⟩ < muW2 ⟨bk, q, j :: r, c⟩ := by
  obtain ⟨od, hi⟩ := h.I ha hn
  have := stepW_mu hi h2 (by simp)
  simp only [stepW] at this
  rwa [if_pos hj] at this
theorem WyS.bnd (ha : a < pts.length) (hn : ∀ p ∈ pts, ∀ k ∈ p.next, k < pts.length) {s : WS} (h : WyS pts a s) : s.bk.length = pts.length ∧ (∀ k ∈ s.q, k < pts.length) ∧ (∀ k ∈ s.pe, k < pts.length) ∧ s.c < pts.length ∧ ∀ k, -1 ≤ s.bk.getD k (-1) ∧ s.bk.getD k (-1) < pts.length := by
  obtain ⟨od, hi⟩ := h.I ha hn
  refine ⟨hi.len, fun k hk => (hi.qok k hk).1, fun k hk => (hi.pok k hk).1, hi.cok.1, fun k => ?_⟩
  by_cases hk : k ∈ od
  · have hf := hi.fill k hk
    obtain ⟨b, h1, h3, _⟩ := hi.par_ k (hi.inn k hk) hf
    rw [h1]; omega
  · rw [hi.none_ k hk]; omega
theorem WyS.chn (ha : a < pts.length) (hn : ∀ p ∈ pts, ∀ k ∈ p.next, k < pts.length) {s : WS} (h : WyS pts a s) {t : Nat} (hf : 0 ≤ s.bk.getD t (-1)) : ∃ L, Chn s.bk a t L ∧ wayC pts a t = some L ∧ L.length ≤ pts.length := by
  obtain ⟨od, hi⟩ := h.I ha hn
  obtain ⟨L, hc, hl⟩ := hi.found hf
  exact ⟨L, hc, wayC_of h hc, hl⟩
end
theorem Chn.cons {bk : List Int} {a k : Nat} {M : List Nat} (h : Chn bk a k M) : ∃ b M', M = b :: M' ∧ bk.getD k (-1) = (b : Nat) ∧ (b = a ∧ M' = [] ∨ b ≠ a ∧ Chn bk a b M') := by
  cases h with
  | stop h => exact ⟨a, [], rfl, h, .inl ⟨rfl, rfl⟩⟩
  | @more _ b L h hne r => exact ⟨b, L, rfl, h, .inr ⟨hne, r⟩⟩
theorem muW2_init (pts : List Pt) (a : Nat) (h : pts.length ≤ 61) : muW2 ⟨List.replicate pts.length (-1), [a], [], a⟩ ≤ 400 := by
  unfold muW2; simp; omega

/-- l after k pairs were exchanged -/
def revK (l : List Int) (k : Nat) : List Int := (List.range l.length).map fun x => if x < k ∨ l.length < x + k + 1 then l.getD (l.length - 1 - x) 0 else l.getD x 0
theorem revK_len (l : List Int) (k : Nat) : (revK l k).length = l.length := by simp [revK]
theorem revK_get {l : List Int} {k x : Nat} (h : x < l.length) : (revK l k).getD x 0 = if x < k ∨ l.length < x + k + 1 then l.getD (l.length - 1 - x) 0 else l.getD x 0 := by
  rw [getD_lt (by rw [revK_len]; exact h)]; simp [revK]
theorem list_ext0 {l m : List Int} (hl : l.length = m.length) (h : ∀ x, x < l.length → l.getD x 0 = m.getD x 0) : l = m := by
  apply List.ext_getElem hl
  intro i h1 h2
  have := h i h1
  rwa [getD_lt h1, getD_lt h2] at this
theorem revK_zero (l : List Int) : revK l 0 = l := by
  refine list_ext0 (revK_len l 0) fun x hx => ?_
  rw [revK_len] at hx
  rw [revK_get hx, if_neg (by omega)]
theorem revK_step {l : List Int} {k : Nat} (h : k + k + 1 < l.length) : ((revK l k).set k ((revK l k).getD (l.length - 1 - k) 0)).set (l.length - 1 - k) ((revK l k).getD k 0) = revK l (k + 1) := by
  refine list_ext0 (by simp [revK_len]) fun x hx => ?_
  simp only [List.length_set, revK_len] at hx
  have s : ∀ (m : List Int) (i : Nat) (u : Int), i < m.length → (m.set i u).getD x 0 = if x = i then u else m.getD x 0 := fun m i u hi => by
    by_cases e : x = i
    · subst e; simp [List.getD, hi]
    · simp [List.getD, e, Ne.symm e]
  rw [s _ _ _ (by simp [revK_len]; omega), s _ _ _ (by rw [revK_len]; omega), revK_get hx, revK_get hx, revK_get (x := k) (by omega), revK_get (x := l.length - 1 - k) (by omega)]
  by_cases e1 : x = l.length - 1 - k
  · subst e1
    rw [if_pos rfl, if_neg (by omega), if_pos (by omega), show l.length - 1 - (l.length - 1 - k) = k by omega]
  · rw [if_neg e1]
    by_cases e2 : x = k
    · subst e2
      rw [if_pos rfl, if_neg (by omega), if_pos (by omega)]
    · rw [if_neg e2]
      by_cases e3 : x < k ∨ l.length < x + k + 1
      · rw [if_pos e3, if_pos (by omega)]
      · rw [if_neg e3, if_neg (by omega)]
theorem revK_end {l : List Int} {k : Nat} (h : l.length ≤ k + k + 1) : revK l k = l.reverse := by
  refine list_ext0 (by simp [revK_len]) fun x hx => ?_
  rw [revK_len] at hx
  rw [revK_get hx]
  have hr : l.reverse.getD x 0 = l.getD (l.length - 1 - x) 0 := by
    rw [getD_lt (by simpa using hx), getD_lt (by omega), List.getElem_reverse]
  rw [hr]
  by_cases e3 : x < k ∨ l.length < x + k + 1
  · rw [if_pos e3]
  · rw [if_neg e3, show l.length - 1 - x = x by omega]

end Go.Proofs.Ytidlifijgooceaa

/- Shortest ways: slices.Reverse of ints, impl.graph.shortWay, impl.ShortWay. -/
namespace Go.Proofs.Ytidlifijgooceaa
open Go.RowKit

def zi (l : List Int) : List Value := l.map (.int .i64)
theorem zi_len (l : List Int) : (zi l).length = l.length := by simp [zi]
theorem zi_get {l : List Int} {k : Nat} (d : Int) (hk : k < l.length) : (zi l)[k]? = some (.int .i64 (l.getD k d)) := by
  rw [List.getElem?_eq_getElem (by rw [zi_len]; exact hk), getD_lt hk]; simp [zi]
theorem zi_set (l : List Int) (k : Nat) (m : Int) : (zi l).set k (.int .i64 m) = zi (l.set k m) := by simp [zi, List.map_set]
theorem OInts.at0 {w : World} {base g n c : Nat} {l : List Int} (h : OInts w base (.slice (some ⟨g, 0, none⟩) n c) l) (hn : n = l.length) {k : Nat} (hk : k < l.length) : w.cell? ⟨g, k, none⟩ = some (.int .i64 (l.getD k 0)) ∧ w.frozen? ⟨g, k, none⟩ = false := by
  subst hn
  refine ⟨?_, World.ownsRow.frozenAt h k⟩
  rw [World.ownsRow.cellAt h k (by omega), List.getElem?_map, List.getElem?_eq_getElem hk, getD_lt hk]; rfl
theorem OInts.put {w : World} {base g n c : Nat} {l : List Int} (h : OInts w base (.slice (some ⟨g, 0, none⟩) n c) l) (hn : n = l.length) (k : Nat) (x : Int) : OInts (w.setCell ⟨g, k, none⟩ (.int .i64 x)) base (.slice (some ⟨g, 0, none⟩) n c) (l.set k x) := by
  subst hn
  have := (World.ownsRow.stored h k (.int .i64 x)).1
  unfold OInts
  rw [List.length_set, List.map_set]
  exact this

set_option maxHeartbeats 2000000 in
set_option maxRecDepth 100000 in
theorem reverse_any (v : Value) (l : List Int) (base : Nat) (w : World) (h : OInts w base v l) (hb : base ≤ w.heap.size) (hl : l.length ≤ 100000) :
    Calls Try.prog 162 #[v] w fun e w' => e = .returned (.tuple #[]) ∧ OInts w' base v l.reverse ∧ Below base w w' := by
  by_cases h0 : l.length = 0
  · obtain rfl : l = [] := List.length_eq_zero_iff.1 h0
    have H := Lib.hid h
    obtain ⟨A, c, rfl, hc⟩ := h.slice
    simp only [List.length_nil] at H ⊢
    clear h h0
    go_enter Try.func162, Try.ntmps162
    go_wp2_with (at_builtin; fail)
    refine wp_loop_rounds 1 ?_; rw [rounds_succ]
    go_wp2_with (at_builtin; fail)
    go_end0
    exact ⟨rfl, by simpa using H.out, Below.refl _ _⟩
  · obtain ⟨g, c, rfl, hbg, hgl⟩ := World.ownsRow.form h (by omega)
    obtain ⟨n, hn⟩ : ∃ n, n = l.length := ⟨_, rfl⟩
    have H : Hid (OInts w base (.slice (some ⟨g, 0, none⟩) n c) (revK l 0)) := Lib.hid (by rw [revK_zero, hn]; exact h)
    have hnc : n ≤ c := by obtain ⟨A, c', e, hc'⟩ := h.slice; injection e with _ _ e3; subst e3; omega
    have HN := Lib.hid hn
    rw [← hn] at h0 hl ⊢
    clear h hn
    go_enter Try.func162, Try.ntmps162
    go_wp2_with (at_builtin; fail)
    go_loopw [2, 3] (fun i j wr => ∃ k : Nat, i = .int .i64 k ∧ j = .int .i64 ((n : Int) - 1 - k) ∧ k + k ≤ n ∧ OInts wr base (.slice (some ⟨g, 0, none⟩) n c) (revK l k) ∧ Below base w wr) (fun i _ _ => n - (intOf i).toNat)
    case atStart => exact ⟨0, rfl, by go_num, by omega, H.out, Below.refl _ _⟩
    case round =>
      obtain ⟨k, rfl, rfl, hk, hO, hbw⟩ := hrel
      have HO := Lib.hid hO
      have HBW := Lib.hid hbw
      clear hbw
      by_cases hlt : k + k + 1 < n
      · obtain ⟨m, hm⟩ : ∃ m : Nat, m = n - 1 - k := ⟨_, rfl⟩
        have hmn : m < n := by omega
        have hkn : k < n := by omega
        have hkm : k < m := by omega
        have hki : ((k : Int) < (m : Int)) := by omega
        have hmc : ((n : Int) - 1 - (k : Int)) = ((m : Nat) : Int) := by omega
        rw [hmc]
        have HST := Lib.hid (revK_step (l := l) (k := k) (by rw [← HN.out]; exact hlt))
        rw [← HN.out, ← hm] at HST
        have hrl : (revK l k).length = n := by rw [revK_len, ← HN.out]
        obtain ⟨a0, f0⟩ := hO.at0 hrl.symm (k := k) (by omega)
        obtain ⟨a1, f1⟩ := hO.at0 hrl.symm (k := m) (by omega)
        have HRL := Lib.hid hrl
        have hne : m ≠ k := by omega
        have hne2 : k ≠ m := by omega
        have HJ : Hid ((m : Int) - 1 = (n : Int) - 1 - ((k + 1 : Nat) : Int)) := Lib.hid (by omega)
        generalize revK l k = R at *
        generalize R.getD k 0 = x at *
        generalize R.getD m 0 = y at *
        clear hO hrl hm hmc
        go_wp2_with (at_builtin; fail)
        go_region
        all_goals
          go_wp2_with (at_builtin; fail)
          refine ⟨⟨k + 1, by go_num, by rw [← HJ.out], by omega, ?_, ?_⟩, by simp [intOf] <;> omega⟩
          · rw [← HST.out]
            exact (HO.out.put HRL.out.symm k y).put (by rw [List.length_set]; exact HRL.out.symm) m x
          · exact ((HBW.out.setCell (p := ⟨g, k, none⟩) hbg _).setCell (p := ⟨g, m, none⟩) hbg _).drew
      · have HE : Hid (OInts wr base (.slice (some ⟨g, 0, none⟩) n c) l.reverse) := Lib.hid (by rw [← revK_end (l := l) (k := k) (by rw [← HN.out]; omega)]; exact HO.out)
        have hki : ¬ ((k : Int) < (n : Int) - 1 - (k : Int)) := by omega
        clear hO HO
        go_wp2_with (at_builtin; fail)
        go_end0
        exact ⟨rfl, HE.out, HBW.out⟩

end Go.Proofs.Ytidlifijgooceaa
