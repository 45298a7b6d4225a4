import Derived.Test.YtidlifijgooceaaW06
set_option linter.unusedVariables false

/- Plain: what a valid program's points are like; what the exported functions answer. No program in sight. -/
namespace Go.Proofs.Ytidlifijgooceaa

def PtOk (ts : List Int) (p : Pt) : Prop := p.op = 9 ∨ p.op = 10 ∨ p.op = 11 ∨ simpleP ts p.op p.x p.y p.n = true
mutual
theorem ptsSt_ok (ts : List Int) (at_ d : Nat) : ∀ s : St, stOk ts d s = true → ∀ p ∈ ptsSt at_ s, PtOk ts p
  | .mk op x y n th el => by
    have h1 := fun a d => ptsL_ok ts a d th
    have h2 := fun a d => ptsL_ok ts a d el
    intro hs p hp
    simp only [stOk] at hs
    simp only [ptsSt] at hp
    split at hp
    · rename_i ho
      rw [if_pos (by simp [isBranchP, ho])] at hs
      simp only [Bool.and_eq_true] at hs
      simp only [List.mem_cons, List.mem_append] at hp
      rcases hp with rfl | hp | rfl | hp
      · exact .inl rfl
      · exact h1 _ _ hs.1.2 p hp
      · exact .inr (.inl rfl)
      · exact h2 _ _ hs.2 p hp
    · split at hp
      · rename_i ho2
        rw [if_pos (by simp [isBranchP, ho2])] at hs
        simp only [Bool.and_eq_true] at hs
        simp only [List.mem_cons, List.mem_append, List.not_mem_nil, or_false] at hp
        rcases hp with rfl | hp | rfl
        · exact .inr (.inl rfl)
        · exact h1 _ _ hs.1.2 p hp
        · exact .inr (.inl rfl)
      · rename_i ho1 ho2
        rw [if_neg (by simp [isBranchP, ho1, ho2])] at hs
        simp only [Bool.and_eq_true] at hs
        simp only [List.mem_singleton] at hp
        subst hp
        exact .inr (.inr (.inr hs.2))
theorem ptsL_ok (ts : List Int) (at_ d : Nat) : ∀ l : List St, slOk ts d l = true → ∀ p ∈ ptsL at_ l, PtOk ts p
  | [] => by simp [ptsL]
  | s :: r => by
    have h1 := ptsSt_ok ts at_ d s
    have h2 := ptsL_ok ts (at_ + (ptsSt at_ s).length) d r
    intro hs p hp
    simp only [slOk, Bool.and_eq_true] at hs
    simp only [ptsL, List.mem_append] at hp
    rcases hp with hp | hp
    · exact h1 hs.1 p hp
    · exact h2 hs.2 p hp
end
theorem valid_parts {ts : List Int} {l : List St} (h : validP ts l = true) : tsOkP ts = true ∧ slOk ts 4 l = true ∧ szL l ≤ 30 := by
  simpa [validP, Bool.and_eq_true] using h
theorem ts6 {ts : List Int} (h : tsOkP ts = true) : ts.length ≤ 6 := by
  simp only [tsOkP, Bool.and_eq_true, decide_eq_true_eq] at h; exact h.1
theorem ptsP_ok {ts : List Int} {l : List St} (h : validP ts l = true) : ∀ p ∈ ptsP l, PtOk ts p := by
  intro p hp
  simp only [ptsP, List.mem_append, List.mem_singleton] at hp
  rcases hp with hp | rfl
  · exact ptsL_ok ts 0 4 l (valid_parts h).2.1 p hp
  · exact .inr (.inr (.inl rfl))
theorem ptsP_le {ts : List Int} {l : List St} (h : validP ts l = true) : (ptsP l).length ≤ 61 := by
  have h1 := ptsL_le 0 l
  have h2 := (valid_parts h).2.2
  rw [ptsP_len]; omega
theorem typeOf_in {ts : List Int} {v : Int} (h : typeOfP ts v ≠ 0) : 0 ≤ v ∧ v < ts.length := by
  unfold typeOfP at h
  split at h
  · rename_i h0
    refine ⟨h0, ?_⟩
    rcases Nat.lt_or_ge v.toNat ts.length with h1 | h1
    · omega
    · rw [getD_ge h1] at h; exact absurd rfl h
  · exact absurd rfl h
theorem simple_x {ts : List Int} {op x y n : Int} (h : simpleP ts op x y n = true) : 1 ≤ op ∧ op ≤ 8 ∧ typeOfP ts x ≠ 0 := by
  unfold simpleP at h
  repeat' split at h
  all_goals simp only [Bool.and_eq_true, Bool.or_eq_true, beq_iff_eq, bne_iff_ne, decide_eq_true_eq, Bool.false_eq_true] at h
  all_goals first | exact h.elim | (refine ⟨by omega, by omega, ?_⟩; omega)
theorem PtOk.sets {ts : List Int} {p : Pt} (h : PtOk ts p) : setsP p.op p.x < ts.length := by
  unfold setsP
  split
  · rename_i ho
    rcases h with h | h | h | h
    · omega
    · omega
    · omega
    · exact (typeOf_in (simple_x h).2.2).2
  · omega

/-- the points that the exported functions speak of -/
structure Good (ts : List Int) (pts : List Pt) : Prop where
  h6 : ts.length ≤ 6
  len : pts.length ≤ 61
  pos : 0 < pts.length
  next : ∀ p ∈ pts, ∀ k ∈ p.next, k < pts.length
  next2 : ∀ p ∈ pts, p.next.length ≤ 2
  ok : ∀ p ∈ pts, PtOk ts p
theorem Good.of_valid {ts : List Int} {l : List St} (h : validP ts l = true) : Good ts (ptsP l) :=
  ⟨ts6 (valid_parts h).1, ptsP_le h, ptsP_pos l, fun p hp => (ptsP_next l p hp).2, fun p hp => (ptsP_next l p hp).1, ptsP_ok h⟩

noncomputable def liveAt (ts : List Int) (pts : List Pt) (k : Nat) : List Int := lst ts.length fun v => match pts[k]? with
  | some p => p.next.any fun j => dec (Nd ts pts j v)
  | none => false
theorem lst_bits {n : Nat} (hn : n ≤ 6) {m : Nat} (hm : m < 2 ^ n) : lst 6 m.testBit = lst n m.testBit :=
  (lst_more hn fun i h1 _ => Nat.testBit_lt_two_pow (Nat.lt_of_lt_of_le hm (Nat.pow_le_pow_right (n := 2) (by omega) h1))).symm
theorem ndL_get {ts : List Int} {pts : List Pt} {k : Nat} (hk : k < pts.length) : (ndL ts pts).getD k 0 = ndM ts pts k := by
  rw [getD_lt (by simpa [ndL] using hk)]; simp [ndL]
theorem live_bits {ts : List Int} {pts : List Pt} (g : Good ts pts) {k : Nat} (hk : k < pts.length) : lst 6 (orL (ndL ts pts) pts[k].next).testBit = liveAt ts pts k := by
  have hs : ∀ m ∈ ndL ts pts, m < 2 ^ ts.length := by
    intro m hm
    simp only [ndL, List.mem_map] at hm
    obtain ⟨i, _, rfl⟩ := hm
    exact bm_lt _ _
  have hlt : orL (ndL ts pts) pts[k].next < 2 ^ ts.length := by
    refine Nat.lt_pow_two_of_testBit _ fun j hj => ?_
    rw [orL_bit, List.any_eq_false]
    intro i hi
    have hin := g.next _ (List.getElem_mem hk) i hi
    rw [ndL_get hin, ndM, bm_bit]
    simp; omega
  rw [lst_bits g.h6 hlt]
  refine lst_congr fun i hi => ?_
  rw [orL_bit, List.getElem?_eq_getElem hk]
  have e : ∀ j ∈ pts[k].next, ((ndL ts pts).getD j 0).testBit i = dec (Nd ts pts j i) := fun j hj => by
    rw [ndL_get (g.next _ (List.getElem_mem hk) j hj), ndM, bm_bit]; simp [hi]
  rw [Bool.eq_iff_iff]
  simp only [List.any_eq_true]
  exact ⟨fun ⟨j, hj, h⟩ => ⟨j, hj, by rw [← e j hj]; exact h⟩, fun ⟨j, hj, h⟩ => ⟨j, hj, by rw [e j hj]; exact h⟩⟩

end Go.Proofs.Ytidlifijgooceaa
