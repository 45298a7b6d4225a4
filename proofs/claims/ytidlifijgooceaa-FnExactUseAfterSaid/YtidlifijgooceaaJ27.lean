import Derived.Test.YtidlifijgooceaaJ11
set_option linter.unusedVariables false

/- Plain: a run under way. No program in sight. -/
namespace Go.Proofs.Ytidlifijgooceaa

/-- a run under way: o are its points so far, a comes next, cs' are the choices that are left -/
def RunRel (pts : List Pt) (most : Nat) (cs : List Int) (o : List Nat) (a : Nat) (cs' : List Int) : Prop :=
  (o.length ≤ most ∧ runF pts most 0 cs = (o ++ (runF pts (most - o.length) a cs').1, (runF pts (most - o.length) a cs').2)) ∨ (o.length = most + 1 ∧ runF pts most 0 cs = (o.take most, false))
theorem RunRel.start (pts : List Pt) (most : Nat) (cs : List Int) : RunRel pts most cs [] 0 cs := .inl ⟨by simp, by simp⟩
theorem RunRel.stop {pts : List Pt} {most a : Nat} {cs cs' : List Int} {o : List Nat} (h : RunRel pts most cs o a cs') (hl : o.length ≤ most) (ho : (ptD pts a).op = 11) : runF pts most 0 cs = (o ++ [a], true) := by
  rcases h with ⟨_, h⟩ | ⟨h, _⟩
  · rw [h, runF_end ho]
  · omega
theorem RunRel.go {pts : List Pt} {most a : Nat} {cs cs' : List Int} {o : List Nat} (h : RunRel pts most cs o a cs') (hl : o.length ≤ most) (ho : (ptD pts a).op ≠ 11) : RunRel pts most cs (o ++ [a]) (stepP (ptD pts a) cs') (restP (ptD pts a) cs') := by
  rcases h with ⟨_, h⟩ | ⟨h, _⟩
  · by_cases e : o.length = most
    · refine .inr ⟨by simp [e], ?_⟩
      rw [h, e, Nat.sub_self, runF_cut ho, ← e]
      simp
    · refine .inl ⟨by simp; omega, ?_⟩
      rw [h, show most - o.length = (most - (o ++ [a]).length) + 1 by simp; omega, runF_go ho]
      simp
  · omega
end Go.Proofs.Ytidlifijgooceaa
