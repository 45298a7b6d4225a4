import Derived.Test.YtidlifijgooceaaJ26
import Derived.Test.YtidlifijgooceaaJ09
import Derived.Test.YtidlifijgooceaaJ20
import Derived.Conc.MuLone
import Derived.Test.YtidlifijgooceaaJ39
set_option linter.unusedVariables false

/- What is made at points: the closures of impl's cells, numbers, setters; impl.CellsOf, SettersOf, NumbersOf. -/
namespace Go.Proofs.Ytidlifijgooceaa
open Go.RowKit

theorem Good.y {ts : List Int} {pts : List Pt} (g : Good ts pts) {k : Nat} {p : Pt} (hp : pts[k]? = some p) (ho : 3 ≤ p.op ∧ p.op ≤ 7) : 0 ≤ p.y ∧ p.y < ts.length := by
  rcases g.ok p (List.mem_of_getElem? hp) with h | h | h | h
  · omega
  · omega
  · omega
  · exact typeOf_in (simple_y h ho)
theorem simple_n {ts : List Int} {op x y n : Int} (h : simpleP ts op x y n = true) : 0 ≤ n ∧ n ≤ 9 := by
  unfold simpleP at h
  repeat' split at h
  all_goals simp only [Bool.and_eq_true, Bool.or_eq_true, beq_iff_eq, bne_iff_ne, decide_eq_true_eq, Bool.false_eq_true] at h
  all_goals first | exact h.elim | omega
theorem Good.n {ts : List Int} {pts : List Pt} (g : Good ts pts) {k : Nat} {p : Pt} (hp : pts[k]? = some p) (ho : p.op ≤ 8) : 0 ≤ p.n ∧ p.n ≤ 9 := by
  rcases g.ok p (List.mem_of_getElem? hp) with h | h | h | h
  · omega
  · omega
  · omega
  · exact simple_n h
theorem one_shl {k : Nat} (hk : k ≤ 63) : 2 ^ k < top64 := Nat.pow_lt_pow_right (by omega) (by omega)

end Go.Proofs.Ytidlifijgooceaa

/- impl.CellsOf, SettersOf, NumbersOf, MayAlias, UsersOf. -/
namespace Go.Proofs.Ytidlifijgooceaa
open Go.RowKit

end Go.Proofs.Ytidlifijgooceaa
