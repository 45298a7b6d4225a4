import Derived.Test.YtmaaaiccmllnlaaG11
import Derived.Test.YtmaaaiccmllnlaaG12
import Derived.Test.YtmaaaiccmllnlaaG23
import Derived.Conc.MuLone
import Derived.Test.YtmaaaiccmllnlaaG29
set_option linter.unusedVariables false

/- What is made at points: the closures of impl's cells, numbers, setters; impl.CellsOf, SettersOf, NumbersOf. -/
namespace Go.Proofs.Ytmaaaiccmllnlaa
open Go.RowKit

theorem Good.y {ts : List Int} {pts : List Pt} (g : Good ts pts) {k : Nat} {p : Pt} (hp : pts[k]? = some p) (ho : 3 ≤ p.op ∧ p.op ≤ 7) : 0 ≤ p.y ∧ p.y < ts.length := by
  rcases g.ok p (List.mem_of_getElem? hp) with h | h | h | h
  · omega
  · omega
  · omega
  · exact typeOf_in (simple_y h ho)
theorem simple_n {ts : List Int} {op x y n : Int} (h : simpleP ts op x y n = true) : 0 ≤ n ∧ n ≤ 9 := by
  unfold simpleP at h
  repeat' split at h
  all_goals simp only [Bool.and_eq_true, Bool.or_eq_true, beq_iff_eq, bne_iff_ne, decide_eq_true_eq, Bool.false_eq_true] at h
  all_goals first | exact h.elim | omega
theorem Good.n {ts : List Int} {pts : List Pt} (g : Good ts pts) {k : Nat} {p : Pt} (hp : pts[k]? = some p) (ho : p.op ≤ 8) : 0 ≤ p.n ∧ p.n ≤ 9 := by
  rcases g.ok p (List.mem_of_getElem? hp) with h | h | h | h
  · omega
  · omega
  · omega
  · exact simple_n h
theorem idx_lt {pts : List Pt} {k : Nat} {p : Pt} (hp : pts[k]? = some p) : k < pts.length := (List.getElem?_eq_some_iff.1 hp).1
theorem row_get {w : World} {fv : List Nat} {y : Nat} (hy : y < fv.length) (t : TypeId) (o : Obj) : ((w.alloc (.cells (uv fv).toArray t)).alloc o).cell? ⟨w.heap.size, y, none⟩ = some (.int .u64 (fv.getD y 0 : Nat)) := by
  rw [((RowB.new w (uv fv) t).alloc o).cell, uv_get hy]
theorem one_shl {k : Nat} (hk : k ≤ 63) : 2 ^ k < top64 := Nat.pow_lt_pow_right (by omega) (by omega)






end Go.Proofs.Ytmaaaiccmllnlaa

/- impl.CellsOf, SettersOf, NumbersOf, MayAlias, UsersOf. -/
namespace Go.Proofs.Ytmaaaiccmllnlaa
open Go.RowKit

noncomputable def flS (s : Nat) (ts : List Int) (pts : List Pt) (G : Nat → Pt → Nat → Bool) (C : Pt → Bool) (i v : Nat) : List Int := lst s fun e => dec (Fl ts pts G C i v e)
theorem flS_bits {ts : List Int} {pts : List Pt} {G : Nat → Pt → Nat → Bool} {C : Pt → Bool} {fs : List Nat} {s i v : Nat} (h : ∀ i v e, stF fs i v e = true ↔ Fl ts pts G C i v e) (hv : v < 6) (hs : s ≤ 64) (hg : ∀ i p e, pts[i]? = some p → G i p e = true → e < s) :
    lst 64 (fs.getD (i * 6 + v) 0).testBit = flS s ts pts G C i v := by
  have e : ∀ e, (fs.getD (i * 6 + v) 0).testBit e = dec (Fl ts pts G C i v e) := fun e => by
    rw [Bool.eq_iff_iff, dec_iff, ← h i v e]; unfold stF; rw [decide_eq_true hv, Bool.true_and]
  unfold flS
  rw [← lst_congr fun i _ => e i, lst_more hs]
  intro e' h1 _
  rw [e, dec_false]
  intro hf
  have := hf.size hg
  omega
noncomputable def flRes (ts : List Int) (l : List St) (G : Nat → Pt → Nat → Bool) (C : Pt → Bool) (a v : Int) : List Int := if graphOk ts l [a] = true ∧ withinP v 0 ((ts.length : Int) - 1) = true then flS (ptsP l).length ts (ptsP l) G C a.toNat v.toNat else []




end Go.Proofs.Ytmaaaiccmllnlaa
