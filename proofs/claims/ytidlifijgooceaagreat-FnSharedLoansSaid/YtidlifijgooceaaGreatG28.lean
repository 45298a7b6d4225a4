import Derived.Test.YtidlifijgooceaaGreatG26
import Derived.Test.YtidlifijgooceaaGreatG10
import Derived.Test.YtidlifijgooceaaGreatG23
import Derived.Conc.MuLone
import Derived.Test.YtidlifijgooceaaGreatG27
set_option linter.unusedVariables false

/- What is made at points: the closures of impl's cells, numbers, setters; impl.CellsOf, SettersOf, NumbersOf. -/
namespace Go.Proofs.YtidlifijgooceaaGreat
open Go.RowKit

theorem Good.y {ts : List Int} {pts : List Pt} (g : Good ts pts) {k : Nat} {p : Pt} (hp : pts[k]? = some p) (ho : 3 ≤ p.op ∧ p.op ≤ 7) : 0 ≤ p.y ∧ p.y < ts.length := by
  rcases g.ok p (List.mem_of_getElem? hp) with h | h | h | h
  · omega
  · omega
  · omega
  · exact typeOf_in (simple_y h ho)
theorem simple_n {ts : List Int} {op x y n : Int} (h : simpleP ts op x y n = true) : 0 ≤ n ∧ n ≤ 9 := by
  unfold simpleP at h
  repeat' split at h
  all_goals simp only [Bool.and_eq_true, Bool.or_eq_true, beq_iff_eq, bne_iff_ne, decide_eq_true_eq, Bool.false_eq_true] at h
  all_goals first | exact h.elim | omega
theorem Good.n {ts : List Int} {pts : List Pt} (g : Good ts pts) {k : Nat} {p : Pt} (hp : pts[k]? = some p) (ho : p.op ≤ 8) : 0 ≤ p.n ∧ p.n ≤ 9 := by
  rcases g.ok p (List.mem_of_getElem? hp) with h | h | h | h
  · omega
  · omega
  · omega
  · exact simple_n h
theorem idx_lt {pts : List Pt} {k : Nat} {p : Pt} (hp : pts[k]? = some p) : k < pts.length := (List.getElem?_eq_some_iff.1 hp).1
theorem row_get {w : World} {fv : List Nat} {y : Nat} (hy : y < fv.length) (t : TypeId) (o : Obj) : ((w.alloc (.cells (uv fv).toArray t)).alloc o).cell? ⟨w.heap.size, y, none⟩ = some (.int .u64 (fv.getD y 0 : Nat)) := by
  rw [((RowB.new w (uv fv) t).alloc o).cell, uv_get hy]
theorem one_shl {k : Nat} (hk : k ≤ 63) : 2 ^ k < top64 := Nat.pow_lt_pow_right (by omega) (by omega)






end Go.Proofs.YtidlifijgooceaaGreat

/- impl.CellsOf, SettersOf, NumbersOf, MayAlias, UsersOf. -/
namespace Go.Proofs.YtidlifijgooceaaGreat
open Go.RowKit

noncomputable def flS (s : Nat) (ts : List Int) (pts : List Pt) (G : Nat → Pt → Nat → Bool) (C : Pt → Bool) (i v : Nat) : List Int := lst s fun e => dec (Fl ts pts G C i v e)
theorem flS_bits {ts : List Int} {pts : List Pt} {G : Nat → Pt → Nat → Bool} {C : Pt → Bool} {fs : List Nat} {s i v : Nat} (h : ∀ i v e, stF fs i v e = true ↔ Fl ts pts G C i v e) (hv : v < 6) (hs : s ≤ 64) (hg : ∀ i p e, pts[i]? = some p → G i p e = true → e < s) :
    lst 64 (fs.getD (i * 6 + v) 0).testBit = flS s ts pts G C i v := by
  have e : ∀ e, (fs.getD (i * 6 + v) 0).testBit e = dec (Fl ts pts G C i v e) := fun e => by
    rw [Bool.eq_iff_iff, dec_iff, ← h i v e]; unfold stF; rw [decide_eq_true hv, Bool.true_and]
  unfold flS
  rw [← lst_congr fun i _ => e i, lst_more hs]
  intro e' h1 _
  rw [e, dec_false]
  intro hf
  have := hf.size hg
  omega
noncomputable def flRes (ts : List Int) (l : List St) (G : Nat → Pt → Nat → Bool) (C : Pt → Bool) (a v : Int) : List Int := if graphOk ts l [a] = true ∧ withinP v 0 ((ts.length : Int) - 1) = true then flS (ptsP l).length ts (ptsP l) G C a.toNat v.toNat else []




end Go.Proofs.YtidlifijgooceaaGreat

/- impl.MayAlias, UsersOf. -/
namespace Go.Proofs.YtidlifijgooceaaGreat
open Go.RowKit

noncomputable def aliasRes (ts : List Int) (l : List St) (a v u : Int) : Bool := graphOk ts l [a] && withinP v 0 ((ts.length : Int) - 1) && withinP u 0 ((ts.length : Int) - 1) && (List.range (ptsP l).length).any fun e => dec (Fl ts (ptsP l) Gcell Ccell a.toNat v.toNat e) && dec (Fl ts (ptsP l) Gcell Ccell a.toNat u.toNat e)
theorem and_any {a b n : Nat} {f g : Nat → Bool} (hf : ∀ e, a.testBit e = f e) (hg : ∀ e, b.testBit e = g e) (hn : ∀ e, f e = true → e < n) : (((a &&& b : Nat) : Int) != 0) = (List.range n).any fun e => f e && g e := by
  rw [Bool.eq_iff_iff, List.any_eq_true]
  constructor
  · intro h
    have h' : a &&& b ≠ 0 := by simpa using h
    obtain ⟨e, he⟩ := Nat.exists_testBit_of_ne_zero h'
    rw [Nat.testBit_and, hf, hg] at he
    exact ⟨e, List.mem_range.2 (hn e (by rw [Bool.and_eq_true] at he; exact he.1)), he⟩
  · rintro ⟨e, _, he⟩
    have h1 : (a &&& b).testBit e = true := by rw [Nat.testBit_and, hf, hg]; exact he
    have : a &&& b ≠ 0 := by intro h; rw [h] at h1; simp at h1
    simpa using this


def usesB (ts : List Int) (pts : List Pt) (x i : Nat) : Bool := match pts[i]? with
  | some p => useP ts p.op p.x p.y (x : Nat) != 0
  | none => false
noncomputable def userRes (ts : List Int) (l : List St) (a : Int) : List Int := if graphOk ts l [a] = true ∧ 0 ≤ setRes ts l a then lst (ptsP l).length (fun i => usesB ts (ptsP l) (setRes ts l a).toNat i && dec (Fl ts (ptsP l) Gset Cset i (setRes ts l a).toNat a.toNat)) else []

end Go.Proofs.YtidlifijgooceaaGreat
