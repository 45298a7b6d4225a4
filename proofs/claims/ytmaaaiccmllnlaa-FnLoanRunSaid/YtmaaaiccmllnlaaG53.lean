import Derived.Test.YtmaaaiccmllnlaaG25
import Derived.Test.YtmaaaiccmllnlaaG41
import Derived.Test.YtmaaaiccmllnlaaG52
import Derived.Test.YtmaaaiccmllnlaaG23
import Derived.Test.YtmaaaiccmllnlaaG09
import Derived.Test.YtmaaaiccmllnlaaG10
import Derived.Test.YtmaaaiccmllnlaaG07
import Derived.Test.YtmaaaiccmllnlaaG24
import Derived.Test.YtmaaaiccmllnlaaG44
import Derived.Test.YtmaaaiccmllnlaaG38
set_option linter.unusedVariables false

/- FnLiveAfter: the plain law, the walk. -/
namespace Go.Proofs.Ytmaaaiccmllnlaa
open Go.RowKit

theorem msk_getD (r : List Nat) (i : Nat) : (msk r).getD i 0 = ((r.getD i 0 : Nat) : Int) := by
  unfold msk
  rw [List.getD_eq_getElem?_getD, List.getD_eq_getElem?_getD, List.getElem?_map]
  cases r[i]? <;> rfl
/-- a run leads from point to point, or is empty -/
theorem run_ok (ts : List Int) (l : List St) (cs : List Int) : (runRes ts l cs 60).1.length ≤ 61 ∧ (0 < (runRes ts l cs 60).1.length → validP ts l = true ∧ IsRun (ptsP l) 0 (runRes ts l cs 60).1) := by
  unfold runRes
  split
  · rename_i h
    have G := Good.of_valid h.1
    refine ⟨runF_len _ _ _ _, fun _ => ⟨h.1, runF_run (fun p hp k hk => G.next p hp k hk) (ptsP_next1 l) _ _ _ G.pos⟩⟩
  · exact ⟨by simp, fun h => by simp at h⟩
/-- while the value of a is open: what the run's point needs is live after a -/
def LvJ (ts : List Int) (l : List St) (a : Int) (v : Nat) (r : List Nat) (i : Nat) (b : Bool) : Prop := b = true → i < r.length → Nd ts (ptsP l) (r.getD i 0) v → hasP (liveRes ts l a) (v : Nat) = true
theorem LvJ.use {ts : List Int} {l : List St} {a : Int} {v : Nat} {r : List Nat} {i : Nat} (h : LvJ ts l a v r i true) (hi : i < r.length) (hr : 0 < r.length → validP ts l = true ∧ IsRun (ptsP l) 0 r) (hv : v < ts.length) (hu : (useRes ts l ((r.getD i 0 : Nat) : Int) (v : Nat) != 0) = true) : hasP (liveRes ts l a) (v : Nat) = true := by
  obtain ⟨hval, hrun⟩ := hr (by omega)
  have hk := hrun.inn i hi
  refine h rfl hi (.use (List.getElem?_eq_getElem hk) hv ?_)
  unfold useRes at hu
  rw [if_pos ⟨graphOk_at hval hk, by simp [withinP]; omega⟩, ptAt_nat hk] at hu
  simpa using hu
theorem LvJ.step {ts : List Int} {l : List St} {a : Int} {v : Nat} {r : List Nat} {i : Nat} {b b' : Bool} (h : LvJ ts l a v r i b) (hi : i < r.length) (hr : 0 < r.length → validP ts l = true ∧ IsRun (ptsP l) 0 r)
    (hb : b' = true → ((r.getD i 0 : Nat) : Int) = a ∨ (b = true ∧ setRes ts l ((r.getD i 0 : Nat) : Int) ≠ (v : Nat))) : LvJ ts l a v r (i + 1) b' := by
  intro hb1 hi1 hn
  obtain ⟨hval, hrun⟩ := hr (by omega)
  have hk := hrun.inn i hi
  obtain ⟨p, hp, hnx⟩ := hrun.edge i hi1
  rcases hb hb1 with e | ⟨e, hs⟩
  · subst e
    unfold liveRes liveAt
    rw [if_pos (graphOk_at hval hk), Int.toNat_natCast, lst_has, decide_eq_true hn.lt, Bool.true_and, hp]
    exact List.any_eq_true.2 ⟨_, hnx, dec_true hn⟩
  · refine h e hi (.flow hp hnx hn ?_)
    unfold setRes at hs
    rw [if_pos (graphOk_at hval hk), ptAt_nat hk] at hs
    rw [List.getElem?_eq_getElem hk] at hp
    injection hp with hp
    rw [← hp]; exact hs

set_option maxHeartbeats 8000000
set_option maxRecDepth 100000

end Go.Proofs.Ytmaaaiccmllnlaa
