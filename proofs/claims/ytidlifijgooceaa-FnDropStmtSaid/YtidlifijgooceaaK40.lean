import Derived.Test.YtidlifijgooceaaK39
import Derived.Test.YtidlifijgooceaaK23
set_option linter.unusedVariables false

/- Issues: impl.CheckProgram, impl.CheckPlain. -/
namespace Go.Proofs.Ytidlifijgooceaa
open Go.RowKit

theorem chkRes_len (ts : List Int) (l : List St) : (chkRes ts l).length ≤ 5000 := by
  unfold chkRes
  split
  · rename_i hv
    have G := Good.of_valid hv
    have h6 := G.h6
    have hl := G.len
    have h1 := chkL_le ts (ptsP l) (LvN ts (ptsP l)) (ptsP l).length
    have h2 : (ptsP l).length * (ts.length + (ptsP l).length) ≤ 61 * 67 := Nat.mul_le_mul (by omega) (by omega)
    omega
  · simp
set_option maxHeartbeats 1000000 in
theorem iCheckProgram_any (vt vb : Value) (ts : List Int) (l : List St) (B : Nat) (w : World) (ht : IntS w B vt ts) (hl : StS w B vb l) (hB : B ≤ w.heap.size) (hsz : szL l ≤ 4194300) :
    Calls Try.prog 24 #[.agg #[vt, vb]] w (CkRet w (chkRes ts l)) := by
  go_enter Try.func24, Try.ntmps24
  go_wp2_with fail
  refine (graphOf_any vt vb _ ts l [] w.heap.size _ ((ht.low (bel_a _ _) hB).more hB) ((hl.low (bel_a _ _) hB).more hB) ((OInts.nil w 0).toS (by simp) |>.low (bel_a _ _) (Nat.le_refl _)) (by simp) hsz).mono ?_
  rintro e w1 ⟨vg, rfl, hgr, hb1⟩
  have HB3 := Lib.hid ((bel_a _ _).trans (hb1.mono (by simp)))
  rw [graphOk_nil] at hgr ⊢
  clear hb1
  cases hok : validP ts l
  · have HRES : Hid (chkRes ts l = []) := Lib.hid (by unfold chkRes; rw [hok]; rfl)
    clear hok hgr
    go_wp2_with fail
    go_ret
    exact ⟨_, rfl, by rw [HRES.out]; exact OIs.nil _ _, HB3.out⟩
  · have G := Good.of_valid hok
    have HGG := Lib.hid (hgr hok)
    have HRES : Hid (chkRes ts l = chkL ts (ptsP l) (LvN ts (ptsP l)) (ptsP l).length) := Lib.hid (by unfold chkRes; rw [if_pos hok])
    clear hok hgr
    go_wp2_with fail
    refine (issues_any vg ts (ptsP l) _ _ HGG.out (Nat.le_refl _) G).mono ?_
    rintro e w2 ⟨v2, rfl, hi2, hb2⟩
    go_wp2_with fail
    go_ret
    exact ⟨v2, rfl, by rw [HRES.out]; exact hi2.base HB3.out.size, HB3.out.trans (hb2.mono HB3.out.size)⟩

end Go.Proofs.Ytidlifijgooceaa
