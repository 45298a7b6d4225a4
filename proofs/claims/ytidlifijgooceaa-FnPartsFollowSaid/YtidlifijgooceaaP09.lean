import Derived.Test.YtidlifijgooceaaP06
import Derived.Test.YtidlifijgooceaaP07
import Derived.Test.YtidlifijgooceaaP08
set_option linter.unusedVariables false

namespace Go.Proofs.Ytidlifijgooceaa
open Go.RowKit

end Go.Proofs.Ytidlifijgooceaa

namespace Go.Proofs.Ytidlifijgooceaa
open Go.RowKit

theorem graphOk_nil {ts : List Int} {l : List St} : graphOk ts l [] = validP ts l := by simp [graphOk]

set_option maxHeartbeats 400000 in
theorem alwaysSet_any (vg : Value) (ts : List Int) (pts : List Pt) (B given : Nat) (w : World) (hg : GrS w B vg ts pts) (hB : B ≤ w.heap.size) (g : Good ts pts) (hgv : given < 2 ^ ts.length) :
    Calls Try.prog 58 #[vg, .int .i64 (given : Nat)] w (IntsRet w (msk (fwdL true ts pts given))) := by
  have F := forward_always vg ts pts B given w hg hB g.h6 (by have := g.len; omega) hgv g.next (fun p hp => (g.ok p hp).sets) g.pos
  have HF := Lib.hid F
  clear F
  have hmf : ∀ (fn : Fn) (first cap : Array Value) (w : World), (Instr.makeFunc fn first cap).run Try.prog w = .ok (.func fn first cap) w := fun _ _ _ _ => rfl
  go_enter Try.func58, Try.ntmps58
  go_wp2_with fail
  refine HF.out.mono ?_
  rintro e w1 ⟨v, rfl, h1, h2⟩
  go_wp2_with fail
  go_ret
  exact ⟨v, rfl, h1, h2⟩

end Go.Proofs.Ytidlifijgooceaa
