import Derived.Test.YtidlifijgooceaaGreatG24
set_option linter.unusedVariables false

/- the draws that only hand l3Place on; FnLiveStep. -/
namespace Go.Proofs.YtidlifijgooceaaGreat
open Go.RowKit

set_option maxHeartbeats 4000000
set_option maxRecDepth 100000
theorem pl_end {w W : World} {vt vb : Value} {ts : List Int} {l : List St} {a : Int} (h3 : Below w.heap.size w W) (hT : IntX W (fun b => w.heap.size + 1 ≤ b) vt ts) (hB : StX W (fun b => w.heap.size + 1 ≤ b) vb l) (ht : ts.length ≤ 700) (hl : szL l ≤ 100000) (W' : World) (hW : W.grownBy W' (some w.heap.size)) : PlRet w (.returned (.tuple #[.agg #[vt, vb], .int .i64 a])) W' :=
  pl_close h3 hW hT hB (by omega) ht hl




end Go.Proofs.YtidlifijgooceaaGreat
