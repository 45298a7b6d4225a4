/-
  NARROWER THAN 'FOR EVERY INPUT', by the rows' own cells (each row's printed sentence says how): FnExactNumbersRead: loops · FnExactCountWrong: loops · FnExactSafeUpTo: loops · FnExactFinalSlots: loops · FnExactFirstWrong: loops · FnExactFinalCells: loops.
  DERIVED. THE GIVEN ROWS OF THIS SEAT. 6 by the template 'for every input the law returns true; each argument reads behind the call as it read before'; 0 by the template 'total and deterministic' (their statements: YtfioaohadanjmaaGreatTotals.lean).
  GIVEN WITH THE SEED: the statements are not yours to turn. If you find one false, say at which input.
  Laid BY PROGRAM, IN A SANDBOX (cutbox-rows.mjs): the forced cells as the released guide's own fill.sh prints them over the translation db60adff631caf6a… (all of the seat's roots in one cut). By AI agents, Wed Nov 11 2026. No macro, syntax, notation, axiom, sorry.
-/
import Derived.Test.YtfioaohadanjmaaGreatChecked
import GoSem.Claim
import GoSem.ClaimJoined
import GoSem.ClaimMapViews
import Derived.JoinedTies
import Derived.KernelRfl
namespace Go.Proofs.YtfioaohadanjmaaGreat
/- THE CELL 'sum', in the pinned program and in every row, IS THE sha256 OF THE DUMP (.gsa) THAT YtfioaohadanjmaaGreatProg.lean LOADS. Nothing in Lean hashes anything: it is a label: what it is worth is what the hold of that sum in a sandbox is worth. -/
noncomputable def Tryz.pinned : Pinned := { name := "ytfioaohadanjmaagreat", sum := "db60adff631caf6a870aa01e3ed62943901d75eaf2688e9609f529bb3cb33ca5", checked := Tryz.checked }
namespace Rows
def none {H : Type} : Left H := { results := [], args := [] }

/-- 'laws.FnExactNumbersRead': WHATEVER THE INPUT: true; the input reads as it did. -/
def fnExactNumbersReadSpec : ChangeSpec := { name := "fnExactNumbersRead", fn := fun _ => fun
  | [d1, d2, d3] => { results := [.lit (.bool true)], args := [d1, d2, d3] }
  | _ => none }
def fnExactNumbersReadRow : OpenClaim := { program := "ytfioaohadanjmaagreat", sum := "db60adff631caf6a870aa01e3ed62943901d75eaf2688e9609f529bb3cb33ca5", func := "loop.example/borrowcheck/laws.FnExactNumbersRead", spec := "fnExactNumbersRead", unfollowed := true, recurses := true, loops := true, apart := false }
def FnExactNumbersReadSaid : Prop := fnExactNumbersReadRow.holds Tryz.pinned (OpenSpec.ofChange fnExactNumbersReadSpec)

/-- ITS FALSE NEIGHBOUR: 'it returns false'. Refute it at one input. -/
def fnExactNumbersReadWrong : ChangeSpec := { name := "fnExactNumbersRead", fn := fun _ => fun
  | [d1, d2, d3] => { results := [.lit (.bool false)], args := [d1, d2, d3] }
  | _ => none }
def FnExactNumbersReadWrongFalsely : Prop := fnExactNumbersReadRow.holds Tryz.pinned (OpenSpec.ofChange fnExactNumbersReadWrong)

/-- 'laws.FnExactCountWrong': WHATEVER THE INPUT: true; the input reads as it did. -/
def fnExactCountWrongSpec : ChangeSpec := { name := "fnExactCountWrong", fn := fun _ => fun
  | [d1, d2] => { results := [.lit (.bool true)], args := [d1, d2] }
  | _ => none }
def fnExactCountWrongRow : OpenClaim := { program := "ytfioaohadanjmaagreat", sum := "db60adff631caf6a870aa01e3ed62943901d75eaf2688e9609f529bb3cb33ca5", func := "loop.example/borrowcheck/laws.FnExactCountWrong", spec := "fnExactCountWrong", unfollowed := true, recurses := true, loops := true, apart := false }
def FnExactCountWrongSaid : Prop := fnExactCountWrongRow.holds Tryz.pinned (OpenSpec.ofChange fnExactCountWrongSpec)

/-- ITS FALSE NEIGHBOUR: 'it returns false'. Refute it at one input. -/
def fnExactCountWrongWrong : ChangeSpec := { name := "fnExactCountWrong", fn := fun _ => fun
  | [d1, d2] => { results := [.lit (.bool false)], args := [d1, d2] }
  | _ => none }
def FnExactCountWrongWrongFalsely : Prop := fnExactCountWrongRow.holds Tryz.pinned (OpenSpec.ofChange fnExactCountWrongWrong)

/-- 'laws.FnExactSafeUpTo': WHATEVER THE INPUT: true; the input reads as it did. -/
def fnExactSafeUpToSpec : ChangeSpec := { name := "fnExactSafeUpTo", fn := fun _ => fun
  | [d1, d2] => { results := [.lit (.bool true)], args := [d1, d2] }
  | _ => none }
def fnExactSafeUpToRow : OpenClaim := { program := "ytfioaohadanjmaagreat", sum := "db60adff631caf6a870aa01e3ed62943901d75eaf2688e9609f529bb3cb33ca5", func := "loop.example/borrowcheck/laws.FnExactSafeUpTo", spec := "fnExactSafeUpTo", unfollowed := true, recurses := true, loops := true, apart := false }
def FnExactSafeUpToSaid : Prop := fnExactSafeUpToRow.holds Tryz.pinned (OpenSpec.ofChange fnExactSafeUpToSpec)

/-- ITS FALSE NEIGHBOUR: 'it returns false'. Refute it at one input. -/
def fnExactSafeUpToWrong : ChangeSpec := { name := "fnExactSafeUpTo", fn := fun _ => fun
  | [d1, d2] => { results := [.lit (.bool false)], args := [d1, d2] }
  | _ => none }
def FnExactSafeUpToWrongFalsely : Prop := fnExactSafeUpToRow.holds Tryz.pinned (OpenSpec.ofChange fnExactSafeUpToWrong)

/-- 'laws.FnExactFinalSlots': WHATEVER THE INPUT: true; the input reads as it did. -/
def fnExactFinalSlotsSpec : ChangeSpec := { name := "fnExactFinalSlots", fn := fun _ => fun
  | [d1, d2, d3] => { results := [.lit (.bool true)], args := [d1, d2, d3] }
  | _ => none }
def fnExactFinalSlotsRow : OpenClaim := { program := "ytfioaohadanjmaagreat", sum := "db60adff631caf6a870aa01e3ed62943901d75eaf2688e9609f529bb3cb33ca5", func := "loop.example/borrowcheck/laws.FnExactFinalSlots", spec := "fnExactFinalSlots", unfollowed := true, recurses := true, loops := true, apart := false }
def FnExactFinalSlotsSaid : Prop := fnExactFinalSlotsRow.holds Tryz.pinned (OpenSpec.ofChange fnExactFinalSlotsSpec)

/-- ITS FALSE NEIGHBOUR: 'it returns false'. Refute it at one input. -/
def fnExactFinalSlotsWrong : ChangeSpec := { name := "fnExactFinalSlots", fn := fun _ => fun
  | [d1, d2, d3] => { results := [.lit (.bool false)], args := [d1, d2, d3] }
  | _ => none }
def FnExactFinalSlotsWrongFalsely : Prop := fnExactFinalSlotsRow.holds Tryz.pinned (OpenSpec.ofChange fnExactFinalSlotsWrong)

/-- 'laws.FnExactFirstWrong': WHATEVER THE INPUT: true; the input reads as it did. -/
def fnExactFirstWrongSpec : ChangeSpec := { name := "fnExactFirstWrong", fn := fun _ => fun
  | [d1, d2] => { results := [.lit (.bool true)], args := [d1, d2] }
  | _ => none }
def fnExactFirstWrongRow : OpenClaim := { program := "ytfioaohadanjmaagreat", sum := "db60adff631caf6a870aa01e3ed62943901d75eaf2688e9609f529bb3cb33ca5", func := "loop.example/borrowcheck/laws.FnExactFirstWrong", spec := "fnExactFirstWrong", unfollowed := true, recurses := true, loops := true, apart := false }
def FnExactFirstWrongSaid : Prop := fnExactFirstWrongRow.holds Tryz.pinned (OpenSpec.ofChange fnExactFirstWrongSpec)

/-- ITS FALSE NEIGHBOUR: 'it returns false'. Refute it at one input. -/
def fnExactFirstWrongWrong : ChangeSpec := { name := "fnExactFirstWrong", fn := fun _ => fun
  | [d1, d2] => { results := [.lit (.bool false)], args := [d1, d2] }
  | _ => none }
def FnExactFirstWrongWrongFalsely : Prop := fnExactFirstWrongRow.holds Tryz.pinned (OpenSpec.ofChange fnExactFirstWrongWrong)

/-- 'laws.FnExactFinalCells': WHATEVER THE INPUT: true; the input reads as it did. -/
def fnExactFinalCellsSpec : ChangeSpec := { name := "fnExactFinalCells", fn := fun _ => fun
  | [d1, d2, d3] => { results := [.lit (.bool true)], args := [d1, d2, d3] }
  | _ => none }
def fnExactFinalCellsRow : OpenClaim := { program := "ytfioaohadanjmaagreat", sum := "db60adff631caf6a870aa01e3ed62943901d75eaf2688e9609f529bb3cb33ca5", func := "loop.example/borrowcheck/laws.FnExactFinalCells", spec := "fnExactFinalCells", unfollowed := true, recurses := true, loops := true, apart := false }
def FnExactFinalCellsSaid : Prop := fnExactFinalCellsRow.holds Tryz.pinned (OpenSpec.ofChange fnExactFinalCellsSpec)

/-- ITS FALSE NEIGHBOUR: 'it returns false'. Refute it at one input. -/
def fnExactFinalCellsWrong : ChangeSpec := { name := "fnExactFinalCells", fn := fun _ => fun
  | [d1, d2, d3] => { results := [.lit (.bool false)], args := [d1, d2, d3] }
  | _ => none }
def FnExactFinalCellsWrongFalsely : Prop := fnExactFinalCellsRow.holds Tryz.pinned (OpenSpec.ofChange fnExactFinalCellsWrong)

/- THE SECOND FORM. 'bulk': how many values and letters a reading holds, each counted each time it is reached (what is shared counts as often as it is met; a slice's spare places count too). A statement '..UptoSaid' is the law's where the arguments, and the package variables that the reading takes, are together of bulk at most 1048576: NARROWER than '..Said'. Prove '..Said' where nothing that the law and all that it calls make is longer than what came in: it says more and counts as full. Else prove '..UptoSaid'. A law counts once. -/
mutual
def uptoBulk {H : Type} : DataW H → Nat
  | .lit (.string bytes) => bytes.length + 1
  | .lit _ => 1
  | .nil => 1
  | .ptr d => uptoBulk d + 1
  | .slice elems spare => uptoBulkAll elems + uptoBulkAll spare + 1
  | .agg parts => uptoBulkAll parts + 1
  | .iface _ d => uptoBulk d + 1
  | .map entries => uptoBulkEntries entries + 1
  | .held _ => 1
def uptoBulkAll {H : Type} : List (DataW H) → Nat
  | [] => 0
  | d :: r => uptoBulk d + uptoBulkAll r
def uptoBulkEntries {H : Type} : List (Lit × DataW H) → Nat
  | [] => 0
  | x :: r => uptoBulkEntry x + uptoBulkEntries r
def uptoBulkEntry {H : Type} : Lit × DataW H → Nat
  | (.string bytes, d) => bytes.length + uptoBulk d + 1
  | (_, d) => uptoBulk d + 1
 end
def uptoSmall : (H : Type) → List (DataW H) → Bool := fun _ ds => decide (uptoBulkAll ds ≤ 1048576)
def OpenSpec.upto (s : _root_.Go.ChangeSpec) : _root_.Go.OpenSpec := { _root_.Go.OpenSpec.ofChange s with cond := some uptoSmall }

/-- 'laws.FnExactNumbersRead', WHERE WHAT IT READS IS OF BULK AT MOST 1048576: true; the input reads as it did. -/
def fnExactNumbersReadUptoRow : OpenClaim := { program := "ytfioaohadanjmaagreat", sum := "db60adff631caf6a870aa01e3ed62943901d75eaf2688e9609f529bb3cb33ca5", func := "loop.example/borrowcheck/laws.FnExactNumbersRead", spec := "fnExactNumbersRead", unfollowed := true, recurses := true, loops := true, apart := false, narrowed := true }
def FnExactNumbersReadUptoSaid : Prop := fnExactNumbersReadUptoRow.holds Tryz.pinned (OpenSpec.upto fnExactNumbersReadSpec)

/-- 'laws.FnExactCountWrong', WHERE WHAT IT READS IS OF BULK AT MOST 1048576: true; the input reads as it did. -/
def fnExactCountWrongUptoRow : OpenClaim := { program := "ytfioaohadanjmaagreat", sum := "db60adff631caf6a870aa01e3ed62943901d75eaf2688e9609f529bb3cb33ca5", func := "loop.example/borrowcheck/laws.FnExactCountWrong", spec := "fnExactCountWrong", unfollowed := true, recurses := true, loops := true, apart := false, narrowed := true }
def FnExactCountWrongUptoSaid : Prop := fnExactCountWrongUptoRow.holds Tryz.pinned (OpenSpec.upto fnExactCountWrongSpec)

/-- 'laws.FnExactSafeUpTo', WHERE WHAT IT READS IS OF BULK AT MOST 1048576: true; the input reads as it did. -/
def fnExactSafeUpToUptoRow : OpenClaim := { program := "ytfioaohadanjmaagreat", sum := "db60adff631caf6a870aa01e3ed62943901d75eaf2688e9609f529bb3cb33ca5", func := "loop.example/borrowcheck/laws.FnExactSafeUpTo", spec := "fnExactSafeUpTo", unfollowed := true, recurses := true, loops := true, apart := false, narrowed := true }
def FnExactSafeUpToUptoSaid : Prop := fnExactSafeUpToUptoRow.holds Tryz.pinned (OpenSpec.upto fnExactSafeUpToSpec)

/-- 'laws.FnExactFinalSlots', WHERE WHAT IT READS IS OF BULK AT MOST 1048576: true; the input reads as it did. -/
def fnExactFinalSlotsUptoRow : OpenClaim := { program := "ytfioaohadanjmaagreat", sum := "db60adff631caf6a870aa01e3ed62943901d75eaf2688e9609f529bb3cb33ca5", func := "loop.example/borrowcheck/laws.FnExactFinalSlots", spec := "fnExactFinalSlots", unfollowed := true, recurses := true, loops := true, apart := false, narrowed := true }
def FnExactFinalSlotsUptoSaid : Prop := fnExactFinalSlotsUptoRow.holds Tryz.pinned (OpenSpec.upto fnExactFinalSlotsSpec)

/-- 'laws.FnExactFirstWrong', WHERE WHAT IT READS IS OF BULK AT MOST 1048576: true; the input reads as it did. -/
def fnExactFirstWrongUptoRow : OpenClaim := { program := "ytfioaohadanjmaagreat", sum := "db60adff631caf6a870aa01e3ed62943901d75eaf2688e9609f529bb3cb33ca5", func := "loop.example/borrowcheck/laws.FnExactFirstWrong", spec := "fnExactFirstWrong", unfollowed := true, recurses := true, loops := true, apart := false, narrowed := true }
def FnExactFirstWrongUptoSaid : Prop := fnExactFirstWrongUptoRow.holds Tryz.pinned (OpenSpec.upto fnExactFirstWrongSpec)

/-- 'laws.FnExactFinalCells', WHERE WHAT IT READS IS OF BULK AT MOST 1048576: true; the input reads as it did. -/
def fnExactFinalCellsUptoRow : OpenClaim := { program := "ytfioaohadanjmaagreat", sum := "db60adff631caf6a870aa01e3ed62943901d75eaf2688e9609f529bb3cb33ca5", func := "loop.example/borrowcheck/laws.FnExactFinalCells", spec := "fnExactFinalCells", unfollowed := true, recurses := true, loops := true, apart := false, narrowed := true }
def FnExactFinalCellsUptoSaid : Prop := fnExactFinalCellsUptoRow.holds Tryz.pinned (OpenSpec.upto fnExactFinalCellsSpec)

end Rows
end Go.Proofs.YtfioaohadanjmaaGreat
