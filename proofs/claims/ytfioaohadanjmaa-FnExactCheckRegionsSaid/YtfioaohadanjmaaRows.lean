/-
  NARROWER THAN 'FOR EVERY INPUT', by the rows' own cells (each row's printed sentence says how): FnExactAccepts: loops · FnExactFirstIssue: loops · FnExactCheckPlain: loops · FnExactRunProgram: loops · FnExactCellsMade: loops · FnExactCheckProgram: loops · FnExactCheckRegions: loops.
  DERIVED. THE GIVEN ROWS OF THIS SEAT. 7 by the template 'for every input the law returns true; each argument reads behind the call as it read before'; 0 by the template 'total and deterministic' (their statements: YtfioaohadanjmaaTotals.lean).
  GIVEN WITH THE SEED: the statements are not yours to turn. If you find one false, say at which input.
  Laid BY PROGRAM, IN A SANDBOX (cutbox-rows.mjs): the forced cells as the released guide's own fill.sh prints them over the translation 3ebdff05ef4445fd… (all of the seat's roots in one cut). By AI agents, Wed Nov 11 2026. No macro, syntax, notation, axiom, sorry.
-/
import Derived.Test.YtfioaohadanjmaaChecked
import GoSem.Claim
import GoSem.ClaimJoined
import GoSem.ClaimMapViews
import Derived.JoinedTies
import Derived.KernelRfl
namespace Go.Proofs.Ytfioaohadanjmaa
/- THE CELL 'sum', in the pinned program and in every row, IS THE sha256 OF THE DUMP (.gsa) THAT YtfioaohadanjmaaProg.lean LOADS. Nothing in Lean hashes anything: it is a label: what it is worth is what the hold of that sum in a sandbox is worth. -/
noncomputable def Try.pinned : Pinned := { name := "ytfioaohadanjmaa", sum := "3ebdff05ef4445fdee77cd99567ad5308843bdf9397636254a24896357683e0f", checked := Try.checked }
namespace Rows
def none {H : Type} : Left H := { results := [], args := [] }

/-- 'laws.FnExactAccepts': WHATEVER THE INPUT: true; the input reads as it did. -/
def fnExactAcceptsSpec : ChangeSpec := { name := "fnExactAccepts", fn := fun _ => fun
  | [d] => { results := [.lit (.bool true)], args := [d] }
  | _ => none }
def fnExactAcceptsRow : OpenClaim := { program := "ytfioaohadanjmaa", sum := "3ebdff05ef4445fdee77cd99567ad5308843bdf9397636254a24896357683e0f", func := "loop.example/borrowcheck/laws.FnExactAccepts", spec := "fnExactAccepts", unfollowed := true, recurses := true, loops := true, apart := false }
def FnExactAcceptsSaid : Prop := fnExactAcceptsRow.holds Try.pinned (OpenSpec.ofChange fnExactAcceptsSpec)

/-- ITS FALSE NEIGHBOUR: 'it returns false'. Refute it at one input. -/
def fnExactAcceptsWrong : ChangeSpec := { name := "fnExactAccepts", fn := fun _ => fun
  | [d] => { results := [.lit (.bool false)], args := [d] }
  | _ => none }
def FnExactAcceptsWrongFalsely : Prop := fnExactAcceptsRow.holds Try.pinned (OpenSpec.ofChange fnExactAcceptsWrong)

/-- 'laws.FnExactFirstIssue': WHATEVER THE INPUT: true; the input reads as it did. -/
def fnExactFirstIssueSpec : ChangeSpec := { name := "fnExactFirstIssue", fn := fun _ => fun
  | [d] => { results := [.lit (.bool true)], args := [d] }
  | _ => none }
def fnExactFirstIssueRow : OpenClaim := { program := "ytfioaohadanjmaa", sum := "3ebdff05ef4445fdee77cd99567ad5308843bdf9397636254a24896357683e0f", func := "loop.example/borrowcheck/laws.FnExactFirstIssue", spec := "fnExactFirstIssue", unfollowed := true, recurses := true, loops := true, apart := false }
def FnExactFirstIssueSaid : Prop := fnExactFirstIssueRow.holds Try.pinned (OpenSpec.ofChange fnExactFirstIssueSpec)

/-- ITS FALSE NEIGHBOUR: 'it returns false'. Refute it at one input. -/
def fnExactFirstIssueWrong : ChangeSpec := { name := "fnExactFirstIssue", fn := fun _ => fun
  | [d] => { results := [.lit (.bool false)], args := [d] }
  | _ => none }
def FnExactFirstIssueWrongFalsely : Prop := fnExactFirstIssueRow.holds Try.pinned (OpenSpec.ofChange fnExactFirstIssueWrong)

/-- 'laws.FnExactCheckPlain': WHATEVER THE INPUT: true; the input reads as it did. -/
def fnExactCheckPlainSpec : ChangeSpec := { name := "fnExactCheckPlain", fn := fun _ => fun
  | [d] => { results := [.lit (.bool true)], args := [d] }
  | _ => none }
def fnExactCheckPlainRow : OpenClaim := { program := "ytfioaohadanjmaa", sum := "3ebdff05ef4445fdee77cd99567ad5308843bdf9397636254a24896357683e0f", func := "loop.example/borrowcheck/laws.FnExactCheckPlain", spec := "fnExactCheckPlain", unfollowed := true, recurses := true, loops := true, apart := false }
def FnExactCheckPlainSaid : Prop := fnExactCheckPlainRow.holds Try.pinned (OpenSpec.ofChange fnExactCheckPlainSpec)

/-- ITS FALSE NEIGHBOUR: 'it returns false'. Refute it at one input. -/
def fnExactCheckPlainWrong : ChangeSpec := { name := "fnExactCheckPlain", fn := fun _ => fun
  | [d] => { results := [.lit (.bool false)], args := [d] }
  | _ => none }
def FnExactCheckPlainWrongFalsely : Prop := fnExactCheckPlainRow.holds Try.pinned (OpenSpec.ofChange fnExactCheckPlainWrong)

/-- 'laws.FnExactRunProgram': WHATEVER THE INPUT: true; the input reads as it did. -/
def fnExactRunProgramSpec : ChangeSpec := { name := "fnExactRunProgram", fn := fun _ => fun
  | [d1, d2, d3] => { results := [.lit (.bool true)], args := [d1, d2, d3] }
  | _ => none }
def fnExactRunProgramRow : OpenClaim := { program := "ytfioaohadanjmaa", sum := "3ebdff05ef4445fdee77cd99567ad5308843bdf9397636254a24896357683e0f", func := "loop.example/borrowcheck/laws.FnExactRunProgram", spec := "fnExactRunProgram", unfollowed := true, recurses := true, loops := true, apart := false }
def FnExactRunProgramSaid : Prop := fnExactRunProgramRow.holds Try.pinned (OpenSpec.ofChange fnExactRunProgramSpec)

/-- ITS FALSE NEIGHBOUR: 'it returns false'. Refute it at one input. -/
def fnExactRunProgramWrong : ChangeSpec := { name := "fnExactRunProgram", fn := fun _ => fun
  | [d1, d2, d3] => { results := [.lit (.bool false)], args := [d1, d2, d3] }
  | _ => none }
def FnExactRunProgramWrongFalsely : Prop := fnExactRunProgramRow.holds Try.pinned (OpenSpec.ofChange fnExactRunProgramWrong)

/-- 'laws.FnExactCellsMade': WHATEVER THE INPUT: true; the input reads as it did. -/
def fnExactCellsMadeSpec : ChangeSpec := { name := "fnExactCellsMade", fn := fun _ => fun
  | [d1, d2, d3] => { results := [.lit (.bool true)], args := [d1, d2, d3] }
  | _ => none }
def fnExactCellsMadeRow : OpenClaim := { program := "ytfioaohadanjmaa", sum := "3ebdff05ef4445fdee77cd99567ad5308843bdf9397636254a24896357683e0f", func := "loop.example/borrowcheck/laws.FnExactCellsMade", spec := "fnExactCellsMade", unfollowed := true, recurses := true, loops := true, apart := false }
def FnExactCellsMadeSaid : Prop := fnExactCellsMadeRow.holds Try.pinned (OpenSpec.ofChange fnExactCellsMadeSpec)

/-- ITS FALSE NEIGHBOUR: 'it returns false'. Refute it at one input. -/
def fnExactCellsMadeWrong : ChangeSpec := { name := "fnExactCellsMade", fn := fun _ => fun
  | [d1, d2, d3] => { results := [.lit (.bool false)], args := [d1, d2, d3] }
  | _ => none }
def FnExactCellsMadeWrongFalsely : Prop := fnExactCellsMadeRow.holds Try.pinned (OpenSpec.ofChange fnExactCellsMadeWrong)

/-- 'laws.FnExactCheckProgram': WHATEVER THE INPUT: true; the input reads as it did. -/
def fnExactCheckProgramSpec : ChangeSpec := { name := "fnExactCheckProgram", fn := fun _ => fun
  | [d] => { results := [.lit (.bool true)], args := [d] }
  | _ => none }
def fnExactCheckProgramRow : OpenClaim := { program := "ytfioaohadanjmaa", sum := "3ebdff05ef4445fdee77cd99567ad5308843bdf9397636254a24896357683e0f", func := "loop.example/borrowcheck/laws.FnExactCheckProgram", spec := "fnExactCheckProgram", unfollowed := true, recurses := true, loops := true, apart := false }
def FnExactCheckProgramSaid : Prop := fnExactCheckProgramRow.holds Try.pinned (OpenSpec.ofChange fnExactCheckProgramSpec)

/-- ITS FALSE NEIGHBOUR: 'it returns false'. Refute it at one input. -/
def fnExactCheckProgramWrong : ChangeSpec := { name := "fnExactCheckProgram", fn := fun _ => fun
  | [d] => { results := [.lit (.bool false)], args := [d] }
  | _ => none }
def FnExactCheckProgramWrongFalsely : Prop := fnExactCheckProgramRow.holds Try.pinned (OpenSpec.ofChange fnExactCheckProgramWrong)

/-- 'laws.FnExactCheckRegions': WHATEVER THE INPUT: true; the input reads as it did. -/
def fnExactCheckRegionsSpec : ChangeSpec := { name := "fnExactCheckRegions", fn := fun _ => fun
  | [d] => { results := [.lit (.bool true)], args := [d] }
  | _ => none }
def fnExactCheckRegionsRow : OpenClaim := { program := "ytfioaohadanjmaa", sum := "3ebdff05ef4445fdee77cd99567ad5308843bdf9397636254a24896357683e0f", func := "loop.example/borrowcheck/laws.FnExactCheckRegions", spec := "fnExactCheckRegions", unfollowed := true, recurses := true, loops := true, apart := false }
def FnExactCheckRegionsSaid : Prop := fnExactCheckRegionsRow.holds Try.pinned (OpenSpec.ofChange fnExactCheckRegionsSpec)

/-- ITS FALSE NEIGHBOUR: 'it returns false'. Refute it at one input. -/
def fnExactCheckRegionsWrong : ChangeSpec := { name := "fnExactCheckRegions", fn := fun _ => fun
  | [d] => { results := [.lit (.bool false)], args := [d] }
  | _ => none }
def FnExactCheckRegionsWrongFalsely : Prop := fnExactCheckRegionsRow.holds Try.pinned (OpenSpec.ofChange fnExactCheckRegionsWrong)

/- THE SECOND FORM. 'bulk': how many values and letters a reading holds, each counted each time it is reached (what is shared counts as often as it is met; a slice's spare places count too). A statement '..UptoSaid' is the law's where the arguments, and the package variables that the reading takes, are together of bulk at most 1048576: NARROWER than '..Said'. Prove '..Said' where nothing that the law and all that it calls make is longer than what came in: it says more and counts as full. Else prove '..UptoSaid'. A law counts once. -/
mutual
def uptoBulk {H : Type} : DataW H → Nat
  | .lit (.string bytes) => bytes.length + 1
  | .lit _ => 1
  | .nil => 1
  | .ptr d => uptoBulk d + 1
  | .slice elems spare => uptoBulkAll elems + uptoBulkAll spare + 1
  | .agg parts => uptoBulkAll parts + 1
  | .iface _ d => uptoBulk d + 1
  | .map entries => uptoBulkEntries entries + 1
  | .held _ => 1
def uptoBulkAll {H : Type} : List (DataW H) → Nat
  | [] => 0
  | d :: r => uptoBulk d + uptoBulkAll r
def uptoBulkEntries {H : Type} : List (Lit × DataW H) → Nat
  | [] => 0
  | x :: r => uptoBulkEntry x + uptoBulkEntries r
def uptoBulkEntry {H : Type} : Lit × DataW H → Nat
  | (.string bytes, d) => bytes.length + uptoBulk d + 1
  | (_, d) => uptoBulk d + 1
 end
def uptoSmall : (H : Type) → List (DataW H) → Bool := fun _ ds => decide (uptoBulkAll ds ≤ 1048576)
def OpenSpec.upto (s : _root_.Go.ChangeSpec) : _root_.Go.OpenSpec := { _root_.Go.OpenSpec.ofChange s with cond := some uptoSmall }

/-- 'laws.FnExactAccepts', WHERE WHAT IT READS IS OF BULK AT MOST 1048576: true; the input reads as it did. -/
def fnExactAcceptsUptoRow : OpenClaim := { program := "ytfioaohadanjmaa", sum := "3ebdff05ef4445fdee77cd99567ad5308843bdf9397636254a24896357683e0f", func := "loop.example/borrowcheck/laws.FnExactAccepts", spec := "fnExactAccepts", unfollowed := true, recurses := true, loops := true, apart := false, narrowed := true }
def FnExactAcceptsUptoSaid : Prop := fnExactAcceptsUptoRow.holds Try.pinned (OpenSpec.upto fnExactAcceptsSpec)

/-- 'laws.FnExactFirstIssue', WHERE WHAT IT READS IS OF BULK AT MOST 1048576: true; the input reads as it did. -/
def fnExactFirstIssueUptoRow : OpenClaim := { program := "ytfioaohadanjmaa", sum := "3ebdff05ef4445fdee77cd99567ad5308843bdf9397636254a24896357683e0f", func := "loop.example/borrowcheck/laws.FnExactFirstIssue", spec := "fnExactFirstIssue", unfollowed := true, recurses := true, loops := true, apart := false, narrowed := true }
def FnExactFirstIssueUptoSaid : Prop := fnExactFirstIssueUptoRow.holds Try.pinned (OpenSpec.upto fnExactFirstIssueSpec)

/-- 'laws.FnExactCheckPlain', WHERE WHAT IT READS IS OF BULK AT MOST 1048576: true; the input reads as it did. -/
def fnExactCheckPlainUptoRow : OpenClaim := { program := "ytfioaohadanjmaa", sum := "3ebdff05ef4445fdee77cd99567ad5308843bdf9397636254a24896357683e0f", func := "loop.example/borrowcheck/laws.FnExactCheckPlain", spec := "fnExactCheckPlain", unfollowed := true, recurses := true, loops := true, apart := false, narrowed := true }
def FnExactCheckPlainUptoSaid : Prop := fnExactCheckPlainUptoRow.holds Try.pinned (OpenSpec.upto fnExactCheckPlainSpec)

/-- 'laws.FnExactRunProgram', WHERE WHAT IT READS IS OF BULK AT MOST 1048576: true; the input reads as it did. -/
def fnExactRunProgramUptoRow : OpenClaim := { program := "ytfioaohadanjmaa", sum := "3ebdff05ef4445fdee77cd99567ad5308843bdf9397636254a24896357683e0f", func := "loop.example/borrowcheck/laws.FnExactRunProgram", spec := "fnExactRunProgram", unfollowed := true, recurses := true, loops := true, apart := false, narrowed := true }
def FnExactRunProgramUptoSaid : Prop := fnExactRunProgramUptoRow.holds Try.pinned (OpenSpec.upto fnExactRunProgramSpec)

/-- 'laws.FnExactCellsMade', WHERE WHAT IT READS IS OF BULK AT MOST 1048576: true; the input reads as it did. -/
def fnExactCellsMadeUptoRow : OpenClaim := { program := "ytfioaohadanjmaa", sum := "3ebdff05ef4445fdee77cd99567ad5308843bdf9397636254a24896357683e0f", func := "loop.example/borrowcheck/laws.FnExactCellsMade", spec := "fnExactCellsMade", unfollowed := true, recurses := true, loops := true, apart := false, narrowed := true }
def FnExactCellsMadeUptoSaid : Prop := fnExactCellsMadeUptoRow.holds Try.pinned (OpenSpec.upto fnExactCellsMadeSpec)

/-- 'laws.FnExactCheckProgram', WHERE WHAT IT READS IS OF BULK AT MOST 1048576: true; the input reads as it did. -/
def fnExactCheckProgramUptoRow : OpenClaim := { program := "ytfioaohadanjmaa", sum := "3ebdff05ef4445fdee77cd99567ad5308843bdf9397636254a24896357683e0f", func := "loop.example/borrowcheck/laws.FnExactCheckProgram", spec := "fnExactCheckProgram", unfollowed := true, recurses := true, loops := true, apart := false, narrowed := true }
def FnExactCheckProgramUptoSaid : Prop := fnExactCheckProgramUptoRow.holds Try.pinned (OpenSpec.upto fnExactCheckProgramSpec)

/-- 'laws.FnExactCheckRegions', WHERE WHAT IT READS IS OF BULK AT MOST 1048576: true; the input reads as it did. -/
def fnExactCheckRegionsUptoRow : OpenClaim := { program := "ytfioaohadanjmaa", sum := "3ebdff05ef4445fdee77cd99567ad5308843bdf9397636254a24896357683e0f", func := "loop.example/borrowcheck/laws.FnExactCheckRegions", spec := "fnExactCheckRegions", unfollowed := true, recurses := true, loops := true, apart := false, narrowed := true }
def FnExactCheckRegionsUptoSaid : Prop := fnExactCheckRegionsUptoRow.holds Try.pinned (OpenSpec.upto fnExactCheckRegionsSpec)

end Rows
end Go.Proofs.Ytfioaohadanjmaa
