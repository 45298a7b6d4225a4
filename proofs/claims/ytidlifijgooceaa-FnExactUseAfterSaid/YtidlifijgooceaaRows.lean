/-
  NARROWER THAN 'FOR EVERY INPUT', by the rows' own cells (each row's printed sentence says how): FnExactDropDead: loops · FnExactUseAfter: loops · FnExactLiveLoans: loops · FnExactConflictsAt: loops.
  DERIVED. THE GIVEN ROWS OF THIS SEAT. 8 by the template 'for every input the law returns true; each argument reads behind the call as it read before'; 0 by the template 'total and deterministic' (their statements: YtidlifijgooceaaTotals.lean).
  GIVEN WITH THE SEED: the statements are not yours to turn. If you find one false, say at which input.
  Laid BY PROGRAM, IN A SANDBOX (cutbox-rows.mjs): the forced cells as the released guide's own fill.sh prints them over the translation 7aa85c863fed11fa… (all of the seat's roots in one cut). By AI agents, Wed Nov 11 2026. No macro, syntax, notation, axiom, sorry.
-/
import Derived.Test.YtidlifijgooceaaChecked
import GoSem.Claim
import GoSem.ClaimJoined
import GoSem.ClaimMapViews
import Derived.JoinedTies
import Derived.KernelRfl
namespace Go.Proofs.Ytidlifijgooceaa
/- THE CELL 'sum', in the pinned program and in every row, IS THE sha256 OF THE DUMP (.gsa) THAT YtidlifijgooceaaProg.lean LOADS. Nothing in Lean hashes anything: it is a label: what it is worth is what the hold of that sum in a sandbox is worth. -/
noncomputable def Try.pinned : Pinned := { name := "ytidlifijgooceaa", sum := "7aa85c863fed11fac1e275dbcfdc907e6e124b06c3da392949950a94fae8b93e", checked := Try.checked }
namespace Rows
def none {H : Type} : Left H := { results := [], args := [] }

/-- 'laws.FnGivesFollow': WHATEVER THE INPUT: true; the input reads as it did. -/
def fnGivesFollowSpec : ChangeSpec := { name := "fnGivesFollow", fn := fun _ => fun
  | [d] => { results := [.lit (.bool true)], args := [d] }
  | _ => none }
def fnGivesFollowRow : OpenClaim := { program := "ytidlifijgooceaa", sum := "7aa85c863fed11fac1e275dbcfdc907e6e124b06c3da392949950a94fae8b93e", func := "loop.example/borrowcheck/laws.FnGivesFollow", spec := "fnGivesFollow", unfollowed := true, recurses := true, apart := false }
def FnGivesFollowSaid : Prop := fnGivesFollowRow.holds Try.pinned (OpenSpec.ofChange fnGivesFollowSpec)

/-- ITS FALSE NEIGHBOUR: 'it returns false'. Refute it at one input. -/
def fnGivesFollowWrong : ChangeSpec := { name := "fnGivesFollow", fn := fun _ => fun
  | [d] => { results := [.lit (.bool false)], args := [d] }
  | _ => none }
def FnGivesFollowWrongFalsely : Prop := fnGivesFollowRow.holds Try.pinned (OpenSpec.ofChange fnGivesFollowWrong)

/-- 'laws.FnPartsFollow': WHATEVER THE INPUT: true; the input reads as it did. -/
def fnPartsFollowSpec : ChangeSpec := { name := "fnPartsFollow", fn := fun _ => fun
  | [d] => { results := [.lit (.bool true)], args := [d] }
  | _ => none }
def fnPartsFollowRow : OpenClaim := { program := "ytidlifijgooceaa", sum := "7aa85c863fed11fac1e275dbcfdc907e6e124b06c3da392949950a94fae8b93e", func := "loop.example/borrowcheck/laws.FnPartsFollow", spec := "fnPartsFollow", unfollowed := true, recurses := true, apart := false }
def FnPartsFollowSaid : Prop := fnPartsFollowRow.holds Try.pinned (OpenSpec.ofChange fnPartsFollowSpec)

/-- ITS FALSE NEIGHBOUR: 'it returns false'. Refute it at one input. -/
def fnPartsFollowWrong : ChangeSpec := { name := "fnPartsFollow", fn := fun _ => fun
  | [d] => { results := [.lit (.bool false)], args := [d] }
  | _ => none }
def FnPartsFollowWrongFalsely : Prop := fnPartsFollowRow.holds Try.pinned (OpenSpec.ofChange fnPartsFollowWrong)

/-- 'laws.FnDropStmt': WHATEVER THE INPUT: true; the input reads as it did. -/
def fnDropStmtSpec : ChangeSpec := { name := "fnDropStmt", fn := fun _ => fun
  | [d] => { results := [.lit (.bool true)], args := [d] }
  | _ => none }
def fnDropStmtRow : OpenClaim := { program := "ytidlifijgooceaa", sum := "7aa85c863fed11fac1e275dbcfdc907e6e124b06c3da392949950a94fae8b93e", func := "loop.example/borrowcheck/laws.FnDropStmt", spec := "fnDropStmt", unfollowed := true, recurses := true, apart := false }
def FnDropStmtSaid : Prop := fnDropStmtRow.holds Try.pinned (OpenSpec.ofChange fnDropStmtSpec)

/-- ITS FALSE NEIGHBOUR: 'it returns false'. Refute it at one input. -/
def fnDropStmtWrong : ChangeSpec := { name := "fnDropStmt", fn := fun _ => fun
  | [d] => { results := [.lit (.bool false)], args := [d] }
  | _ => none }
def FnDropStmtWrongFalsely : Prop := fnDropStmtRow.holds Try.pinned (OpenSpec.ofChange fnDropStmtWrong)

/-- 'laws.FnSequenceOf': WHATEVER THE INPUT: true; the input reads as it did. -/
def fnSequenceOfSpec : ChangeSpec := { name := "fnSequenceOf", fn := fun _ => fun
  | [d] => { results := [.lit (.bool true)], args := [d] }
  | _ => none }
def fnSequenceOfRow : OpenClaim := { program := "ytidlifijgooceaa", sum := "7aa85c863fed11fac1e275dbcfdc907e6e124b06c3da392949950a94fae8b93e", func := "loop.example/borrowcheck/laws.FnSequenceOf", spec := "fnSequenceOf", unfollowed := true, recurses := true, apart := false }
def FnSequenceOfSaid : Prop := fnSequenceOfRow.holds Try.pinned (OpenSpec.ofChange fnSequenceOfSpec)

/-- ITS FALSE NEIGHBOUR: 'it returns false'. Refute it at one input. -/
def fnSequenceOfWrong : ChangeSpec := { name := "fnSequenceOf", fn := fun _ => fun
  | [d] => { results := [.lit (.bool false)], args := [d] }
  | _ => none }
def FnSequenceOfWrongFalsely : Prop := fnSequenceOfRow.holds Try.pinned (OpenSpec.ofChange fnSequenceOfWrong)

/-- 'laws.FnExactDropDead': WHATEVER THE INPUT: true; the input reads as it did. -/
def fnExactDropDeadSpec : ChangeSpec := { name := "fnExactDropDead", fn := fun _ => fun
  | [d1, d2] => { results := [.lit (.bool true)], args := [d1, d2] }
  | _ => none }
def fnExactDropDeadRow : OpenClaim := { program := "ytidlifijgooceaa", sum := "7aa85c863fed11fac1e275dbcfdc907e6e124b06c3da392949950a94fae8b93e", func := "loop.example/borrowcheck/laws.FnExactDropDead", spec := "fnExactDropDead", unfollowed := true, recurses := true, loops := true, apart := false }
def FnExactDropDeadSaid : Prop := fnExactDropDeadRow.holds Try.pinned (OpenSpec.ofChange fnExactDropDeadSpec)

/-- ITS FALSE NEIGHBOUR: 'it returns false'. Refute it at one input. -/
def fnExactDropDeadWrong : ChangeSpec := { name := "fnExactDropDead", fn := fun _ => fun
  | [d1, d2] => { results := [.lit (.bool false)], args := [d1, d2] }
  | _ => none }
def FnExactDropDeadWrongFalsely : Prop := fnExactDropDeadRow.holds Try.pinned (OpenSpec.ofChange fnExactDropDeadWrong)

/-- 'laws.FnExactUseAfter': WHATEVER THE INPUT: true; the input reads as it did. -/
def fnExactUseAfterSpec : ChangeSpec := { name := "fnExactUseAfter", fn := fun _ => fun
  | [d1, d2, d3] => { results := [.lit (.bool true)], args := [d1, d2, d3] }
  | _ => none }
def fnExactUseAfterRow : OpenClaim := { program := "ytidlifijgooceaa", sum := "7aa85c863fed11fac1e275dbcfdc907e6e124b06c3da392949950a94fae8b93e", func := "loop.example/borrowcheck/laws.FnExactUseAfter", spec := "fnExactUseAfter", unfollowed := true, recurses := true, loops := true, apart := false }
def FnExactUseAfterSaid : Prop := fnExactUseAfterRow.holds Try.pinned (OpenSpec.ofChange fnExactUseAfterSpec)

/-- ITS FALSE NEIGHBOUR: 'it returns false'. Refute it at one input. -/
def fnExactUseAfterWrong : ChangeSpec := { name := "fnExactUseAfter", fn := fun _ => fun
  | [d1, d2, d3] => { results := [.lit (.bool false)], args := [d1, d2, d3] }
  | _ => none }
def FnExactUseAfterWrongFalsely : Prop := fnExactUseAfterRow.holds Try.pinned (OpenSpec.ofChange fnExactUseAfterWrong)

/-- 'laws.FnExactLiveLoans': WHATEVER THE INPUT: true; the input reads as it did. -/
def fnExactLiveLoansSpec : ChangeSpec := { name := "fnExactLiveLoans", fn := fun _ => fun
  | [d1, d2] => { results := [.lit (.bool true)], args := [d1, d2] }
  | _ => none }
def fnExactLiveLoansRow : OpenClaim := { program := "ytidlifijgooceaa", sum := "7aa85c863fed11fac1e275dbcfdc907e6e124b06c3da392949950a94fae8b93e", func := "loop.example/borrowcheck/laws.FnExactLiveLoans", spec := "fnExactLiveLoans", unfollowed := true, recurses := true, loops := true, apart := false }
def FnExactLiveLoansSaid : Prop := fnExactLiveLoansRow.holds Try.pinned (OpenSpec.ofChange fnExactLiveLoansSpec)

/-- ITS FALSE NEIGHBOUR: 'it returns false'. Refute it at one input. -/
def fnExactLiveLoansWrong : ChangeSpec := { name := "fnExactLiveLoans", fn := fun _ => fun
  | [d1, d2] => { results := [.lit (.bool false)], args := [d1, d2] }
  | _ => none }
def FnExactLiveLoansWrongFalsely : Prop := fnExactLiveLoansRow.holds Try.pinned (OpenSpec.ofChange fnExactLiveLoansWrong)

/-- 'laws.FnExactConflictsAt': WHATEVER THE INPUT: true; the input reads as it did. -/
def fnExactConflictsAtSpec : ChangeSpec := { name := "fnExactConflictsAt", fn := fun _ => fun
  | [d1, d2] => { results := [.lit (.bool true)], args := [d1, d2] }
  | _ => none }
def fnExactConflictsAtRow : OpenClaim := { program := "ytidlifijgooceaa", sum := "7aa85c863fed11fac1e275dbcfdc907e6e124b06c3da392949950a94fae8b93e", func := "loop.example/borrowcheck/laws.FnExactConflictsAt", spec := "fnExactConflictsAt", unfollowed := true, recurses := true, loops := true, apart := false }
def FnExactConflictsAtSaid : Prop := fnExactConflictsAtRow.holds Try.pinned (OpenSpec.ofChange fnExactConflictsAtSpec)

/-- ITS FALSE NEIGHBOUR: 'it returns false'. Refute it at one input. -/
def fnExactConflictsAtWrong : ChangeSpec := { name := "fnExactConflictsAt", fn := fun _ => fun
  | [d1, d2] => { results := [.lit (.bool false)], args := [d1, d2] }
  | _ => none }
def FnExactConflictsAtWrongFalsely : Prop := fnExactConflictsAtRow.holds Try.pinned (OpenSpec.ofChange fnExactConflictsAtWrong)

/- THE SECOND FORM. 'bulk': how many values and letters a reading holds, each counted each time it is reached (what is shared counts as often as it is met; a slice's spare places count too). A statement '..UptoSaid' is the law's where the arguments, and the package variables that the reading takes, are together of bulk at most 1048576: NARROWER than '..Said'. Prove '..Said' where nothing that the law and all that it calls make is longer than what came in: it says more and counts as full. Else prove '..UptoSaid'. A law counts once. -/
mutual
def uptoBulk {H : Type} : DataW H → Nat
  | .lit (.string bytes) => bytes.length + 1
  | .lit _ => 1
  | .nil => 1
  | .ptr d => uptoBulk d + 1
  | .slice elems spare => uptoBulkAll elems + uptoBulkAll spare + 1
  | .agg parts => uptoBulkAll parts + 1
  | .iface _ d => uptoBulk d + 1
  | .map entries => uptoBulkEntries entries + 1
  | .held _ => 1
def uptoBulkAll {H : Type} : List (DataW H) → Nat
  | [] => 0
  | d :: r => uptoBulk d + uptoBulkAll r
def uptoBulkEntries {H : Type} : List (Lit × DataW H) → Nat
  | [] => 0
  | x :: r => uptoBulkEntry x + uptoBulkEntries r
def uptoBulkEntry {H : Type} : Lit × DataW H → Nat
  | (.string bytes, d) => bytes.length + uptoBulk d + 1
  | (_, d) => uptoBulk d + 1
 end
def uptoSmall : (H : Type) → List (DataW H) → Bool := fun _ ds => decide (uptoBulkAll ds ≤ 1048576)
def OpenSpec.upto (s : _root_.Go.ChangeSpec) : _root_.Go.OpenSpec := { _root_.Go.OpenSpec.ofChange s with cond := some uptoSmall }

/-- 'laws.FnGivesFollow', WHERE WHAT IT READS IS OF BULK AT MOST 1048576: true; the input reads as it did. -/
def fnGivesFollowUptoRow : OpenClaim := { program := "ytidlifijgooceaa", sum := "7aa85c863fed11fac1e275dbcfdc907e6e124b06c3da392949950a94fae8b93e", func := "loop.example/borrowcheck/laws.FnGivesFollow", spec := "fnGivesFollow", unfollowed := true, recurses := true, apart := false, narrowed := true }
def FnGivesFollowUptoSaid : Prop := fnGivesFollowUptoRow.holds Try.pinned (OpenSpec.upto fnGivesFollowSpec)

/-- 'laws.FnPartsFollow', WHERE WHAT IT READS IS OF BULK AT MOST 1048576: true; the input reads as it did. -/
def fnPartsFollowUptoRow : OpenClaim := { program := "ytidlifijgooceaa", sum := "7aa85c863fed11fac1e275dbcfdc907e6e124b06c3da392949950a94fae8b93e", func := "loop.example/borrowcheck/laws.FnPartsFollow", spec := "fnPartsFollow", unfollowed := true, recurses := true, apart := false, narrowed := true }
def FnPartsFollowUptoSaid : Prop := fnPartsFollowUptoRow.holds Try.pinned (OpenSpec.upto fnPartsFollowSpec)

/-- 'laws.FnDropStmt', WHERE WHAT IT READS IS OF BULK AT MOST 1048576: true; the input reads as it did. -/
def fnDropStmtUptoRow : OpenClaim := { program := "ytidlifijgooceaa", sum := "7aa85c863fed11fac1e275dbcfdc907e6e124b06c3da392949950a94fae8b93e", func := "loop.example/borrowcheck/laws.FnDropStmt", spec := "fnDropStmt", unfollowed := true, recurses := true, apart := false, narrowed := true }
def FnDropStmtUptoSaid : Prop := fnDropStmtUptoRow.holds Try.pinned (OpenSpec.upto fnDropStmtSpec)

/-- 'laws.FnSequenceOf', WHERE WHAT IT READS IS OF BULK AT MOST 1048576: true; the input reads as it did. -/
def fnSequenceOfUptoRow : OpenClaim := { program := "ytidlifijgooceaa", sum := "7aa85c863fed11fac1e275dbcfdc907e6e124b06c3da392949950a94fae8b93e", func := "loop.example/borrowcheck/laws.FnSequenceOf", spec := "fnSequenceOf", unfollowed := true, recurses := true, apart := false, narrowed := true }
def FnSequenceOfUptoSaid : Prop := fnSequenceOfUptoRow.holds Try.pinned (OpenSpec.upto fnSequenceOfSpec)

/-- 'laws.FnExactDropDead', WHERE WHAT IT READS IS OF BULK AT MOST 1048576: true; the input reads as it did. -/
def fnExactDropDeadUptoRow : OpenClaim := { program := "ytidlifijgooceaa", sum := "7aa85c863fed11fac1e275dbcfdc907e6e124b06c3da392949950a94fae8b93e", func := "loop.example/borrowcheck/laws.FnExactDropDead", spec := "fnExactDropDead", unfollowed := true, recurses := true, loops := true, apart := false, narrowed := true }
def FnExactDropDeadUptoSaid : Prop := fnExactDropDeadUptoRow.holds Try.pinned (OpenSpec.upto fnExactDropDeadSpec)

/-- 'laws.FnExactUseAfter', WHERE WHAT IT READS IS OF BULK AT MOST 1048576: true; the input reads as it did. -/
def fnExactUseAfterUptoRow : OpenClaim := { program := "ytidlifijgooceaa", sum := "7aa85c863fed11fac1e275dbcfdc907e6e124b06c3da392949950a94fae8b93e", func := "loop.example/borrowcheck/laws.FnExactUseAfter", spec := "fnExactUseAfter", unfollowed := true, recurses := true, loops := true, apart := false, narrowed := true }
def FnExactUseAfterUptoSaid : Prop := fnExactUseAfterUptoRow.holds Try.pinned (OpenSpec.upto fnExactUseAfterSpec)

/-- 'laws.FnExactLiveLoans', WHERE WHAT IT READS IS OF BULK AT MOST 1048576: true; the input reads as it did. -/
def fnExactLiveLoansUptoRow : OpenClaim := { program := "ytidlifijgooceaa", sum := "7aa85c863fed11fac1e275dbcfdc907e6e124b06c3da392949950a94fae8b93e", func := "loop.example/borrowcheck/laws.FnExactLiveLoans", spec := "fnExactLiveLoans", unfollowed := true, recurses := true, loops := true, apart := false, narrowed := true }
def FnExactLiveLoansUptoSaid : Prop := fnExactLiveLoansUptoRow.holds Try.pinned (OpenSpec.upto fnExactLiveLoansSpec)

/-- 'laws.FnExactConflictsAt', WHERE WHAT IT READS IS OF BULK AT MOST 1048576: true; the input reads as it did. -/
def fnExactConflictsAtUptoRow : OpenClaim := { program := "ytidlifijgooceaa", sum := "7aa85c863fed11fac1e275dbcfdc907e6e124b06c3da392949950a94fae8b93e", func := "loop.example/borrowcheck/laws.FnExactConflictsAt", spec := "fnExactConflictsAt", unfollowed := true, recurses := true, loops := true, apart := false, narrowed := true }
def FnExactConflictsAtUptoSaid : Prop := fnExactConflictsAtUptoRow.holds Try.pinned (OpenSpec.upto fnExactConflictsAtSpec)

end Rows
end Go.Proofs.Ytidlifijgooceaa
