/-
  No cell of these rows narrows 'for every input' (looked for: loops, veiled, ifaces, maps, wideKeys, modest, calm, conditions, laid).
  DERIVED. THE GIVEN ROWS OF THIS SEAT. 12 by the template 'for every input the law returns true; each argument reads behind the call as it read before'; 0 by the template 'total and deterministic' (their statements: YtmaaaiccmllnlaaTotals.lean).
  GIVEN WITH THE SEED: the statements are not yours to turn. If you find one false, say at which input.
  Laid BY PROGRAM, IN A SANDBOX (cutbox-rows.mjs): the forced cells as the released guide's own fill.sh prints them over the translation 8a055b9f9d9883d7… (all of the seat's roots in one cut). By AI agents, Wed Nov 11 2026. No macro, syntax, notation, axiom, sorry.
-/
import Derived.Test.YtmaaaiccmllnlaaChecked
import GoSem.Claim
import GoSem.ClaimJoined
import GoSem.ClaimMapViews
import Derived.JoinedTies
import Derived.KernelRfl
namespace Go.Proofs.Ytmaaaiccmllnlaa
/- THE CELL 'sum', in the pinned program and in every row, IS THE sha256 OF THE DUMP (.gsa) THAT YtmaaaiccmllnlaaProg.lean LOADS. Nothing in Lean hashes anything: it is a label: what it is worth is what the hold of that sum in a sandbox is worth. -/
noncomputable def Try.pinned : Pinned := { name := "ytmaaaiccmllnlaa", sum := "8a055b9f9d9883d7dd83bef3a179c7aba2ff980b30b15aa5f7fbc03e141e9c7f", checked := Try.checked }
namespace Rows
def none {H : Type} : Left H := { results := [], args := [] }

/-- 'laws.FnWiderRegions': WHATEVER THE INPUT: true; the input reads as it did. -/
def fnWiderRegionsSpec : ChangeSpec := { name := "fnWiderRegions", fn := fun _ => fun
  | [d] => { results := [.lit (.bool true)], args := [d] }
  | _ => none }
def fnWiderRegionsRow : OpenClaim := { program := "ytmaaaiccmllnlaa", sum := "8a055b9f9d9883d7dd83bef3a179c7aba2ff980b30b15aa5f7fbc03e141e9c7f", func := "loop.example/borrowcheck/laws.FnWiderRegions", spec := "fnWiderRegions", unfollowed := true, recurses := true, apart := false }
def FnWiderRegionsSaid : Prop := fnWiderRegionsRow.holds Try.pinned (OpenSpec.ofChange fnWiderRegionsSpec)

/-- ITS FALSE NEIGHBOUR: 'it returns false'. Refute it at one input. -/
def fnWiderRegionsWrong : ChangeSpec := { name := "fnWiderRegions", fn := fun _ => fun
  | [d] => { results := [.lit (.bool false)], args := [d] }
  | _ => none }
def FnWiderRegionsWrongFalsely : Prop := fnWiderRegionsRow.holds Try.pinned (OpenSpec.ofChange fnWiderRegionsWrong)

/-- 'laws.FnBoundsHold': WHATEVER THE INPUT: true; the input reads as it did. -/
def fnBoundsHoldSpec : ChangeSpec := { name := "fnBoundsHold", fn := fun _ => fun
  | [d] => { results := [.lit (.bool true)], args := [d] }
  | _ => none }
def fnBoundsHoldRow : OpenClaim := { program := "ytmaaaiccmllnlaa", sum := "8a055b9f9d9883d7dd83bef3a179c7aba2ff980b30b15aa5f7fbc03e141e9c7f", func := "loop.example/borrowcheck/laws.FnBoundsHold", spec := "fnBoundsHold", unfollowed := true, recurses := true, apart := false }
def FnBoundsHoldSaid : Prop := fnBoundsHoldRow.holds Try.pinned (OpenSpec.ofChange fnBoundsHoldSpec)

/-- ITS FALSE NEIGHBOUR: 'it returns false'. Refute it at one input. -/
def fnBoundsHoldWrong : ChangeSpec := { name := "fnBoundsHold", fn := fun _ => fun
  | [d] => { results := [.lit (.bool false)], args := [d] }
  | _ => none }
def FnBoundsHoldWrongFalsely : Prop := fnBoundsHoldRow.holds Try.pinned (OpenSpec.ofChange fnBoundsHoldWrong)

/-- 'laws.FnRegionOf': WHATEVER THE INPUT: true; the input reads as it did. -/
def fnRegionOfSpec : ChangeSpec := { name := "fnRegionOf", fn := fun _ => fun
  | [d] => { results := [.lit (.bool true)], args := [d] }
  | _ => none }
def fnRegionOfRow : OpenClaim := { program := "ytmaaaiccmllnlaa", sum := "8a055b9f9d9883d7dd83bef3a179c7aba2ff980b30b15aa5f7fbc03e141e9c7f", func := "loop.example/borrowcheck/laws.FnRegionOf", spec := "fnRegionOf", unfollowed := true, recurses := true, apart := false }
def FnRegionOfSaid : Prop := fnRegionOfRow.holds Try.pinned (OpenSpec.ofChange fnRegionOfSpec)

/-- ITS FALSE NEIGHBOUR: 'it returns false'. Refute it at one input. -/
def fnRegionOfWrong : ChangeSpec := { name := "fnRegionOf", fn := fun _ => fun
  | [d] => { results := [.lit (.bool false)], args := [d] }
  | _ => none }
def FnRegionOfWrongFalsely : Prop := fnRegionOfRow.holds Try.pinned (OpenSpec.ofChange fnRegionOfWrong)

/-- 'laws.FnLoopOf': WHATEVER THE INPUT: true; the input reads as it did. -/
def fnLoopOfSpec : ChangeSpec := { name := "fnLoopOf", fn := fun _ => fun
  | [d] => { results := [.lit (.bool true)], args := [d] }
  | _ => none }
def fnLoopOfRow : OpenClaim := { program := "ytmaaaiccmllnlaa", sum := "8a055b9f9d9883d7dd83bef3a179c7aba2ff980b30b15aa5f7fbc03e141e9c7f", func := "loop.example/borrowcheck/laws.FnLoopOf", spec := "fnLoopOf", unfollowed := true, recurses := true, apart := false }
def FnLoopOfSaid : Prop := fnLoopOfRow.holds Try.pinned (OpenSpec.ofChange fnLoopOfSpec)

/-- ITS FALSE NEIGHBOUR: 'it returns false'. Refute it at one input. -/
def fnLoopOfWrong : ChangeSpec := { name := "fnLoopOf", fn := fun _ => fun
  | [d] => { results := [.lit (.bool false)], args := [d] }
  | _ => none }
def FnLoopOfWrongFalsely : Prop := fnLoopOfRow.holds Try.pinned (OpenSpec.ofChange fnLoopOfWrong)

/-- 'laws.FnShortWay': WHATEVER THE INPUT: true; the input reads as it did. -/
def fnShortWaySpec : ChangeSpec := { name := "fnShortWay", fn := fun _ => fun
  | [d] => { results := [.lit (.bool true)], args := [d] }
  | _ => none }
def fnShortWayRow : OpenClaim := { program := "ytmaaaiccmllnlaa", sum := "8a055b9f9d9883d7dd83bef3a179c7aba2ff980b30b15aa5f7fbc03e141e9c7f", func := "loop.example/borrowcheck/laws.FnShortWay", spec := "fnShortWay", unfollowed := true, recurses := true, apart := false }
def FnShortWaySaid : Prop := fnShortWayRow.holds Try.pinned (OpenSpec.ofChange fnShortWaySpec)

/-- ITS FALSE NEIGHBOUR: 'it returns false'. Refute it at one input. -/
def fnShortWayWrong : ChangeSpec := { name := "fnShortWay", fn := fun _ => fun
  | [d] => { results := [.lit (.bool false)], args := [d] }
  | _ => none }
def FnShortWayWrongFalsely : Prop := fnShortWayRow.holds Try.pinned (OpenSpec.ofChange fnShortWayWrong)

/-- 'laws.FnWayChoices': WHATEVER THE INPUT: true; the input reads as it did. -/
def fnWayChoicesSpec : ChangeSpec := { name := "fnWayChoices", fn := fun _ => fun
  | [d] => { results := [.lit (.bool true)], args := [d] }
  | _ => none }
def fnWayChoicesRow : OpenClaim := { program := "ytmaaaiccmllnlaa", sum := "8a055b9f9d9883d7dd83bef3a179c7aba2ff980b30b15aa5f7fbc03e141e9c7f", func := "loop.example/borrowcheck/laws.FnWayChoices", spec := "fnWayChoices", unfollowed := true, recurses := true, apart := false }
def FnWayChoicesSaid : Prop := fnWayChoicesRow.holds Try.pinned (OpenSpec.ofChange fnWayChoicesSpec)

/-- ITS FALSE NEIGHBOUR: 'it returns false'. Refute it at one input. -/
def fnWayChoicesWrong : ChangeSpec := { name := "fnWayChoices", fn := fun _ => fun
  | [d] => { results := [.lit (.bool false)], args := [d] }
  | _ => none }
def FnWayChoicesWrongFalsely : Prop := fnWayChoicesRow.holds Try.pinned (OpenSpec.ofChange fnWayChoicesWrong)

/-- 'laws.FnOwnLoan': WHATEVER THE INPUT: true; the input reads as it did. -/
def fnOwnLoanSpec : ChangeSpec := { name := "fnOwnLoan", fn := fun _ => fun
  | [d] => { results := [.lit (.bool true)], args := [d] }
  | _ => none }
def fnOwnLoanRow : OpenClaim := { program := "ytmaaaiccmllnlaa", sum := "8a055b9f9d9883d7dd83bef3a179c7aba2ff980b30b15aa5f7fbc03e141e9c7f", func := "loop.example/borrowcheck/laws.FnOwnLoan", spec := "fnOwnLoan", unfollowed := true, recurses := true, apart := false }
def FnOwnLoanSaid : Prop := fnOwnLoanRow.holds Try.pinned (OpenSpec.ofChange fnOwnLoanSpec)

/-- ITS FALSE NEIGHBOUR: 'it returns false'. Refute it at one input. -/
def fnOwnLoanWrong : ChangeSpec := { name := "fnOwnLoan", fn := fun _ => fun
  | [d] => { results := [.lit (.bool false)], args := [d] }
  | _ => none }
def FnOwnLoanWrongFalsely : Prop := fnOwnLoanRow.holds Try.pinned (OpenSpec.ofChange fnOwnLoanWrong)

/-- 'laws.FnLoansIn': WHATEVER THE INPUT: true; the input reads as it did. -/
def fnLoansInSpec : ChangeSpec := { name := "fnLoansIn", fn := fun _ => fun
  | [d] => { results := [.lit (.bool true)], args := [d] }
  | _ => none }
def fnLoansInRow : OpenClaim := { program := "ytmaaaiccmllnlaa", sum := "8a055b9f9d9883d7dd83bef3a179c7aba2ff980b30b15aa5f7fbc03e141e9c7f", func := "loop.example/borrowcheck/laws.FnLoansIn", spec := "fnLoansIn", unfollowed := true, recurses := true, apart := false }
def FnLoansInSaid : Prop := fnLoansInRow.holds Try.pinned (OpenSpec.ofChange fnLoansInSpec)

/-- ITS FALSE NEIGHBOUR: 'it returns false'. Refute it at one input. -/
def fnLoansInWrong : ChangeSpec := { name := "fnLoansIn", fn := fun _ => fun
  | [d] => { results := [.lit (.bool false)], args := [d] }
  | _ => none }
def FnLoansInWrongFalsely : Prop := fnLoansInRow.holds Try.pinned (OpenSpec.ofChange fnLoansInWrong)

/-- 'laws.FnPlacedLoans': WHATEVER THE INPUT: true; the input reads as it did. -/
def fnPlacedLoansSpec : ChangeSpec := { name := "fnPlacedLoans", fn := fun _ => fun
  | [d] => { results := [.lit (.bool true)], args := [d] }
  | _ => none }
def fnPlacedLoansRow : OpenClaim := { program := "ytmaaaiccmllnlaa", sum := "8a055b9f9d9883d7dd83bef3a179c7aba2ff980b30b15aa5f7fbc03e141e9c7f", func := "loop.example/borrowcheck/laws.FnPlacedLoans", spec := "fnPlacedLoans", unfollowed := true, recurses := true, apart := false }
def FnPlacedLoansSaid : Prop := fnPlacedLoansRow.holds Try.pinned (OpenSpec.ofChange fnPlacedLoansSpec)

/-- ITS FALSE NEIGHBOUR: 'it returns false'. Refute it at one input. -/
def fnPlacedLoansWrong : ChangeSpec := { name := "fnPlacedLoans", fn := fun _ => fun
  | [d] => { results := [.lit (.bool false)], args := [d] }
  | _ => none }
def FnPlacedLoansWrongFalsely : Prop := fnPlacedLoansRow.holds Try.pinned (OpenSpec.ofChange fnPlacedLoansWrong)

/-- 'laws.FnFirstLoans': WHATEVER THE INPUT: true; the input reads as it did. -/
def fnFirstLoansSpec : ChangeSpec := { name := "fnFirstLoans", fn := fun _ => fun
  | [d] => { results := [.lit (.bool true)], args := [d] }
  | _ => none }
def fnFirstLoansRow : OpenClaim := { program := "ytmaaaiccmllnlaa", sum := "8a055b9f9d9883d7dd83bef3a179c7aba2ff980b30b15aa5f7fbc03e141e9c7f", func := "loop.example/borrowcheck/laws.FnFirstLoans", spec := "fnFirstLoans", unfollowed := true, recurses := true, apart := false }
def FnFirstLoansSaid : Prop := fnFirstLoansRow.holds Try.pinned (OpenSpec.ofChange fnFirstLoansSpec)

/-- ITS FALSE NEIGHBOUR: 'it returns false'. Refute it at one input. -/
def fnFirstLoansWrong : ChangeSpec := { name := "fnFirstLoans", fn := fun _ => fun
  | [d] => { results := [.lit (.bool false)], args := [d] }
  | _ => none }
def FnFirstLoansWrongFalsely : Prop := fnFirstLoansRow.holds Try.pinned (OpenSpec.ofChange fnFirstLoansWrong)

/-- 'laws.FnLiveLoans': WHATEVER THE INPUT: true; the input reads as it did. -/
def fnLiveLoansSpec : ChangeSpec := { name := "fnLiveLoans", fn := fun _ => fun
  | [d] => { results := [.lit (.bool true)], args := [d] }
  | _ => none }
def fnLiveLoansRow : OpenClaim := { program := "ytmaaaiccmllnlaa", sum := "8a055b9f9d9883d7dd83bef3a179c7aba2ff980b30b15aa5f7fbc03e141e9c7f", func := "loop.example/borrowcheck/laws.FnLiveLoans", spec := "fnLiveLoans", unfollowed := true, recurses := true, apart := false }
def FnLiveLoansSaid : Prop := fnLiveLoansRow.holds Try.pinned (OpenSpec.ofChange fnLiveLoansSpec)

/-- ITS FALSE NEIGHBOUR: 'it returns false'. Refute it at one input. -/
def fnLiveLoansWrong : ChangeSpec := { name := "fnLiveLoans", fn := fun _ => fun
  | [d] => { results := [.lit (.bool false)], args := [d] }
  | _ => none }
def FnLiveLoansWrongFalsely : Prop := fnLiveLoansRow.holds Try.pinned (OpenSpec.ofChange fnLiveLoansWrong)

/-- 'laws.FnLoanRun': WHATEVER THE INPUT: true; the input reads as it did. -/
def fnLoanRunSpec : ChangeSpec := { name := "fnLoanRun", fn := fun _ => fun
  | [d1, d2] => { results := [.lit (.bool true)], args := [d1, d2] }
  | _ => none }
def fnLoanRunRow : OpenClaim := { program := "ytmaaaiccmllnlaa", sum := "8a055b9f9d9883d7dd83bef3a179c7aba2ff980b30b15aa5f7fbc03e141e9c7f", func := "loop.example/borrowcheck/laws.FnLoanRun", spec := "fnLoanRun", unfollowed := true, recurses := true, apart := false }
def FnLoanRunSaid : Prop := fnLoanRunRow.holds Try.pinned (OpenSpec.ofChange fnLoanRunSpec)

/-- ITS FALSE NEIGHBOUR: 'it returns false'. Refute it at one input. -/
def fnLoanRunWrong : ChangeSpec := { name := "fnLoanRun", fn := fun _ => fun
  | [d1, d2] => { results := [.lit (.bool false)], args := [d1, d2] }
  | _ => none }
def FnLoanRunWrongFalsely : Prop := fnLoanRunRow.holds Try.pinned (OpenSpec.ofChange fnLoanRunWrong)

/- THE SECOND FORM. 'bulk': how many values and letters a reading holds, each counted each time it is reached (what is shared counts as often as it is met; a slice's spare places count too). A statement '..UptoSaid' is the law's where the arguments, and the package variables that the reading takes, are together of bulk at most 1048576: NARROWER than '..Said'. Prove '..Said' where nothing that the law and all that it calls make is longer than what came in: it says more and counts as full. Else prove '..UptoSaid'. A law counts once. -/
mutual
def uptoBulk {H : Type} : DataW H → Nat
  | .lit (.string bytes) => bytes.length + 1
  | .lit _ => 1
  | .nil => 1
  | .ptr d => uptoBulk d + 1
  | .slice elems spare => uptoBulkAll elems + uptoBulkAll spare + 1
  | .agg parts => uptoBulkAll parts + 1
  | .iface _ d => uptoBulk d + 1
  | .map entries => uptoBulkEntries entries + 1
  | .held _ => 1
def uptoBulkAll {H : Type} : List (DataW H) → Nat
  | [] => 0
  | d :: r => uptoBulk d + uptoBulkAll r
def uptoBulkEntries {H : Type} : List (Lit × DataW H) → Nat
  | [] => 0
  | x :: r => uptoBulkEntry x + uptoBulkEntries r
def uptoBulkEntry {H : Type} : Lit × DataW H → Nat
  | (.string bytes, d) => bytes.length + uptoBulk d + 1
  | (_, d) => uptoBulk d + 1
 end
def uptoSmall : (H : Type) → List (DataW H) → Bool := fun _ ds => decide (uptoBulkAll ds ≤ 1048576)
def OpenSpec.upto (s : _root_.Go.ChangeSpec) : _root_.Go.OpenSpec := { _root_.Go.OpenSpec.ofChange s with cond := some uptoSmall }

/-- 'laws.FnWiderRegions', WHERE WHAT IT READS IS OF BULK AT MOST 1048576: true; the input reads as it did. -/
def fnWiderRegionsUptoRow : OpenClaim := { program := "ytmaaaiccmllnlaa", sum := "8a055b9f9d9883d7dd83bef3a179c7aba2ff980b30b15aa5f7fbc03e141e9c7f", func := "loop.example/borrowcheck/laws.FnWiderRegions", spec := "fnWiderRegions", unfollowed := true, recurses := true, apart := false, narrowed := true }
def FnWiderRegionsUptoSaid : Prop := fnWiderRegionsUptoRow.holds Try.pinned (OpenSpec.upto fnWiderRegionsSpec)

/-- 'laws.FnBoundsHold', WHERE WHAT IT READS IS OF BULK AT MOST 1048576: true; the input reads as it did. -/
def fnBoundsHoldUptoRow : OpenClaim := { program := "ytmaaaiccmllnlaa", sum := "8a055b9f9d9883d7dd83bef3a179c7aba2ff980b30b15aa5f7fbc03e141e9c7f", func := "loop.example/borrowcheck/laws.FnBoundsHold", spec := "fnBoundsHold", unfollowed := true, recurses := true, apart := false, narrowed := true }
def FnBoundsHoldUptoSaid : Prop := fnBoundsHoldUptoRow.holds Try.pinned (OpenSpec.upto fnBoundsHoldSpec)

/-- 'laws.FnRegionOf', WHERE WHAT IT READS IS OF BULK AT MOST 1048576: true; the input reads as it did. -/
def fnRegionOfUptoRow : OpenClaim := { program := "ytmaaaiccmllnlaa", sum := "8a055b9f9d9883d7dd83bef3a179c7aba2ff980b30b15aa5f7fbc03e141e9c7f", func := "loop.example/borrowcheck/laws.FnRegionOf", spec := "fnRegionOf", unfollowed := true, recurses := true, apart := false, narrowed := true }
def FnRegionOfUptoSaid : Prop := fnRegionOfUptoRow.holds Try.pinned (OpenSpec.upto fnRegionOfSpec)

/-- 'laws.FnLoopOf', WHERE WHAT IT READS IS OF BULK AT MOST 1048576: true; the input reads as it did. -/
def fnLoopOfUptoRow : OpenClaim := { program := "ytmaaaiccmllnlaa", sum := "8a055b9f9d9883d7dd83bef3a179c7aba2ff980b30b15aa5f7fbc03e141e9c7f", func := "loop.example/borrowcheck/laws.FnLoopOf", spec := "fnLoopOf", unfollowed := true, recurses := true, apart := false, narrowed := true }
def FnLoopOfUptoSaid : Prop := fnLoopOfUptoRow.holds Try.pinned (OpenSpec.upto fnLoopOfSpec)

/-- 'laws.FnShortWay', WHERE WHAT IT READS IS OF BULK AT MOST 1048576: true; the input reads as it did. -/
def fnShortWayUptoRow : OpenClaim := { program := "ytmaaaiccmllnlaa", sum := "8a055b9f9d9883d7dd83bef3a179c7aba2ff980b30b15aa5f7fbc03e141e9c7f", func := "loop.example/borrowcheck/laws.FnShortWay", spec := "fnShortWay", unfollowed := true, recurses := true, apart := false, narrowed := true }
def FnShortWayUptoSaid : Prop := fnShortWayUptoRow.holds Try.pinned (OpenSpec.upto fnShortWaySpec)

/-- 'laws.FnWayChoices', WHERE WHAT IT READS IS OF BULK AT MOST 1048576: true; the input reads as it did. -/
def fnWayChoicesUptoRow : OpenClaim := { program := "ytmaaaiccmllnlaa", sum := "8a055b9f9d9883d7dd83bef3a179c7aba2ff980b30b15aa5f7fbc03e141e9c7f", func := "loop.example/borrowcheck/laws.FnWayChoices", spec := "fnWayChoices", unfollowed := true, recurses := true, apart := false, narrowed := true }
def FnWayChoicesUptoSaid : Prop := fnWayChoicesUptoRow.holds Try.pinned (OpenSpec.upto fnWayChoicesSpec)

/-- 'laws.FnOwnLoan', WHERE WHAT IT READS IS OF BULK AT MOST 1048576: true; the input reads as it did. -/
def fnOwnLoanUptoRow : OpenClaim := { program := "ytmaaaiccmllnlaa", sum := "8a055b9f9d9883d7dd83bef3a179c7aba2ff980b30b15aa5f7fbc03e141e9c7f", func := "loop.example/borrowcheck/laws.FnOwnLoan", spec := "fnOwnLoan", unfollowed := true, recurses := true, apart := false, narrowed := true }
def FnOwnLoanUptoSaid : Prop := fnOwnLoanUptoRow.holds Try.pinned (OpenSpec.upto fnOwnLoanSpec)

/-- 'laws.FnLoansIn', WHERE WHAT IT READS IS OF BULK AT MOST 1048576: true; the input reads as it did. -/
def fnLoansInUptoRow : OpenClaim := { program := "ytmaaaiccmllnlaa", sum := "8a055b9f9d9883d7dd83bef3a179c7aba2ff980b30b15aa5f7fbc03e141e9c7f", func := "loop.example/borrowcheck/laws.FnLoansIn", spec := "fnLoansIn", unfollowed := true, recurses := true, apart := false, narrowed := true }
def FnLoansInUptoSaid : Prop := fnLoansInUptoRow.holds Try.pinned (OpenSpec.upto fnLoansInSpec)

/-- 'laws.FnPlacedLoans', WHERE WHAT IT READS IS OF BULK AT MOST 1048576: true; the input reads as it did. -/
def fnPlacedLoansUptoRow : OpenClaim := { program := "ytmaaaiccmllnlaa", sum := "8a055b9f9d9883d7dd83bef3a179c7aba2ff980b30b15aa5f7fbc03e141e9c7f", func := "loop.example/borrowcheck/laws.FnPlacedLoans", spec := "fnPlacedLoans", unfollowed := true, recurses := true, apart := false, narrowed := true }
def FnPlacedLoansUptoSaid : Prop := fnPlacedLoansUptoRow.holds Try.pinned (OpenSpec.upto fnPlacedLoansSpec)

/-- 'laws.FnFirstLoans', WHERE WHAT IT READS IS OF BULK AT MOST 1048576: true; the input reads as it did. -/
def fnFirstLoansUptoRow : OpenClaim := { program := "ytmaaaiccmllnlaa", sum := "8a055b9f9d9883d7dd83bef3a179c7aba2ff980b30b15aa5f7fbc03e141e9c7f", func := "loop.example/borrowcheck/laws.FnFirstLoans", spec := "fnFirstLoans", unfollowed := true, recurses := true, apart := false, narrowed := true }
def FnFirstLoansUptoSaid : Prop := fnFirstLoansUptoRow.holds Try.pinned (OpenSpec.upto fnFirstLoansSpec)

/-- 'laws.FnLiveLoans', WHERE WHAT IT READS IS OF BULK AT MOST 1048576: true; the input reads as it did. -/
def fnLiveLoansUptoRow : OpenClaim := { program := "ytmaaaiccmllnlaa", sum := "8a055b9f9d9883d7dd83bef3a179c7aba2ff980b30b15aa5f7fbc03e141e9c7f", func := "loop.example/borrowcheck/laws.FnLiveLoans", spec := "fnLiveLoans", unfollowed := true, recurses := true, apart := false, narrowed := true }
def FnLiveLoansUptoSaid : Prop := fnLiveLoansUptoRow.holds Try.pinned (OpenSpec.upto fnLiveLoansSpec)

/-- 'laws.FnLoanRun', WHERE WHAT IT READS IS OF BULK AT MOST 1048576: true; the input reads as it did. -/
def fnLoanRunUptoRow : OpenClaim := { program := "ytmaaaiccmllnlaa", sum := "8a055b9f9d9883d7dd83bef3a179c7aba2ff980b30b15aa5f7fbc03e141e9c7f", func := "loop.example/borrowcheck/laws.FnLoanRun", spec := "fnLoanRun", unfollowed := true, recurses := true, apart := false, narrowed := true }
def FnLoanRunUptoSaid : Prop := fnLoanRunUptoRow.holds Try.pinned (OpenSpec.upto fnLoanRunSpec)

end Rows
end Go.Proofs.Ytmaaaiccmllnlaa
