/-
  No cell of these rows narrows 'for every input' (looked for: loops, veiled, ifaces, maps, wideKeys, modest, calm, conditions, laid).
  DERIVED. THE GIVEN ROWS OF THIS SEAT. 12 by the template 'for every input the law returns true; each argument reads behind the call as it read before'; 0 by the template 'total and deterministic' (their statements: YtgmipapdcihdpaaTotals.lean).
  GIVEN WITH THE SEED: the statements are not yours to turn. If you find one false, say at which input.
  Laid BY PROGRAM, IN A SANDBOX (cutbox-rows.mjs): the forced cells as the released guide's own fill.sh prints them over the translation ee96d27b52407079… (all of the seat's roots in one cut). By AI agents, Wed Nov 11 2026. No macro, syntax, notation, axiom, sorry.
-/
import Derived.Test.YtgmipapdcihdpaaChecked
import GoSem.Claim
import GoSem.ClaimJoined
import GoSem.ClaimMapViews
import Derived.JoinedTies
import Derived.KernelRfl
namespace Go.Proofs.Ytgmipapdcihdpaa
/- THE CELL 'sum', in the pinned program and in every row, IS THE sha256 OF THE DUMP (.gsa) THAT YtgmipapdcihdpaaProg.lean LOADS. Nothing in Lean hashes anything: it is a label: what it is worth is what the hold of that sum in a sandbox is worth. -/
noncomputable def Try.pinned : Pinned := { name := "ytgmipapdcihdpaa", sum := "ee96d27b524070795920d5ca8537738c588ef4a9454fd6bf7ca69e0b92a09261", checked := Try.checked }
namespace Rows
def none {H : Type} : Left H := { results := [], args := [] }

/-- 'laws.FnTakesOf': WHATEVER THE INPUT: true; the input reads as it did. -/
def fnTakesOfSpec : ChangeSpec := { name := "fnTakesOf", fn := fun _ => fun
  | [d] => { results := [.lit (.bool true)], args := [d] }
  | _ => none }
def fnTakesOfRow : OpenClaim := { program := "ytgmipapdcihdpaa", sum := "ee96d27b524070795920d5ca8537738c588ef4a9454fd6bf7ca69e0b92a09261", func := "loop.example/borrowcheck/laws.FnTakesOf", spec := "fnTakesOf", unfollowed := true, recurses := true, apart := false }
def FnTakesOfSaid : Prop := fnTakesOfRow.holds Try.pinned (OpenSpec.ofChange fnTakesOfSpec)

/-- ITS FALSE NEIGHBOUR: 'it returns false'. Refute it at one input. -/
def fnTakesOfWrong : ChangeSpec := { name := "fnTakesOf", fn := fun _ => fun
  | [d] => { results := [.lit (.bool false)], args := [d] }
  | _ => none }
def FnTakesOfWrongFalsely : Prop := fnTakesOfRow.holds Try.pinned (OpenSpec.ofChange fnTakesOfWrong)

/-- 'laws.FnNeedsOpen': WHATEVER THE INPUT: true; the input reads as it did. -/
def fnNeedsOpenSpec : ChangeSpec := { name := "fnNeedsOpen", fn := fun _ => fun
  | [d] => { results := [.lit (.bool true)], args := [d] }
  | _ => none }
def fnNeedsOpenRow : OpenClaim := { program := "ytgmipapdcihdpaa", sum := "ee96d27b524070795920d5ca8537738c588ef4a9454fd6bf7ca69e0b92a09261", func := "loop.example/borrowcheck/laws.FnNeedsOpen", spec := "fnNeedsOpen", unfollowed := true, recurses := true, apart := false }
def FnNeedsOpenSaid : Prop := fnNeedsOpenRow.holds Try.pinned (OpenSpec.ofChange fnNeedsOpenSpec)

/-- ITS FALSE NEIGHBOUR: 'it returns false'. Refute it at one input. -/
def fnNeedsOpenWrong : ChangeSpec := { name := "fnNeedsOpen", fn := fun _ => fun
  | [d] => { results := [.lit (.bool false)], args := [d] }
  | _ => none }
def FnNeedsOpenWrongFalsely : Prop := fnNeedsOpenRow.holds Try.pinned (OpenSpec.ofChange fnNeedsOpenWrong)

/-- 'laws.FnLiveStep': WHATEVER THE INPUT: true; the input reads as it did. -/
def fnLiveStepSpec : ChangeSpec := { name := "fnLiveStep", fn := fun _ => fun
  | [d] => { results := [.lit (.bool true)], args := [d] }
  | _ => none }
def fnLiveStepRow : OpenClaim := { program := "ytgmipapdcihdpaa", sum := "ee96d27b524070795920d5ca8537738c588ef4a9454fd6bf7ca69e0b92a09261", func := "loop.example/borrowcheck/laws.FnLiveStep", spec := "fnLiveStep", unfollowed := true, recurses := true, apart := false }
def FnLiveStepSaid : Prop := fnLiveStepRow.holds Try.pinned (OpenSpec.ofChange fnLiveStepSpec)

/-- ITS FALSE NEIGHBOUR: 'it returns false'. Refute it at one input. -/
def fnLiveStepWrong : ChangeSpec := { name := "fnLiveStep", fn := fun _ => fun
  | [d] => { results := [.lit (.bool false)], args := [d] }
  | _ => none }
def FnLiveStepWrongFalsely : Prop := fnLiveStepRow.holds Try.pinned (OpenSpec.ofChange fnLiveStepWrong)

/-- 'laws.FnFirstSet': WHATEVER THE INPUT: true; the input reads as it did. -/
def fnFirstSetSpec : ChangeSpec := { name := "fnFirstSet", fn := fun _ => fun
  | [d] => { results := [.lit (.bool true)], args := [d] }
  | _ => none }
def fnFirstSetRow : OpenClaim := { program := "ytgmipapdcihdpaa", sum := "ee96d27b524070795920d5ca8537738c588ef4a9454fd6bf7ca69e0b92a09261", func := "loop.example/borrowcheck/laws.FnFirstSet", spec := "fnFirstSet", unfollowed := true, recurses := true, apart := false }
def FnFirstSetSaid : Prop := fnFirstSetRow.holds Try.pinned (OpenSpec.ofChange fnFirstSetSpec)

/-- ITS FALSE NEIGHBOUR: 'it returns false'. Refute it at one input. -/
def fnFirstSetWrong : ChangeSpec := { name := "fnFirstSet", fn := fun _ => fun
  | [d] => { results := [.lit (.bool false)], args := [d] }
  | _ => none }
def FnFirstSetWrongFalsely : Prop := fnFirstSetRow.holds Try.pinned (OpenSpec.ofChange fnFirstSetWrong)

/-- 'laws.FnNeedsOf': WHATEVER THE INPUT: true; the input reads as it did. -/
def fnNeedsOfSpec : ChangeSpec := { name := "fnNeedsOf", fn := fun _ => fun
  | [d] => { results := [.lit (.bool true)], args := [d] }
  | _ => none }
def fnNeedsOfRow : OpenClaim := { program := "ytgmipapdcihdpaa", sum := "ee96d27b524070795920d5ca8537738c588ef4a9454fd6bf7ca69e0b92a09261", func := "loop.example/borrowcheck/laws.FnNeedsOf", spec := "fnNeedsOf", unfollowed := true, recurses := true, apart := false }
def FnNeedsOfSaid : Prop := fnNeedsOfRow.holds Try.pinned (OpenSpec.ofChange fnNeedsOfSpec)

/-- ITS FALSE NEIGHBOUR: 'it returns false'. Refute it at one input. -/
def fnNeedsOfWrong : ChangeSpec := { name := "fnNeedsOf", fn := fun _ => fun
  | [d] => { results := [.lit (.bool false)], args := [d] }
  | _ => none }
def FnNeedsOfWrongFalsely : Prop := fnNeedsOfRow.holds Try.pinned (OpenSpec.ofChange fnNeedsOfWrong)

/-- 'laws.FnUnsetFirst': WHATEVER THE INPUT: true; the input reads as it did. -/
def fnUnsetFirstSpec : ChangeSpec := { name := "fnUnsetFirst", fn := fun _ => fun
  | [d] => { results := [.lit (.bool true)], args := [d] }
  | _ => none }
def fnUnsetFirstRow : OpenClaim := { program := "ytgmipapdcihdpaa", sum := "ee96d27b524070795920d5ca8537738c588ef4a9454fd6bf7ca69e0b92a09261", func := "loop.example/borrowcheck/laws.FnUnsetFirst", spec := "fnUnsetFirst", unfollowed := true, recurses := true, apart := false }
def FnUnsetFirstSaid : Prop := fnUnsetFirstRow.holds Try.pinned (OpenSpec.ofChange fnUnsetFirstSpec)

/-- ITS FALSE NEIGHBOUR: 'it returns false'. Refute it at one input. -/
def fnUnsetFirstWrong : ChangeSpec := { name := "fnUnsetFirst", fn := fun _ => fun
  | [d] => { results := [.lit (.bool false)], args := [d] }
  | _ => none }
def FnUnsetFirstWrongFalsely : Prop := fnUnsetFirstRow.holds Try.pinned (OpenSpec.ofChange fnUnsetFirstWrong)

/-- 'laws.FnSetAfter': WHATEVER THE INPUT: true; the input reads as it did. -/
def fnSetAfterSpec : ChangeSpec := { name := "fnSetAfter", fn := fun _ => fun
  | [d] => { results := [.lit (.bool true)], args := [d] }
  | _ => none }
def fnSetAfterRow : OpenClaim := { program := "ytgmipapdcihdpaa", sum := "ee96d27b524070795920d5ca8537738c588ef4a9454fd6bf7ca69e0b92a09261", func := "loop.example/borrowcheck/laws.FnSetAfter", spec := "fnSetAfter", unfollowed := true, recurses := true, apart := false }
def FnSetAfterSaid : Prop := fnSetAfterRow.holds Try.pinned (OpenSpec.ofChange fnSetAfterSpec)

/-- ITS FALSE NEIGHBOUR: 'it returns false'. Refute it at one input. -/
def fnSetAfterWrong : ChangeSpec := { name := "fnSetAfter", fn := fun _ => fun
  | [d] => { results := [.lit (.bool false)], args := [d] }
  | _ => none }
def FnSetAfterWrongFalsely : Prop := fnSetAfterRow.holds Try.pinned (OpenSpec.ofChange fnSetAfterWrong)

/-- 'laws.FnEndLive': WHATEVER THE INPUT: true; the input reads as it did. -/
def fnEndLiveSpec : ChangeSpec := { name := "fnEndLive", fn := fun _ => fun
  | [d] => { results := [.lit (.bool true)], args := [d] }
  | _ => none }
def fnEndLiveRow : OpenClaim := { program := "ytgmipapdcihdpaa", sum := "ee96d27b524070795920d5ca8537738c588ef4a9454fd6bf7ca69e0b92a09261", func := "loop.example/borrowcheck/laws.FnEndLive", spec := "fnEndLive", unfollowed := true, recurses := true, apart := false }
def FnEndLiveSaid : Prop := fnEndLiveRow.holds Try.pinned (OpenSpec.ofChange fnEndLiveSpec)

/-- ITS FALSE NEIGHBOUR: 'it returns false'. Refute it at one input. -/
def fnEndLiveWrong : ChangeSpec := { name := "fnEndLive", fn := fun _ => fun
  | [d] => { results := [.lit (.bool false)], args := [d] }
  | _ => none }
def FnEndLiveWrongFalsely : Prop := fnEndLiveRow.holds Try.pinned (OpenSpec.ofChange fnEndLiveWrong)

/-- 'laws.FnOpenIssues': WHATEVER THE INPUT: true; the input reads as it did. -/
def fnOpenIssuesSpec : ChangeSpec := { name := "fnOpenIssues", fn := fun _ => fun
  | [d] => { results := [.lit (.bool true)], args := [d] }
  | _ => none }
def fnOpenIssuesRow : OpenClaim := { program := "ytgmipapdcihdpaa", sum := "ee96d27b524070795920d5ca8537738c588ef4a9454fd6bf7ca69e0b92a09261", func := "loop.example/borrowcheck/laws.FnOpenIssues", spec := "fnOpenIssues", unfollowed := true, recurses := true, apart := false }
def FnOpenIssuesSaid : Prop := fnOpenIssuesRow.holds Try.pinned (OpenSpec.ofChange fnOpenIssuesSpec)

/-- ITS FALSE NEIGHBOUR: 'it returns false'. Refute it at one input. -/
def fnOpenIssuesWrong : ChangeSpec := { name := "fnOpenIssues", fn := fun _ => fun
  | [d] => { results := [.lit (.bool false)], args := [d] }
  | _ => none }
def FnOpenIssuesWrongFalsely : Prop := fnOpenIssuesRow.holds Try.pinned (OpenSpec.ofChange fnOpenIssuesWrong)

/-- 'laws.FnUnsetUses': WHATEVER THE INPUT: true; the input reads as it did. -/
def fnUnsetUsesSpec : ChangeSpec := { name := "fnUnsetUses", fn := fun _ => fun
  | [d] => { results := [.lit (.bool true)], args := [d] }
  | _ => none }
def fnUnsetUsesRow : OpenClaim := { program := "ytgmipapdcihdpaa", sum := "ee96d27b524070795920d5ca8537738c588ef4a9454fd6bf7ca69e0b92a09261", func := "loop.example/borrowcheck/laws.FnUnsetUses", spec := "fnUnsetUses", unfollowed := true, recurses := true, apart := false }
def FnUnsetUsesSaid : Prop := fnUnsetUsesRow.holds Try.pinned (OpenSpec.ofChange fnUnsetUsesSpec)

/-- ITS FALSE NEIGHBOUR: 'it returns false'. Refute it at one input. -/
def fnUnsetUsesWrong : ChangeSpec := { name := "fnUnsetUses", fn := fun _ => fun
  | [d] => { results := [.lit (.bool false)], args := [d] }
  | _ => none }
def FnUnsetUsesWrongFalsely : Prop := fnUnsetUsesRow.holds Try.pinned (OpenSpec.ofChange fnUnsetUsesWrong)

/-- 'laws.FnGivesOf': WHATEVER THE INPUT: true; the input reads as it did. -/
def fnGivesOfSpec : ChangeSpec := { name := "fnGivesOf", fn := fun _ => fun
  | [d] => { results := [.lit (.bool true)], args := [d] }
  | _ => none }
def fnGivesOfRow : OpenClaim := { program := "ytgmipapdcihdpaa", sum := "ee96d27b524070795920d5ca8537738c588ef4a9454fd6bf7ca69e0b92a09261", func := "loop.example/borrowcheck/laws.FnGivesOf", spec := "fnGivesOf", unfollowed := true, recurses := true, apart := false }
def FnGivesOfSaid : Prop := fnGivesOfRow.holds Try.pinned (OpenSpec.ofChange fnGivesOfSpec)

/-- ITS FALSE NEIGHBOUR: 'it returns false'. Refute it at one input. -/
def fnGivesOfWrong : ChangeSpec := { name := "fnGivesOf", fn := fun _ => fun
  | [d] => { results := [.lit (.bool false)], args := [d] }
  | _ => none }
def FnGivesOfWrongFalsely : Prop := fnGivesOfRow.holds Try.pinned (OpenSpec.ofChange fnGivesOfWrong)

/-- 'laws.FnNeedsGiven': WHATEVER THE INPUT: true; the input reads as it did. -/
def fnNeedsGivenSpec : ChangeSpec := { name := "fnNeedsGiven", fn := fun _ => fun
  | [d] => { results := [.lit (.bool true)], args := [d] }
  | _ => none }
def fnNeedsGivenRow : OpenClaim := { program := "ytgmipapdcihdpaa", sum := "ee96d27b524070795920d5ca8537738c588ef4a9454fd6bf7ca69e0b92a09261", func := "loop.example/borrowcheck/laws.FnNeedsGiven", spec := "fnNeedsGiven", unfollowed := true, recurses := true, apart := false }
def FnNeedsGivenSaid : Prop := fnNeedsGivenRow.holds Try.pinned (OpenSpec.ofChange fnNeedsGivenSpec)

/-- ITS FALSE NEIGHBOUR: 'it returns false'. Refute it at one input. -/
def fnNeedsGivenWrong : ChangeSpec := { name := "fnNeedsGiven", fn := fun _ => fun
  | [d] => { results := [.lit (.bool false)], args := [d] }
  | _ => none }
def FnNeedsGivenWrongFalsely : Prop := fnNeedsGivenRow.holds Try.pinned (OpenSpec.ofChange fnNeedsGivenWrong)

/- THE SECOND FORM. 'bulk': how many values and letters a reading holds, each counted each time it is reached (what is shared counts as often as it is met; a slice's spare places count too). A statement '..UptoSaid' is the law's where the arguments, and the package variables that the reading takes, are together of bulk at most 1048576: NARROWER than '..Said'. Prove '..Said' where nothing that the law and all that it calls make is longer than what came in: it says more and counts as full. Else prove '..UptoSaid'. A law counts once. -/
mutual
def uptoBulk {H : Type} : DataW H → Nat
  | .lit (.string bytes) => bytes.length + 1
  | .lit _ => 1
  | .nil => 1
  | .ptr d => uptoBulk d + 1
  | .slice elems spare => uptoBulkAll elems + uptoBulkAll spare + 1
  | .agg parts => uptoBulkAll parts + 1
  | .iface _ d => uptoBulk d + 1
  | .map entries => uptoBulkEntries entries + 1
  | .held _ => 1
def uptoBulkAll {H : Type} : List (DataW H) → Nat
  | [] => 0
  | d :: r => uptoBulk d + uptoBulkAll r
def uptoBulkEntries {H : Type} : List (Lit × DataW H) → Nat
  | [] => 0
  | x :: r => uptoBulkEntry x + uptoBulkEntries r
def uptoBulkEntry {H : Type} : Lit × DataW H → Nat
  | (.string bytes, d) => bytes.length + uptoBulk d + 1
  | (_, d) => uptoBulk d + 1
 end
def uptoSmall : (H : Type) → List (DataW H) → Bool := fun _ ds => decide (uptoBulkAll ds ≤ 1048576)
def OpenSpec.upto (s : _root_.Go.ChangeSpec) : _root_.Go.OpenSpec := { _root_.Go.OpenSpec.ofChange s with cond := some uptoSmall }

/-- 'laws.FnTakesOf', WHERE WHAT IT READS IS OF BULK AT MOST 1048576: true; the input reads as it did. -/
def fnTakesOfUptoRow : OpenClaim := { program := "ytgmipapdcihdpaa", sum := "ee96d27b524070795920d5ca8537738c588ef4a9454fd6bf7ca69e0b92a09261", func := "loop.example/borrowcheck/laws.FnTakesOf", spec := "fnTakesOf", unfollowed := true, recurses := true, apart := false, narrowed := true }
def FnTakesOfUptoSaid : Prop := fnTakesOfUptoRow.holds Try.pinned (OpenSpec.upto fnTakesOfSpec)

/-- 'laws.FnNeedsOpen', WHERE WHAT IT READS IS OF BULK AT MOST 1048576: true; the input reads as it did. -/
def fnNeedsOpenUptoRow : OpenClaim := { program := "ytgmipapdcihdpaa", sum := "ee96d27b524070795920d5ca8537738c588ef4a9454fd6bf7ca69e0b92a09261", func := "loop.example/borrowcheck/laws.FnNeedsOpen", spec := "fnNeedsOpen", unfollowed := true, recurses := true, apart := false, narrowed := true }
def FnNeedsOpenUptoSaid : Prop := fnNeedsOpenUptoRow.holds Try.pinned (OpenSpec.upto fnNeedsOpenSpec)

/-- 'laws.FnLiveStep', WHERE WHAT IT READS IS OF BULK AT MOST 1048576: true; the input reads as it did. -/
def fnLiveStepUptoRow : OpenClaim := { program := "ytgmipapdcihdpaa", sum := "ee96d27b524070795920d5ca8537738c588ef4a9454fd6bf7ca69e0b92a09261", func := "loop.example/borrowcheck/laws.FnLiveStep", spec := "fnLiveStep", unfollowed := true, recurses := true, apart := false, narrowed := true }
def FnLiveStepUptoSaid : Prop := fnLiveStepUptoRow.holds Try.pinned (OpenSpec.upto fnLiveStepSpec)

/-- 'laws.FnFirstSet', WHERE WHAT IT READS IS OF BULK AT MOST 1048576: true; the input reads as it did. -/
def fnFirstSetUptoRow : OpenClaim := { program := "ytgmipapdcihdpaa", sum := "ee96d27b524070795920d5ca8537738c588ef4a9454fd6bf7ca69e0b92a09261", func := "loop.example/borrowcheck/laws.FnFirstSet", spec := "fnFirstSet", unfollowed := true, recurses := true, apart := false, narrowed := true }
def FnFirstSetUptoSaid : Prop := fnFirstSetUptoRow.holds Try.pinned (OpenSpec.upto fnFirstSetSpec)

/-- 'laws.FnNeedsOf', WHERE WHAT IT READS IS OF BULK AT MOST 1048576: true; the input reads as it did. -/
def fnNeedsOfUptoRow : OpenClaim := { program := "ytgmipapdcihdpaa", sum := "ee96d27b524070795920d5ca8537738c588ef4a9454fd6bf7ca69e0b92a09261", func := "loop.example/borrowcheck/laws.FnNeedsOf", spec := "fnNeedsOf", unfollowed := true, recurses := true, apart := false, narrowed := true }
def FnNeedsOfUptoSaid : Prop := fnNeedsOfUptoRow.holds Try.pinned (OpenSpec.upto fnNeedsOfSpec)

/-- 'laws.FnUnsetFirst', WHERE WHAT IT READS IS OF BULK AT MOST 1048576: true; the input reads as it did. -/
def fnUnsetFirstUptoRow : OpenClaim := { program := "ytgmipapdcihdpaa", sum := "ee96d27b524070795920d5ca8537738c588ef4a9454fd6bf7ca69e0b92a09261", func := "loop.example/borrowcheck/laws.FnUnsetFirst", spec := "fnUnsetFirst", unfollowed := true, recurses := true, apart := false, narrowed := true }
def FnUnsetFirstUptoSaid : Prop := fnUnsetFirstUptoRow.holds Try.pinned (OpenSpec.upto fnUnsetFirstSpec)

/-- 'laws.FnSetAfter', WHERE WHAT IT READS IS OF BULK AT MOST 1048576: true; the input reads as it did. -/
def fnSetAfterUptoRow : OpenClaim := { program := "ytgmipapdcihdpaa", sum := "ee96d27b524070795920d5ca8537738c588ef4a9454fd6bf7ca69e0b92a09261", func := "loop.example/borrowcheck/laws.FnSetAfter", spec := "fnSetAfter", unfollowed := true, recurses := true, apart := false, narrowed := true }
def FnSetAfterUptoSaid : Prop := fnSetAfterUptoRow.holds Try.pinned (OpenSpec.upto fnSetAfterSpec)

/-- 'laws.FnEndLive', WHERE WHAT IT READS IS OF BULK AT MOST 1048576: true; the input reads as it did. -/
def fnEndLiveUptoRow : OpenClaim := { program := "ytgmipapdcihdpaa", sum := "ee96d27b524070795920d5ca8537738c588ef4a9454fd6bf7ca69e0b92a09261", func := "loop.example/borrowcheck/laws.FnEndLive", spec := "fnEndLive", unfollowed := true, recurses := true, apart := false, narrowed := true }
def FnEndLiveUptoSaid : Prop := fnEndLiveUptoRow.holds Try.pinned (OpenSpec.upto fnEndLiveSpec)

/-- 'laws.FnOpenIssues', WHERE WHAT IT READS IS OF BULK AT MOST 1048576: true; the input reads as it did. -/
def fnOpenIssuesUptoRow : OpenClaim := { program := "ytgmipapdcihdpaa", sum := "ee96d27b524070795920d5ca8537738c588ef4a9454fd6bf7ca69e0b92a09261", func := "loop.example/borrowcheck/laws.FnOpenIssues", spec := "fnOpenIssues", unfollowed := true, recurses := true, apart := false, narrowed := true }
def FnOpenIssuesUptoSaid : Prop := fnOpenIssuesUptoRow.holds Try.pinned (OpenSpec.upto fnOpenIssuesSpec)

/-- 'laws.FnUnsetUses', WHERE WHAT IT READS IS OF BULK AT MOST 1048576: true; the input reads as it did. -/
def fnUnsetUsesUptoRow : OpenClaim := { program := "ytgmipapdcihdpaa", sum := "ee96d27b524070795920d5ca8537738c588ef4a9454fd6bf7ca69e0b92a09261", func := "loop.example/borrowcheck/laws.FnUnsetUses", spec := "fnUnsetUses", unfollowed := true, recurses := true, apart := false, narrowed := true }
def FnUnsetUsesUptoSaid : Prop := fnUnsetUsesUptoRow.holds Try.pinned (OpenSpec.upto fnUnsetUsesSpec)

/-- 'laws.FnGivesOf', WHERE WHAT IT READS IS OF BULK AT MOST 1048576: true; the input reads as it did. -/
def fnGivesOfUptoRow : OpenClaim := { program := "ytgmipapdcihdpaa", sum := "ee96d27b524070795920d5ca8537738c588ef4a9454fd6bf7ca69e0b92a09261", func := "loop.example/borrowcheck/laws.FnGivesOf", spec := "fnGivesOf", unfollowed := true, recurses := true, apart := false, narrowed := true }
def FnGivesOfUptoSaid : Prop := fnGivesOfUptoRow.holds Try.pinned (OpenSpec.upto fnGivesOfSpec)

/-- 'laws.FnNeedsGiven', WHERE WHAT IT READS IS OF BULK AT MOST 1048576: true; the input reads as it did. -/
def fnNeedsGivenUptoRow : OpenClaim := { program := "ytgmipapdcihdpaa", sum := "ee96d27b524070795920d5ca8537738c588ef4a9454fd6bf7ca69e0b92a09261", func := "loop.example/borrowcheck/laws.FnNeedsGiven", spec := "fnNeedsGiven", unfollowed := true, recurses := true, apart := false, narrowed := true }
def FnNeedsGivenUptoSaid : Prop := fnNeedsGivenUptoRow.holds Try.pinned (OpenSpec.upto fnNeedsGivenSpec)

end Rows
end Go.Proofs.Ytgmipapdcihdpaa
