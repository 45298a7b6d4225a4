/-
  No cell of these rows narrows 'for every input' (looked for: loops, veiled, ifaces, maps, wideKeys, modest, calm, conditions, laid).
  DERIVED. THE GIVEN ROWS OF THIS SEAT. 12 by the template 'for every input the law returns true; each argument reads behind the call as it read before'; 0 by the template 'total and deterministic' (their statements: YteaddodjijlpjaaTotals.lean).
  GIVEN WITH THE SEED: the statements are not yours to turn. If you find one false, say at which input.
  Laid BY PROGRAM, IN A SANDBOX (cutbox-rows.mjs): the forced cells as the released guide's own fill.sh prints them over the translation fa2a9fd6b4ce6c7e… (all of the seat's roots in one cut). By AI agents, Wed Nov 11 2026. No macro, syntax, notation, axiom, sorry.
-/
import Derived.Test.YteaddodjijlpjaaChecked
import GoSem.Claim
import GoSem.ClaimJoined
import GoSem.ClaimMapViews
import Derived.JoinedTies
import Derived.KernelRfl
namespace Go.Proofs.Yteaddodjijlpjaa
/- THE CELL 'sum', in the pinned program and in every row, IS THE sha256 OF THE DUMP (.gsa) THAT YteaddodjijlpjaaProg.lean LOADS. Nothing in Lean hashes anything: it is a label: what it is worth is what the hold of that sum in a sandbox is worth. -/
noncomputable def Try.pinned : Pinned := { name := "yteaddodjijlpjaa", sum := "fa2a9fd6b4ce6c7e738fc820c559743e1d0c5614eb6a773c9d757fa009953b14", checked := Try.checked }
namespace Rows
def none {H : Type} : Left H := { results := [], args := [] }

/-- 'laws.FnMayAlias': WHATEVER THE INPUT: true; the input reads as it did. -/
def fnMayAliasSpec : ChangeSpec := { name := "fnMayAlias", fn := fun _ => fun
  | [d] => { results := [.lit (.bool true)], args := [d] }
  | _ => none }
def fnMayAliasRow : OpenClaim := { program := "yteaddodjijlpjaa", sum := "fa2a9fd6b4ce6c7e738fc820c559743e1d0c5614eb6a773c9d757fa009953b14", func := "loop.example/borrowcheck/laws.FnMayAlias", spec := "fnMayAlias", unfollowed := true, recurses := true, apart := false }
def FnMayAliasSaid : Prop := fnMayAliasRow.holds Try.pinned (OpenSpec.ofChange fnMayAliasSpec)

/-- ITS FALSE NEIGHBOUR: 'it returns false'. Refute it at one input. -/
def fnMayAliasWrong : ChangeSpec := { name := "fnMayAlias", fn := fun _ => fun
  | [d] => { results := [.lit (.bool false)], args := [d] }
  | _ => none }
def FnMayAliasWrongFalsely : Prop := fnMayAliasRow.holds Try.pinned (OpenSpec.ofChange fnMayAliasWrong)

/-- 'laws.FnCellMakers': WHATEVER THE INPUT: true; the input reads as it did. -/
def fnCellMakersSpec : ChangeSpec := { name := "fnCellMakers", fn := fun _ => fun
  | [d] => { results := [.lit (.bool true)], args := [d] }
  | _ => none }
def fnCellMakersRow : OpenClaim := { program := "yteaddodjijlpjaa", sum := "fa2a9fd6b4ce6c7e738fc820c559743e1d0c5614eb6a773c9d757fa009953b14", func := "loop.example/borrowcheck/laws.FnCellMakers", spec := "fnCellMakers", unfollowed := true, recurses := true, apart := false }
def FnCellMakersSaid : Prop := fnCellMakersRow.holds Try.pinned (OpenSpec.ofChange fnCellMakersSpec)

/-- ITS FALSE NEIGHBOUR: 'it returns false'. Refute it at one input. -/
def fnCellMakersWrong : ChangeSpec := { name := "fnCellMakers", fn := fun _ => fun
  | [d] => { results := [.lit (.bool false)], args := [d] }
  | _ => none }
def FnCellMakersWrongFalsely : Prop := fnCellMakersRow.holds Try.pinned (OpenSpec.ofChange fnCellMakersWrong)

/-- 'laws.FnCellsSet': WHATEVER THE INPUT: true; the input reads as it did. -/
def fnCellsSetSpec : ChangeSpec := { name := "fnCellsSet", fn := fun _ => fun
  | [d] => { results := [.lit (.bool true)], args := [d] }
  | _ => none }
def fnCellsSetRow : OpenClaim := { program := "yteaddodjijlpjaa", sum := "fa2a9fd6b4ce6c7e738fc820c559743e1d0c5614eb6a773c9d757fa009953b14", func := "loop.example/borrowcheck/laws.FnCellsSet", spec := "fnCellsSet", unfollowed := true, recurses := true, apart := false }
def FnCellsSetSaid : Prop := fnCellsSetRow.holds Try.pinned (OpenSpec.ofChange fnCellsSetSpec)

/-- ITS FALSE NEIGHBOUR: 'it returns false'. Refute it at one input. -/
def fnCellsSetWrong : ChangeSpec := { name := "fnCellsSet", fn := fun _ => fun
  | [d] => { results := [.lit (.bool false)], args := [d] }
  | _ => none }
def FnCellsSetWrongFalsely : Prop := fnCellsSetRow.holds Try.pinned (OpenSpec.ofChange fnCellsSetWrong)

/-- 'laws.FnNumbersSet': WHATEVER THE INPUT: true; the input reads as it did. -/
def fnNumbersSetSpec : ChangeSpec := { name := "fnNumbersSet", fn := fun _ => fun
  | [d] => { results := [.lit (.bool true)], args := [d] }
  | _ => none }
def fnNumbersSetRow : OpenClaim := { program := "yteaddodjijlpjaa", sum := "fa2a9fd6b4ce6c7e738fc820c559743e1d0c5614eb6a773c9d757fa009953b14", func := "loop.example/borrowcheck/laws.FnNumbersSet", spec := "fnNumbersSet", unfollowed := true, recurses := true, apart := false }
def FnNumbersSetSaid : Prop := fnNumbersSetRow.holds Try.pinned (OpenSpec.ofChange fnNumbersSetSpec)

/-- ITS FALSE NEIGHBOUR: 'it returns false'. Refute it at one input. -/
def fnNumbersSetWrong : ChangeSpec := { name := "fnNumbersSet", fn := fun _ => fun
  | [d] => { results := [.lit (.bool false)], args := [d] }
  | _ => none }
def FnNumbersSetWrongFalsely : Prop := fnNumbersSetRow.holds Try.pinned (OpenSpec.ofChange fnNumbersSetWrong)

/-- 'laws.FnSetterOwn': WHATEVER THE INPUT: true; the input reads as it did. -/
def fnSetterOwnSpec : ChangeSpec := { name := "fnSetterOwn", fn := fun _ => fun
  | [d] => { results := [.lit (.bool true)], args := [d] }
  | _ => none }
def fnSetterOwnRow : OpenClaim := { program := "yteaddodjijlpjaa", sum := "fa2a9fd6b4ce6c7e738fc820c559743e1d0c5614eb6a773c9d757fa009953b14", func := "loop.example/borrowcheck/laws.FnSetterOwn", spec := "fnSetterOwn", unfollowed := true, recurses := true, apart := false }
def FnSetterOwnSaid : Prop := fnSetterOwnRow.holds Try.pinned (OpenSpec.ofChange fnSetterOwnSpec)

/-- ITS FALSE NEIGHBOUR: 'it returns false'. Refute it at one input. -/
def fnSetterOwnWrong : ChangeSpec := { name := "fnSetterOwn", fn := fun _ => fun
  | [d] => { results := [.lit (.bool false)], args := [d] }
  | _ => none }
def FnSetterOwnWrongFalsely : Prop := fnSetterOwnRow.holds Try.pinned (OpenSpec.ofChange fnSetterOwnWrong)

/-- 'laws.FnAliasLoan': WHATEVER THE INPUT: true; the input reads as it did. -/
def fnAliasLoanSpec : ChangeSpec := { name := "fnAliasLoan", fn := fun _ => fun
  | [d] => { results := [.lit (.bool true)], args := [d] }
  | _ => none }
def fnAliasLoanRow : OpenClaim := { program := "yteaddodjijlpjaa", sum := "fa2a9fd6b4ce6c7e738fc820c559743e1d0c5614eb6a773c9d757fa009953b14", func := "loop.example/borrowcheck/laws.FnAliasLoan", spec := "fnAliasLoan", unfollowed := true, recurses := true, apart := false }
def FnAliasLoanSaid : Prop := fnAliasLoanRow.holds Try.pinned (OpenSpec.ofChange fnAliasLoanSpec)

/-- ITS FALSE NEIGHBOUR: 'it returns false'. Refute it at one input. -/
def fnAliasLoanWrong : ChangeSpec := { name := "fnAliasLoan", fn := fun _ => fun
  | [d] => { results := [.lit (.bool false)], args := [d] }
  | _ => none }
def FnAliasLoanWrongFalsely : Prop := fnAliasLoanRow.holds Try.pinned (OpenSpec.ofChange fnAliasLoanWrong)

/-- 'laws.FnUsersOf': WHATEVER THE INPUT: true; the input reads as it did. -/
def fnUsersOfSpec : ChangeSpec := { name := "fnUsersOf", fn := fun _ => fun
  | [d] => { results := [.lit (.bool true)], args := [d] }
  | _ => none }
def fnUsersOfRow : OpenClaim := { program := "yteaddodjijlpjaa", sum := "fa2a9fd6b4ce6c7e738fc820c559743e1d0c5614eb6a773c9d757fa009953b14", func := "loop.example/borrowcheck/laws.FnUsersOf", spec := "fnUsersOf", unfollowed := true, recurses := true, apart := false }
def FnUsersOfSaid : Prop := fnUsersOfRow.holds Try.pinned (OpenSpec.ofChange fnUsersOfSpec)

/-- ITS FALSE NEIGHBOUR: 'it returns false'. Refute it at one input. -/
def fnUsersOfWrong : ChangeSpec := { name := "fnUsersOf", fn := fun _ => fun
  | [d] => { results := [.lit (.bool false)], args := [d] }
  | _ => none }
def FnUsersOfWrongFalsely : Prop := fnUsersOfRow.holds Try.pinned (OpenSpec.ofChange fnUsersOfWrong)

/-- 'laws.FnSettersOf': WHATEVER THE INPUT: true; the input reads as it did. -/
def fnSettersOfSpec : ChangeSpec := { name := "fnSettersOf", fn := fun _ => fun
  | [d] => { results := [.lit (.bool true)], args := [d] }
  | _ => none }
def fnSettersOfRow : OpenClaim := { program := "yteaddodjijlpjaa", sum := "fa2a9fd6b4ce6c7e738fc820c559743e1d0c5614eb6a773c9d757fa009953b14", func := "loop.example/borrowcheck/laws.FnSettersOf", spec := "fnSettersOf", unfollowed := true, recurses := true, apart := false }
def FnSettersOfSaid : Prop := fnSettersOfRow.holds Try.pinned (OpenSpec.ofChange fnSettersOfSpec)

/-- ITS FALSE NEIGHBOUR: 'it returns false'. Refute it at one input. -/
def fnSettersOfWrong : ChangeSpec := { name := "fnSettersOf", fn := fun _ => fun
  | [d] => { results := [.lit (.bool false)], args := [d] }
  | _ => none }
def FnSettersOfWrongFalsely : Prop := fnSettersOfRow.holds Try.pinned (OpenSpec.ofChange fnSettersOfWrong)

/-- 'laws.FnCellsOf': WHATEVER THE INPUT: true; the input reads as it did. -/
def fnCellsOfSpec : ChangeSpec := { name := "fnCellsOf", fn := fun _ => fun
  | [d1, d2] => { results := [.lit (.bool true)], args := [d1, d2] }
  | _ => none }
def fnCellsOfRow : OpenClaim := { program := "yteaddodjijlpjaa", sum := "fa2a9fd6b4ce6c7e738fc820c559743e1d0c5614eb6a773c9d757fa009953b14", func := "loop.example/borrowcheck/laws.FnCellsOf", spec := "fnCellsOf", unfollowed := true, recurses := true, apart := false }
def FnCellsOfSaid : Prop := fnCellsOfRow.holds Try.pinned (OpenSpec.ofChange fnCellsOfSpec)

/-- ITS FALSE NEIGHBOUR: 'it returns false'. Refute it at one input. -/
def fnCellsOfWrong : ChangeSpec := { name := "fnCellsOf", fn := fun _ => fun
  | [d1, d2] => { results := [.lit (.bool false)], args := [d1, d2] }
  | _ => none }
def FnCellsOfWrongFalsely : Prop := fnCellsOfRow.holds Try.pinned (OpenSpec.ofChange fnCellsOfWrong)

/-- 'laws.FnLiveAfter': WHATEVER THE INPUT: true; the input reads as it did. -/
def fnLiveAfterSpec : ChangeSpec := { name := "fnLiveAfter", fn := fun _ => fun
  | [d1, d2] => { results := [.lit (.bool true)], args := [d1, d2] }
  | _ => none }
def fnLiveAfterRow : OpenClaim := { program := "yteaddodjijlpjaa", sum := "fa2a9fd6b4ce6c7e738fc820c559743e1d0c5614eb6a773c9d757fa009953b14", func := "loop.example/borrowcheck/laws.FnLiveAfter", spec := "fnLiveAfter", unfollowed := true, recurses := true, apart := false }
def FnLiveAfterSaid : Prop := fnLiveAfterRow.holds Try.pinned (OpenSpec.ofChange fnLiveAfterSpec)

/-- ITS FALSE NEIGHBOUR: 'it returns false'. Refute it at one input. -/
def fnLiveAfterWrong : ChangeSpec := { name := "fnLiveAfter", fn := fun _ => fun
  | [d1, d2] => { results := [.lit (.bool false)], args := [d1, d2] }
  | _ => none }
def FnLiveAfterWrongFalsely : Prop := fnLiveAfterRow.holds Try.pinned (OpenSpec.ofChange fnLiveAfterWrong)

/-- 'laws.FnAlwaysSet': WHATEVER THE INPUT: true; the input reads as it did. -/
def fnAlwaysSetSpec : ChangeSpec := { name := "fnAlwaysSet", fn := fun _ => fun
  | [d1, d2] => { results := [.lit (.bool true)], args := [d1, d2] }
  | _ => none }
def fnAlwaysSetRow : OpenClaim := { program := "yteaddodjijlpjaa", sum := "fa2a9fd6b4ce6c7e738fc820c559743e1d0c5614eb6a773c9d757fa009953b14", func := "loop.example/borrowcheck/laws.FnAlwaysSet", spec := "fnAlwaysSet", unfollowed := true, recurses := true, apart := false }
def FnAlwaysSetSaid : Prop := fnAlwaysSetRow.holds Try.pinned (OpenSpec.ofChange fnAlwaysSetSpec)

/-- ITS FALSE NEIGHBOUR: 'it returns false'. Refute it at one input. -/
def fnAlwaysSetWrong : ChangeSpec := { name := "fnAlwaysSet", fn := fun _ => fun
  | [d1, d2] => { results := [.lit (.bool false)], args := [d1, d2] }
  | _ => none }
def FnAlwaysSetWrongFalsely : Prop := fnAlwaysSetRow.holds Try.pinned (OpenSpec.ofChange fnAlwaysSetWrong)

/-- 'laws.FnAccessesOf': WHATEVER THE INPUT: true; the input reads as it did. -/
def fnAccessesOfSpec : ChangeSpec := { name := "fnAccessesOf", fn := fun _ => fun
  | [d] => { results := [.lit (.bool true)], args := [d] }
  | _ => none }
def fnAccessesOfRow : OpenClaim := { program := "yteaddodjijlpjaa", sum := "fa2a9fd6b4ce6c7e738fc820c559743e1d0c5614eb6a773c9d757fa009953b14", func := "loop.example/borrowcheck/laws.FnAccessesOf", spec := "fnAccessesOf", unfollowed := true, recurses := true, apart := false }
def FnAccessesOfSaid : Prop := fnAccessesOfRow.holds Try.pinned (OpenSpec.ofChange fnAccessesOfSpec)

/-- ITS FALSE NEIGHBOUR: 'it returns false'. Refute it at one input. -/
def fnAccessesOfWrong : ChangeSpec := { name := "fnAccessesOf", fn := fun _ => fun
  | [d] => { results := [.lit (.bool false)], args := [d] }
  | _ => none }
def FnAccessesOfWrongFalsely : Prop := fnAccessesOfRow.holds Try.pinned (OpenSpec.ofChange fnAccessesOfWrong)

/- THE SECOND FORM. 'bulk': how many values and letters a reading holds, each counted each time it is reached (what is shared counts as often as it is met; a slice's spare places count too). A statement '..UptoSaid' is the law's where the arguments, and the package variables that the reading takes, are together of bulk at most 1048576: NARROWER than '..Said'. Prove '..Said' where nothing that the law and all that it calls make is longer than what came in: it says more and counts as full. Else prove '..UptoSaid'. A law counts once. -/
mutual
def uptoBulk {H : Type} : DataW H → Nat
  | .lit (.string bytes) => bytes.length + 1
  | .lit _ => 1
  | .nil => 1
  | .ptr d => uptoBulk d + 1
  | .slice elems spare => uptoBulkAll elems + uptoBulkAll spare + 1
  | .agg parts => uptoBulkAll parts + 1
  | .iface _ d => uptoBulk d + 1
  | .map entries => uptoBulkEntries entries + 1
  | .held _ => 1
def uptoBulkAll {H : Type} : List (DataW H) → Nat
  | [] => 0
  | d :: r => uptoBulk d + uptoBulkAll r
def uptoBulkEntries {H : Type} : List (Lit × DataW H) → Nat
  | [] => 0
  | x :: r => uptoBulkEntry x + uptoBulkEntries r
def uptoBulkEntry {H : Type} : Lit × DataW H → Nat
  | (.string bytes, d) => bytes.length + uptoBulk d + 1
  | (_, d) => uptoBulk d + 1
 end
def uptoSmall : (H : Type) → List (DataW H) → Bool := fun _ ds => decide (uptoBulkAll ds ≤ 1048576)
def OpenSpec.upto (s : _root_.Go.ChangeSpec) : _root_.Go.OpenSpec := { _root_.Go.OpenSpec.ofChange s with cond := some uptoSmall }

/-- 'laws.FnMayAlias', WHERE WHAT IT READS IS OF BULK AT MOST 1048576: true; the input reads as it did. -/
def fnMayAliasUptoRow : OpenClaim := { program := "yteaddodjijlpjaa", sum := "fa2a9fd6b4ce6c7e738fc820c559743e1d0c5614eb6a773c9d757fa009953b14", func := "loop.example/borrowcheck/laws.FnMayAlias", spec := "fnMayAlias", unfollowed := true, recurses := true, apart := false, narrowed := true }
def FnMayAliasUptoSaid : Prop := fnMayAliasUptoRow.holds Try.pinned (OpenSpec.upto fnMayAliasSpec)

/-- 'laws.FnCellMakers', WHERE WHAT IT READS IS OF BULK AT MOST 1048576: true; the input reads as it did. -/
def fnCellMakersUptoRow : OpenClaim := { program := "yteaddodjijlpjaa", sum := "fa2a9fd6b4ce6c7e738fc820c559743e1d0c5614eb6a773c9d757fa009953b14", func := "loop.example/borrowcheck/laws.FnCellMakers", spec := "fnCellMakers", unfollowed := true, recurses := true, apart := false, narrowed := true }
def FnCellMakersUptoSaid : Prop := fnCellMakersUptoRow.holds Try.pinned (OpenSpec.upto fnCellMakersSpec)

/-- 'laws.FnCellsSet', WHERE WHAT IT READS IS OF BULK AT MOST 1048576: true; the input reads as it did. -/
def fnCellsSetUptoRow : OpenClaim := { program := "yteaddodjijlpjaa", sum := "fa2a9fd6b4ce6c7e738fc820c559743e1d0c5614eb6a773c9d757fa009953b14", func := "loop.example/borrowcheck/laws.FnCellsSet", spec := "fnCellsSet", unfollowed := true, recurses := true, apart := false, narrowed := true }
def FnCellsSetUptoSaid : Prop := fnCellsSetUptoRow.holds Try.pinned (OpenSpec.upto fnCellsSetSpec)

/-- 'laws.FnNumbersSet', WHERE WHAT IT READS IS OF BULK AT MOST 1048576: true; the input reads as it did. -/
def fnNumbersSetUptoRow : OpenClaim := { program := "yteaddodjijlpjaa", sum := "fa2a9fd6b4ce6c7e738fc820c559743e1d0c5614eb6a773c9d757fa009953b14", func := "loop.example/borrowcheck/laws.FnNumbersSet", spec := "fnNumbersSet", unfollowed := true, recurses := true, apart := false, narrowed := true }
def FnNumbersSetUptoSaid : Prop := fnNumbersSetUptoRow.holds Try.pinned (OpenSpec.upto fnNumbersSetSpec)

/-- 'laws.FnSetterOwn', WHERE WHAT IT READS IS OF BULK AT MOST 1048576: true; the input reads as it did. -/
def fnSetterOwnUptoRow : OpenClaim := { program := "yteaddodjijlpjaa", sum := "fa2a9fd6b4ce6c7e738fc820c559743e1d0c5614eb6a773c9d757fa009953b14", func := "loop.example/borrowcheck/laws.FnSetterOwn", spec := "fnSetterOwn", unfollowed := true, recurses := true, apart := false, narrowed := true }
def FnSetterOwnUptoSaid : Prop := fnSetterOwnUptoRow.holds Try.pinned (OpenSpec.upto fnSetterOwnSpec)

/-- 'laws.FnAliasLoan', WHERE WHAT IT READS IS OF BULK AT MOST 1048576: true; the input reads as it did. -/
def fnAliasLoanUptoRow : OpenClaim := { program := "yteaddodjijlpjaa", sum := "fa2a9fd6b4ce6c7e738fc820c559743e1d0c5614eb6a773c9d757fa009953b14", func := "loop.example/borrowcheck/laws.FnAliasLoan", spec := "fnAliasLoan", unfollowed := true, recurses := true, apart := false, narrowed := true }
def FnAliasLoanUptoSaid : Prop := fnAliasLoanUptoRow.holds Try.pinned (OpenSpec.upto fnAliasLoanSpec)

/-- 'laws.FnUsersOf', WHERE WHAT IT READS IS OF BULK AT MOST 1048576: true; the input reads as it did. -/
def fnUsersOfUptoRow : OpenClaim := { program := "yteaddodjijlpjaa", sum := "fa2a9fd6b4ce6c7e738fc820c559743e1d0c5614eb6a773c9d757fa009953b14", func := "loop.example/borrowcheck/laws.FnUsersOf", spec := "fnUsersOf", unfollowed := true, recurses := true, apart := false, narrowed := true }
def FnUsersOfUptoSaid : Prop := fnUsersOfUptoRow.holds Try.pinned (OpenSpec.upto fnUsersOfSpec)

/-- 'laws.FnSettersOf', WHERE WHAT IT READS IS OF BULK AT MOST 1048576: true; the input reads as it did. -/
def fnSettersOfUptoRow : OpenClaim := { program := "yteaddodjijlpjaa", sum := "fa2a9fd6b4ce6c7e738fc820c559743e1d0c5614eb6a773c9d757fa009953b14", func := "loop.example/borrowcheck/laws.FnSettersOf", spec := "fnSettersOf", unfollowed := true, recurses := true, apart := false, narrowed := true }
def FnSettersOfUptoSaid : Prop := fnSettersOfUptoRow.holds Try.pinned (OpenSpec.upto fnSettersOfSpec)

/-- 'laws.FnCellsOf', WHERE WHAT IT READS IS OF BULK AT MOST 1048576: true; the input reads as it did. -/
def fnCellsOfUptoRow : OpenClaim := { program := "yteaddodjijlpjaa", sum := "fa2a9fd6b4ce6c7e738fc820c559743e1d0c5614eb6a773c9d757fa009953b14", func := "loop.example/borrowcheck/laws.FnCellsOf", spec := "fnCellsOf", unfollowed := true, recurses := true, apart := false, narrowed := true }
def FnCellsOfUptoSaid : Prop := fnCellsOfUptoRow.holds Try.pinned (OpenSpec.upto fnCellsOfSpec)

/-- 'laws.FnLiveAfter', WHERE WHAT IT READS IS OF BULK AT MOST 1048576: true; the input reads as it did. -/
def fnLiveAfterUptoRow : OpenClaim := { program := "yteaddodjijlpjaa", sum := "fa2a9fd6b4ce6c7e738fc820c559743e1d0c5614eb6a773c9d757fa009953b14", func := "loop.example/borrowcheck/laws.FnLiveAfter", spec := "fnLiveAfter", unfollowed := true, recurses := true, apart := false, narrowed := true }
def FnLiveAfterUptoSaid : Prop := fnLiveAfterUptoRow.holds Try.pinned (OpenSpec.upto fnLiveAfterSpec)

/-- 'laws.FnAlwaysSet', WHERE WHAT IT READS IS OF BULK AT MOST 1048576: true; the input reads as it did. -/
def fnAlwaysSetUptoRow : OpenClaim := { program := "yteaddodjijlpjaa", sum := "fa2a9fd6b4ce6c7e738fc820c559743e1d0c5614eb6a773c9d757fa009953b14", func := "loop.example/borrowcheck/laws.FnAlwaysSet", spec := "fnAlwaysSet", unfollowed := true, recurses := true, apart := false, narrowed := true }
def FnAlwaysSetUptoSaid : Prop := fnAlwaysSetUptoRow.holds Try.pinned (OpenSpec.upto fnAlwaysSetSpec)

/-- 'laws.FnAccessesOf', WHERE WHAT IT READS IS OF BULK AT MOST 1048576: true; the input reads as it did. -/
def fnAccessesOfUptoRow : OpenClaim := { program := "yteaddodjijlpjaa", sum := "fa2a9fd6b4ce6c7e738fc820c559743e1d0c5614eb6a773c9d757fa009953b14", func := "loop.example/borrowcheck/laws.FnAccessesOf", spec := "fnAccessesOf", unfollowed := true, recurses := true, apart := false, narrowed := true }
def FnAccessesOfUptoSaid : Prop := fnAccessesOfUptoRow.holds Try.pinned (OpenSpec.upto fnAccessesOfSpec)

end Rows
end Go.Proofs.Yteaddodjijlpjaa
