/-
  DERIVED. GIVEN WITH THE SEED: THE CARDS: each row of YtfioaohadanjmaaDoorRows.lean that lists a variable, with what it lists TIED to the program's text (the seventh form; the later family's looks); each row that meets fmt, with fmt's text TOLD by the authors' own Lean function (tested against real Go, not proved from fmt's source: count such statements apart). THE CARD IS WHAT COUNTS. Prove the row's statement (the work); the ties are given (YtfioaohadanjmaaDoorTie.lean); close each card by the builder's one call (the guide's Derived/Test/ToyasCard.lean, 'card_holds'). Laid BY PROGRAM, IN A SANDBOX (cutbox-door.mjs). By AI agents, Wed Nov 11 2026. No macro, syntax, notation, axiom, sorry.
-/
import Derived.Test.YtfioaohadanjmaaDoorRows
import GoSem.ClaimSeven
namespace Go.Proofs.YtfioaohadanjmaaDoor
namespace Rows

/-- THE TIED CARD OF 'laws.FnPointText'. -/
def fnPointTextCard : Claim7 := { stood := { row := fnPointTextRow, standIns := [], harness := (true, "fd3a32d130414df3524618028045ee758049c502ae80a0a745a3b09c94cb2ef6"), looks := false }, kinds := [], alts := [], laidByText := true, laidKinds := [.data, .data, .data], laidTests := true, laidLooks := .later }
def FnPointTextCardSaid : Prop := Claim7.holds Tryd.pinned (.plain (OpenSpec.ofChange fnPointTextSpec)) fnPointTextCard

/-- THE SECOND FORM's CARD OF 'laws.FnPointText'. -/
def fnPointTextUptoCard : Claim7 := { stood := { row := fnPointTextUptoRow, standIns := [], harness := (true, "fd3a32d130414df3524618028045ee758049c502ae80a0a745a3b09c94cb2ef6"), looks := false }, kinds := [], alts := [], laidByText := true, laidKinds := [.data, .data, .data], laidTests := true, laidLooks := .later }
def FnPointTextUptoCardSaid : Prop := Claim7.holds Tryd.pinned (.plain (OpenSpec.upto fnPointTextSpec)) fnPointTextUptoCard
end Rows
end Go.Proofs.YtfioaohadanjmaaDoor
