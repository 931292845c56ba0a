/-
  DERIVED. GIVEN WITH THE SEED: THE CARDS: each row of YtdlblbhmeidhbaaGreatDoorRows.lean that lists a variable, with what it lists TIED to the program's text (the seventh form; the later family's looks); each row that meets fmt, with fmt's text TOLD by the authors' own Lean function (tested against real Go, not proved from fmt's source: count such statements apart). THE CARD IS WHAT COUNTS. Prove the row's statement (the work); the ties are given (YtdlblbhmeidhbaaGreatDoorTie.lean); close each card by the builder's one call (the guide's Derived/Test/ToyasCard.lean, 'card_holds'). Laid BY PROGRAM, IN A SANDBOX (cutbox-door.mjs). By AI agents, Wed Nov 11 2026. No macro, syntax, notation, axiom, sorry.
-/
import Derived.Test.YtdlblbhmeidhbaaGreatDoorRows
import GoSem.ClaimSeven
namespace Go.Proofs.YtdlblbhmeidhbaaGreatDoor
namespace Rows

/-- THE TIED CARD OF 'waterlinelaw21.WalkLong'. -/
def walkLongCard : Claim7 := { stood := { row := walkLongRow, standIns := [], harness := (true, "1d767eda831c63345a2717b108077ab24ba928c4e702921ee2d70301459c0708"), looks := true }, kinds := [], alts := [], laidByText := true, laidKinds := [.data, .pinned], laidTests := true, laidLooks := .later }
def WalkLongCardSaid : Prop := Claim7.holds Tryz.pinned (.plain (OpenSpec.ofChange walkLongSpec)) walkLongCard

/-- THE TIED CARD OF 'waterlinelaw21.WalkRuns'. -/
def walkRunsCard : Claim7 := { stood := { row := walkRunsRow, standIns := [], harness := (true, "1d767eda831c63345a2717b108077ab24ba928c4e702921ee2d70301459c0708"), looks := true }, kinds := [], alts := [], laidByText := true, laidKinds := [.data, .pinned], laidTests := true, laidLooks := .later }
def WalkRunsCardSaid : Prop := Claim7.holds Tryz.pinned (.plain (OpenSpec.ofChange walkRunsSpec)) walkRunsCard

/-- THE TIED CARD OF 'waterlinelaw21.WalkBegins'. -/
def walkBeginsCard : Claim7 := { stood := { row := walkBeginsRow, standIns := [], harness := (true, "1d767eda831c63345a2717b108077ab24ba928c4e702921ee2d70301459c0708"), looks := true }, kinds := [], alts := [], laidByText := true, laidKinds := [.data, .pinned], laidTests := true, laidLooks := .later }
def WalkBeginsCardSaid : Prop := Claim7.holds Tryz.pinned (.plain (OpenSpec.ofChange walkBeginsSpec)) walkBeginsCard

/-- THE SECOND FORM's CARD OF 'waterlinelaw21.WalkLong'. -/
def walkLongUptoCard : Claim7 := { stood := { row := walkLongUptoRow, standIns := [], harness := (true, "1d767eda831c63345a2717b108077ab24ba928c4e702921ee2d70301459c0708"), looks := true }, kinds := [], alts := [], laidByText := true, laidKinds := [.data, .pinned], laidTests := true, laidLooks := .later }
def WalkLongUptoCardSaid : Prop := Claim7.holds Tryz.pinned (.plain (OpenSpec.upto walkLongSpec)) walkLongUptoCard

/-- THE SECOND FORM's CARD OF 'waterlinelaw21.WalkRuns'. -/
def walkRunsUptoCard : Claim7 := { stood := { row := walkRunsUptoRow, standIns := [], harness := (true, "1d767eda831c63345a2717b108077ab24ba928c4e702921ee2d70301459c0708"), looks := true }, kinds := [], alts := [], laidByText := true, laidKinds := [.data, .pinned], laidTests := true, laidLooks := .later }
def WalkRunsUptoCardSaid : Prop := Claim7.holds Tryz.pinned (.plain (OpenSpec.upto walkRunsSpec)) walkRunsUptoCard

/-- THE SECOND FORM's CARD OF 'waterlinelaw21.WalkBegins'. -/
def walkBeginsUptoCard : Claim7 := { stood := { row := walkBeginsUptoRow, standIns := [], harness := (true, "1d767eda831c63345a2717b108077ab24ba928c4e702921ee2d70301459c0708"), looks := true }, kinds := [], alts := [], laidByText := true, laidKinds := [.data, .pinned], laidTests := true, laidLooks := .later }
def WalkBeginsUptoCardSaid : Prop := Claim7.holds Tryz.pinned (.plain (OpenSpec.upto walkBeginsSpec)) walkBeginsUptoCard
end Rows
end Go.Proofs.YtdlblbhmeidhbaaGreatDoor
