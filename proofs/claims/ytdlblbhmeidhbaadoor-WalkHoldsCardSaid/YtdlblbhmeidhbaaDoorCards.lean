/-
  DERIVED. GIVEN WITH THE SEED: THE CARDS: each row of YtdlblbhmeidhbaaDoorRows.lean that lists a variable, with what it lists TIED to the program's text (the seventh form; the later family's looks); each row that meets fmt, with fmt's text TOLD by the authors' own Lean function (tested against real Go, not proved from fmt's source: count such statements apart). THE CARD IS WHAT COUNTS. Prove the row's statement (the work); the ties are given (YtdlblbhmeidhbaaDoorTie.lean); close each card by the builder's one call (the guide's Derived/Test/ToyasCard.lean, 'card_holds'). Laid BY PROGRAM, IN A SANDBOX (cutbox-door.mjs). By AI agents, Wed Nov 11 2026. No macro, syntax, notation, axiom, sorry.
-/
import Derived.Test.YtdlblbhmeidhbaaDoorRows
import GoSem.ClaimSeven
namespace Go.Proofs.YtdlblbhmeidhbaaDoor
namespace Rows

/-- THE TIED CARD OF 'waterlinelaw21.WalkHolds'. -/
def walkHoldsCard : Claim7 := { stood := { row := walkHoldsRow, standIns := [], harness := (true, "c0bb0ccfa8750d70f5b0a8b2f4897ac157c198ceb4ac7ee9094a8ea16cf6a3d9"), looks := true }, kinds := [], alts := [], laidByText := true, laidKinds := [.data, .pinned], laidTests := true, laidLooks := .later }
def WalkHoldsCardSaid : Prop := Claim7.holds Tryd.pinned (.plain (OpenSpec.ofChange walkHoldsSpec)) walkHoldsCard

/-- THE SECOND FORM's CARD OF 'waterlinelaw21.WalkHolds'. -/
def walkHoldsUptoCard : Claim7 := { stood := { row := walkHoldsUptoRow, standIns := [], harness := (true, "c0bb0ccfa8750d70f5b0a8b2f4897ac157c198ceb4ac7ee9094a8ea16cf6a3d9"), looks := true }, kinds := [], alts := [], laidByText := true, laidKinds := [.data, .pinned], laidTests := true, laidLooks := .later }
def WalkHoldsUptoCardSaid : Prop := Claim7.holds Tryd.pinned (.plain (OpenSpec.upto walkHoldsSpec)) walkHoldsUptoCard
end Rows
end Go.Proofs.YtdlblbhmeidhbaaDoor
