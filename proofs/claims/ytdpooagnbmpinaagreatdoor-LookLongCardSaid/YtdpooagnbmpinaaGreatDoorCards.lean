/-
  DERIVED. GIVEN WITH THE SEED: THE CARDS: each row of YtdpooagnbmpinaaGreatDoorRows.lean that lists a variable, with what it lists TIED to the program's text (the seventh form; the later family's looks); each row that meets fmt, with fmt's text TOLD by the authors' own Lean function (tested against real Go, not proved from fmt's source: count such statements apart). THE CARD IS WHAT COUNTS. Prove the row's statement (the work); the ties are given (YtdpooagnbmpinaaGreatDoorTie.lean); close each card by the builder's one call (the guide's Derived/Test/ToyasCard.lean, 'card_holds'). Laid BY PROGRAM, IN A SANDBOX (cutbox-door.mjs). By AI agents, Wed Nov 11 2026. No macro, syntax, notation, axiom, sorry.
-/
import Derived.Test.YtdpooagnbmpinaaGreatDoorRows
import GoSem.ClaimSeven
namespace Go.Proofs.YtdpooagnbmpinaaGreatDoor
namespace Rows

/-- THE TIED CARD OF 'waterlinelaw22.LookLong'. -/
def lookLongCard : Claim7 := { stood := { row := lookLongRow, standIns := [], harness := (true, "62ebae410489cad30c5930fd19d1265aac909cb8ae49d690f4ae670f717eaa1a"), looks := true }, kinds := [], alts := [], laidByText := true, laidKinds := [.data, .pinned], laidTests := true, laidLooks := .later }
def LookLongCardSaid : Prop := Claim7.holds Tryz.pinned (.plain (OpenSpec.ofChange lookLongSpec)) lookLongCard

/-- THE TIED CARD OF 'waterlinelaw22.LookHolds'. -/
def lookHoldsCard : Claim7 := { stood := { row := lookHoldsRow, standIns := [], harness := (true, "62ebae410489cad30c5930fd19d1265aac909cb8ae49d690f4ae670f717eaa1a"), looks := true }, kinds := [], alts := [], laidByText := true, laidKinds := [.data, .pinned], laidTests := true, laidLooks := .later }
def LookHoldsCardSaid : Prop := Claim7.holds Tryz.pinned (.plain (OpenSpec.ofChange lookHoldsSpec)) lookHoldsCard

/-- THE TIED CARD OF 'waterlinelaw22.LookBegins'. -/
def lookBeginsCard : Claim7 := { stood := { row := lookBeginsRow, standIns := [], harness := (true, "62ebae410489cad30c5930fd19d1265aac909cb8ae49d690f4ae670f717eaa1a"), looks := true }, kinds := [], alts := [], laidByText := true, laidKinds := [.data, .pinned], laidTests := true, laidLooks := .later }
def LookBeginsCardSaid : Prop := Claim7.holds Tryz.pinned (.plain (OpenSpec.ofChange lookBeginsSpec)) lookBeginsCard

/-- THE TIED CARD OF 'waterlinelaw22.LookRuns'. -/
def lookRunsCard : Claim7 := { stood := { row := lookRunsRow, standIns := [], harness := (true, "62ebae410489cad30c5930fd19d1265aac909cb8ae49d690f4ae670f717eaa1a"), looks := true }, kinds := [], alts := [], laidByText := true, laidKinds := [.data, .pinned], laidTests := true, laidLooks := .later }
def LookRunsCardSaid : Prop := Claim7.holds Tryz.pinned (.plain (OpenSpec.ofChange lookRunsSpec)) lookRunsCard

/-- THE SECOND FORM's CARD OF 'waterlinelaw22.LookLong'. -/
def lookLongUptoCard : Claim7 := { stood := { row := lookLongUptoRow, standIns := [], harness := (true, "62ebae410489cad30c5930fd19d1265aac909cb8ae49d690f4ae670f717eaa1a"), looks := true }, kinds := [], alts := [], laidByText := true, laidKinds := [.data, .pinned], laidTests := true, laidLooks := .later }
def LookLongUptoCardSaid : Prop := Claim7.holds Tryz.pinned (.plain (OpenSpec.upto lookLongSpec)) lookLongUptoCard

/-- THE SECOND FORM's CARD OF 'waterlinelaw22.LookHolds'. -/
def lookHoldsUptoCard : Claim7 := { stood := { row := lookHoldsUptoRow, standIns := [], harness := (true, "62ebae410489cad30c5930fd19d1265aac909cb8ae49d690f4ae670f717eaa1a"), looks := true }, kinds := [], alts := [], laidByText := true, laidKinds := [.data, .pinned], laidTests := true, laidLooks := .later }
def LookHoldsUptoCardSaid : Prop := Claim7.holds Tryz.pinned (.plain (OpenSpec.upto lookHoldsSpec)) lookHoldsUptoCard

/-- THE SECOND FORM's CARD OF 'waterlinelaw22.LookBegins'. -/
def lookBeginsUptoCard : Claim7 := { stood := { row := lookBeginsUptoRow, standIns := [], harness := (true, "62ebae410489cad30c5930fd19d1265aac909cb8ae49d690f4ae670f717eaa1a"), looks := true }, kinds := [], alts := [], laidByText := true, laidKinds := [.data, .pinned], laidTests := true, laidLooks := .later }
def LookBeginsUptoCardSaid : Prop := Claim7.holds Tryz.pinned (.plain (OpenSpec.upto lookBeginsSpec)) lookBeginsUptoCard

/-- THE SECOND FORM's CARD OF 'waterlinelaw22.LookRuns'. -/
def lookRunsUptoCard : Claim7 := { stood := { row := lookRunsUptoRow, standIns := [], harness := (true, "62ebae410489cad30c5930fd19d1265aac909cb8ae49d690f4ae670f717eaa1a"), looks := true }, kinds := [], alts := [], laidByText := true, laidKinds := [.data, .pinned], laidTests := true, laidLooks := .later }
def LookRunsUptoCardSaid : Prop := Claim7.holds Tryz.pinned (.plain (OpenSpec.upto lookRunsSpec)) lookRunsUptoCard
end Rows
end Go.Proofs.YtdpooagnbmpinaaGreatDoor
