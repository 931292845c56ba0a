/-
  DERIVED. GIVEN WITH THE SEED: THE CARDS: each row of YtibpagmpdgflmaaGreatDoorRows.lean that lists a variable, with what it lists TIED to the program's text (the seventh form; the later family's looks); each row that meets fmt, with fmt's text TOLD by the authors' own Lean function (tested against real Go, not proved from fmt's source: count such statements apart). THE CARD IS WHAT COUNTS. Prove the row's statement (the work); the ties are given (YtibpagmpdgflmaaGreatDoorTie.lean); close each card by the builder's one call (the guide's Derived/Test/ToyasCard.lean, 'card_holds'). Laid BY PROGRAM, IN A SANDBOX (cutbox-door.mjs). By AI agents, Wed Nov 11 2026. No macro, syntax, notation, axiom, sorry.
-/
import Derived.Test.YtibpagmpdgflmaaGreatDoorRows
import GoSem.ClaimSeven
namespace Go.Proofs.YtibpagmpdgflmaaGreatDoor
namespace Rows

/-- THE TIED CARD OF 'waterlinelaw11.ModelEquals'. -/
def modelEqualsCard : Claim7 := { stood := { row := modelEqualsRow, standIns := [], harness := (true, "8d701f485b2ea332f148a85d1ce063bb378af66af19344e1bebca3f68deee00a"), looks := true }, kinds := [], alts := [], laidByText := true, laidKinds := [.data, .pinned], laidTests := true, laidLooks := .later }
def ModelEqualsCardSaid : Prop := Claim7.holds Tryz.pinned (.plain (OpenSpec.ofChange modelEqualsSpec)) modelEqualsCard

/-- THE TIED CARD OF 'waterlinelaw11.ModelChecks'. -/
def modelChecksCard : Claim7 := { stood := { row := modelChecksRow, standIns := [], harness := (true, "8d701f485b2ea332f148a85d1ce063bb378af66af19344e1bebca3f68deee00a"), looks := true }, kinds := [], alts := [], laidByText := true, laidKinds := [.data, .pinned], laidTests := true, laidLooks := .later }
def ModelChecksCardSaid : Prop := Claim7.holds Tryz.pinned (.plain (OpenSpec.ofChange modelChecksSpec)) modelChecksCard

/-- THE TIED CARD OF 'waterlinelaw11.ModelQuiet'. -/
def modelQuietCard : Claim7 := { stood := { row := modelQuietRow, standIns := [], harness := (true, "8d701f485b2ea332f148a85d1ce063bb378af66af19344e1bebca3f68deee00a"), looks := true }, kinds := [], alts := [], laidByText := true, laidKinds := [.data, .pinned], laidTests := true, laidLooks := .later }
def ModelQuietCardSaid : Prop := Claim7.holds Tryz.pinned (.plain (OpenSpec.ofChange modelQuietSpec)) modelQuietCard

/-- THE TIED CARD OF 'waterlinelaw11.ModelSplits'. -/
def modelSplitsCard : Claim7 := { stood := { row := modelSplitsRow, standIns := [], harness := (true, "8d701f485b2ea332f148a85d1ce063bb378af66af19344e1bebca3f68deee00a"), looks := true }, kinds := [], alts := [], laidByText := true, laidKinds := [.data, .pinned], laidTests := true, laidLooks := .later }
def ModelSplitsCardSaid : Prop := Claim7.holds Tryz.pinned (.plain (OpenSpec.ofChange modelSplitsSpec)) modelSplitsCard

/-- THE TIED CARD OF 'waterlinelaw11.ModelHolds'. -/
def modelHoldsCard : Claim7 := { stood := { row := modelHoldsRow, standIns := [], harness := (true, "8d701f485b2ea332f148a85d1ce063bb378af66af19344e1bebca3f68deee00a"), looks := true }, kinds := [], alts := [], laidByText := true, laidKinds := [.data, .pinned], laidTests := true, laidLooks := .later }
def ModelHoldsCardSaid : Prop := Claim7.holds Tryz.pinned (.plain (OpenSpec.ofChange modelHoldsSpec)) modelHoldsCard

/-- THE TIED CARD OF 'waterlinelaw11.ModelCopies'. -/
def modelCopiesCard : Claim7 := { stood := { row := modelCopiesRow, standIns := [], harness := (true, "8d701f485b2ea332f148a85d1ce063bb378af66af19344e1bebca3f68deee00a"), looks := true }, kinds := [], alts := [], laidByText := true, laidKinds := [.data, .pinned], laidTests := true, laidLooks := .later }
def ModelCopiesCardSaid : Prop := Claim7.holds Tryz.pinned (.plain (OpenSpec.ofChange modelCopiesSpec)) modelCopiesCard

/-- THE TIED CARD OF 'waterlinelaw11.ModelPlays'. -/
def modelPlaysCard : Claim7 := { stood := { row := modelPlaysRow, standIns := [], harness := (true, "8d701f485b2ea332f148a85d1ce063bb378af66af19344e1bebca3f68deee00a"), looks := true }, kinds := [], alts := [], laidByText := true, laidKinds := [.data, .pinned], laidTests := true, laidLooks := .later }
def ModelPlaysCardSaid : Prop := Claim7.holds Tryz.pinned (.plain (OpenSpec.ofChange modelPlaysSpec)) modelPlaysCard

/-- THE SECOND FORM's CARD OF 'waterlinelaw11.ModelEquals'. -/
def modelEqualsUptoCard : Claim7 := { stood := { row := modelEqualsUptoRow, standIns := [], harness := (true, "8d701f485b2ea332f148a85d1ce063bb378af66af19344e1bebca3f68deee00a"), looks := true }, kinds := [], alts := [], laidByText := true, laidKinds := [.data, .pinned], laidTests := true, laidLooks := .later }
def ModelEqualsUptoCardSaid : Prop := Claim7.holds Tryz.pinned (.plain (OpenSpec.upto modelEqualsSpec)) modelEqualsUptoCard

/-- THE SECOND FORM's CARD OF 'waterlinelaw11.ModelChecks'. -/
def modelChecksUptoCard : Claim7 := { stood := { row := modelChecksUptoRow, standIns := [], harness := (true, "8d701f485b2ea332f148a85d1ce063bb378af66af19344e1bebca3f68deee00a"), looks := true }, kinds := [], alts := [], laidByText := true, laidKinds := [.data, .pinned], laidTests := true, laidLooks := .later }
def ModelChecksUptoCardSaid : Prop := Claim7.holds Tryz.pinned (.plain (OpenSpec.upto modelChecksSpec)) modelChecksUptoCard

/-- THE SECOND FORM's CARD OF 'waterlinelaw11.ModelQuiet'. -/
def modelQuietUptoCard : Claim7 := { stood := { row := modelQuietUptoRow, standIns := [], harness := (true, "8d701f485b2ea332f148a85d1ce063bb378af66af19344e1bebca3f68deee00a"), looks := true }, kinds := [], alts := [], laidByText := true, laidKinds := [.data, .pinned], laidTests := true, laidLooks := .later }
def ModelQuietUptoCardSaid : Prop := Claim7.holds Tryz.pinned (.plain (OpenSpec.upto modelQuietSpec)) modelQuietUptoCard

/-- THE SECOND FORM's CARD OF 'waterlinelaw11.ModelSplits'. -/
def modelSplitsUptoCard : Claim7 := { stood := { row := modelSplitsUptoRow, standIns := [], harness := (true, "8d701f485b2ea332f148a85d1ce063bb378af66af19344e1bebca3f68deee00a"), looks := true }, kinds := [], alts := [], laidByText := true, laidKinds := [.data, .pinned], laidTests := true, laidLooks := .later }
def ModelSplitsUptoCardSaid : Prop := Claim7.holds Tryz.pinned (.plain (OpenSpec.upto modelSplitsSpec)) modelSplitsUptoCard

/-- THE SECOND FORM's CARD OF 'waterlinelaw11.ModelHolds'. -/
def modelHoldsUptoCard : Claim7 := { stood := { row := modelHoldsUptoRow, standIns := [], harness := (true, "8d701f485b2ea332f148a85d1ce063bb378af66af19344e1bebca3f68deee00a"), looks := true }, kinds := [], alts := [], laidByText := true, laidKinds := [.data, .pinned], laidTests := true, laidLooks := .later }
def ModelHoldsUptoCardSaid : Prop := Claim7.holds Tryz.pinned (.plain (OpenSpec.upto modelHoldsSpec)) modelHoldsUptoCard

/-- THE SECOND FORM's CARD OF 'waterlinelaw11.ModelCopies'. -/
def modelCopiesUptoCard : Claim7 := { stood := { row := modelCopiesUptoRow, standIns := [], harness := (true, "8d701f485b2ea332f148a85d1ce063bb378af66af19344e1bebca3f68deee00a"), looks := true }, kinds := [], alts := [], laidByText := true, laidKinds := [.data, .pinned], laidTests := true, laidLooks := .later }
def ModelCopiesUptoCardSaid : Prop := Claim7.holds Tryz.pinned (.plain (OpenSpec.upto modelCopiesSpec)) modelCopiesUptoCard

/-- THE SECOND FORM's CARD OF 'waterlinelaw11.ModelPlays'. -/
def modelPlaysUptoCard : Claim7 := { stood := { row := modelPlaysUptoRow, standIns := [], harness := (true, "8d701f485b2ea332f148a85d1ce063bb378af66af19344e1bebca3f68deee00a"), looks := true }, kinds := [], alts := [], laidByText := true, laidKinds := [.data, .pinned], laidTests := true, laidLooks := .later }
def ModelPlaysUptoCardSaid : Prop := Claim7.holds Tryz.pinned (.plain (OpenSpec.upto modelPlaysSpec)) modelPlaysUptoCard
end Rows
end Go.Proofs.YtibpagmpdgflmaaGreatDoor
