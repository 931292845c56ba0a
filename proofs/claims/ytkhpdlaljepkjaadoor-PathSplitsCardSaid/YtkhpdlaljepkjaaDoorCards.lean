/-
  DERIVED. GIVEN WITH THE SEED: THE CARDS: each row of YtkhpdlaljepkjaaDoorRows.lean that lists a variable, with what it lists TIED to the program's text (the seventh form; the later family's looks); each row that meets fmt, with fmt's text TOLD by the authors' own Lean function (tested against real Go, not proved from fmt's source: count such statements apart). THE CARD IS WHAT COUNTS. Prove the row's statement (the work); the ties are given (YtkhpdlaljepkjaaDoorTie.lean); close each card by the builder's one call (the guide's Derived/Test/ToyasCard.lean, 'card_holds'). Laid BY PROGRAM, IN A SANDBOX (cutbox-door.mjs). By AI agents, Wed Nov 11 2026. No macro, syntax, notation, axiom, sorry.
-/
import Derived.Test.YtkhpdlaljepkjaaDoorRows
import GoSem.ClaimSeven
namespace Go.Proofs.YtkhpdlaljepkjaaDoor
namespace Rows

/-- THE TIED CARD OF 'waterlinelaw07.PathSplits'. -/
def pathSplitsCard : Claim7 := { stood := { row := pathSplitsRow, standIns := [], harness := (true, "5b126b2f92a655f202c728a046d2f843dd8c2f88d0448c3afea6d3837c3ce1fa"), looks := false }, kinds := [], alts := [], laidByText := true, laidKinds := [.data, .pinned], laidTests := true, laidLooks := .later }
def PathSplitsCardSaid : Prop := Claim7.holds Tryd.pinned (.plain (OpenSpec.ofChange pathSplitsSpec)) pathSplitsCard

/-- THE TIED CARD OF 'waterlinelaw07.PathWithin'. -/
def pathWithinCard : Claim7 := { stood := { row := pathWithinRow, standIns := [], harness := (true, "5b126b2f92a655f202c728a046d2f843dd8c2f88d0448c3afea6d3837c3ce1fa"), looks := false }, kinds := [], alts := [], laidByText := true, laidKinds := [.data, .pinned], laidTests := true, laidLooks := .later }
def PathWithinCardSaid : Prop := Claim7.holds Tryd.pinned (.plain (OpenSpec.ofChange pathWithinSpec)) pathWithinCard

/-- THE TIED CARD OF 'waterlinelaw07.PathParents'. -/
def pathParentsCard : Claim7 := { stood := { row := pathParentsRow, standIns := [], harness := (true, "5b126b2f92a655f202c728a046d2f843dd8c2f88d0448c3afea6d3837c3ce1fa"), looks := false }, kinds := [], alts := [], laidByText := true, laidKinds := [.data, .pinned], laidTests := true, laidLooks := .later }
def PathParentsCardSaid : Prop := Claim7.holds Tryd.pinned (.plain (OpenSpec.ofChange pathParentsSpec)) pathParentsCard

/-- THE TIED CARD OF 'waterlinelaw07.PathCounts'. -/
def pathCountsCard : Claim7 := { stood := { row := pathCountsRow, standIns := [], harness := (true, "5b126b2f92a655f202c728a046d2f843dd8c2f88d0448c3afea6d3837c3ce1fa"), looks := false }, kinds := [], alts := [], laidByText := true, laidKinds := [.data, .pinned], laidTests := true, laidLooks := .later }
def PathCountsCardSaid : Prop := Claim7.holds Tryd.pinned (.plain (OpenSpec.ofChange pathCountsSpec)) pathCountsCard

/-- THE TIED CARD OF 'waterlinelaw07.PathJoins'. -/
def pathJoinsCard : Claim7 := { stood := { row := pathJoinsRow, standIns := [], harness := (true, "5b126b2f92a655f202c728a046d2f843dd8c2f88d0448c3afea6d3837c3ce1fa"), looks := false }, kinds := [], alts := [], laidByText := true, laidKinds := [.data, .pinned], laidTests := true, laidLooks := .later }
def PathJoinsCardSaid : Prop := Claim7.holds Tryd.pinned (.plain (OpenSpec.ofChange pathJoinsSpec)) pathJoinsCard

/-- THE TIED CARD OF 'waterlinelaw07.PathHolds'. -/
def pathHoldsCard : Claim7 := { stood := { row := pathHoldsRow, standIns := [], harness := (true, "5b126b2f92a655f202c728a046d2f843dd8c2f88d0448c3afea6d3837c3ce1fa"), looks := false }, kinds := [], alts := [], laidByText := true, laidKinds := [.data, .pinned], laidTests := true, laidLooks := .later }
def PathHoldsCardSaid : Prop := Claim7.holds Tryd.pinned (.plain (OpenSpec.ofChange pathHoldsSpec)) pathHoldsCard

/-- THE SECOND FORM's CARD OF 'waterlinelaw07.PathSplits'. -/
def pathSplitsUptoCard : Claim7 := { stood := { row := pathSplitsUptoRow, standIns := [], harness := (true, "5b126b2f92a655f202c728a046d2f843dd8c2f88d0448c3afea6d3837c3ce1fa"), looks := false }, kinds := [], alts := [], laidByText := true, laidKinds := [.data, .pinned], laidTests := true, laidLooks := .later }
def PathSplitsUptoCardSaid : Prop := Claim7.holds Tryd.pinned (.plain (OpenSpec.upto pathSplitsSpec)) pathSplitsUptoCard

/-- THE SECOND FORM's CARD OF 'waterlinelaw07.PathWithin'. -/
def pathWithinUptoCard : Claim7 := { stood := { row := pathWithinUptoRow, standIns := [], harness := (true, "5b126b2f92a655f202c728a046d2f843dd8c2f88d0448c3afea6d3837c3ce1fa"), looks := false }, kinds := [], alts := [], laidByText := true, laidKinds := [.data, .pinned], laidTests := true, laidLooks := .later }
def PathWithinUptoCardSaid : Prop := Claim7.holds Tryd.pinned (.plain (OpenSpec.upto pathWithinSpec)) pathWithinUptoCard

/-- THE SECOND FORM's CARD OF 'waterlinelaw07.PathParents'. -/
def pathParentsUptoCard : Claim7 := { stood := { row := pathParentsUptoRow, standIns := [], harness := (true, "5b126b2f92a655f202c728a046d2f843dd8c2f88d0448c3afea6d3837c3ce1fa"), looks := false }, kinds := [], alts := [], laidByText := true, laidKinds := [.data, .pinned], laidTests := true, laidLooks := .later }
def PathParentsUptoCardSaid : Prop := Claim7.holds Tryd.pinned (.plain (OpenSpec.upto pathParentsSpec)) pathParentsUptoCard

/-- THE SECOND FORM's CARD OF 'waterlinelaw07.PathCounts'. -/
def pathCountsUptoCard : Claim7 := { stood := { row := pathCountsUptoRow, standIns := [], harness := (true, "5b126b2f92a655f202c728a046d2f843dd8c2f88d0448c3afea6d3837c3ce1fa"), looks := false }, kinds := [], alts := [], laidByText := true, laidKinds := [.data, .pinned], laidTests := true, laidLooks := .later }
def PathCountsUptoCardSaid : Prop := Claim7.holds Tryd.pinned (.plain (OpenSpec.upto pathCountsSpec)) pathCountsUptoCard

/-- THE SECOND FORM's CARD OF 'waterlinelaw07.PathJoins'. -/
def pathJoinsUptoCard : Claim7 := { stood := { row := pathJoinsUptoRow, standIns := [], harness := (true, "5b126b2f92a655f202c728a046d2f843dd8c2f88d0448c3afea6d3837c3ce1fa"), looks := false }, kinds := [], alts := [], laidByText := true, laidKinds := [.data, .pinned], laidTests := true, laidLooks := .later }
def PathJoinsUptoCardSaid : Prop := Claim7.holds Tryd.pinned (.plain (OpenSpec.upto pathJoinsSpec)) pathJoinsUptoCard

/-- THE SECOND FORM's CARD OF 'waterlinelaw07.PathHolds'. -/
def pathHoldsUptoCard : Claim7 := { stood := { row := pathHoldsUptoRow, standIns := [], harness := (true, "5b126b2f92a655f202c728a046d2f843dd8c2f88d0448c3afea6d3837c3ce1fa"), looks := false }, kinds := [], alts := [], laidByText := true, laidKinds := [.data, .pinned], laidTests := true, laidLooks := .later }
def PathHoldsUptoCardSaid : Prop := Claim7.holds Tryd.pinned (.plain (OpenSpec.upto pathHoldsSpec)) pathHoldsUptoCard
end Rows
end Go.Proofs.YtkhpdlaljepkjaaDoor
