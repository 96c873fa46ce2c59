/-
  DERIVED. GIVEN WITH THE SEED: THE CARDS: each row of YtfcaikahdcpglaaDoorRows.lean that lists a variable, with what it lists TIED to the program's text (the seventh form; the later family's looks); each row that meets fmt, with fmt's text TOLD by the authors' own Lean function (tested against real Go, not proved from fmt's source: count such statements apart). THE CARD IS WHAT COUNTS. Prove the row's statement (the work); the ties are given (YtfcaikahdcpglaaDoorTie.lean); close each card by the builder's one call (the guide's Derived/Test/ToyasCard.lean, 'card_holds'). Laid BY PROGRAM, IN A SANDBOX (cutbox-door.mjs). By AI agents, Wed Nov 11 2026. No macro, syntax, notation, axiom, sorry.
-/
import Derived.Test.YtfcaikahdcpglaaDoorRows
import GoSem.ClaimSeven
namespace Go.Proofs.YtfcaikahdcpglaaDoor
namespace Rows

/-- THE TIED CARD OF 'bandplanlaw13.StationFields'. -/
def stationFieldsCard : Claim7 := { stood := { row := stationFieldsRow, standIns := [], harness := (true, "14c8228c521f4db9a13714adcda36ad8a8ad9e4911ca542aaf5b3d9edee52c0d"), looks := false }, kinds := [], alts := [], laidByText := true, laidKinds := [.data], laidTests := true, laidLooks := .later }
def StationFieldsCardSaid : Prop := Claim7.holds Tryd.pinned (.plain (OpenSpec.ofChange stationFieldsSpec)) stationFieldsCard

/-- THE TIED CARD OF 'bandplanlaw13.StationStrongest'. -/
def stationStrongestCard : Claim7 := { stood := { row := stationStrongestRow, standIns := [], harness := (true, "14c8228c521f4db9a13714adcda36ad8a8ad9e4911ca542aaf5b3d9edee52c0d"), looks := false }, kinds := [], alts := [], laidByText := true, laidKinds := [.data], laidTests := true, laidLooks := .later }
def StationStrongestCardSaid : Prop := Claim7.holds Tryd.pinned (.plain (OpenSpec.ofChange stationStrongestSpec)) stationStrongestCard

/-- THE TIED CARD OF 'bandplanlaw13.StationSorts'. -/
def stationSortsCard : Claim7 := { stood := { row := stationSortsRow, standIns := [], harness := (true, "14c8228c521f4db9a13714adcda36ad8a8ad9e4911ca542aaf5b3d9edee52c0d"), looks := false }, kinds := [], alts := [], laidByText := true, laidKinds := [.data], laidTests := true, laidLooks := .later }
def StationSortsCardSaid : Prop := Claim7.holds Tryd.pinned (.plain (OpenSpec.ofChange stationSortsSpec)) stationSortsCard

/-- THE TIED CARD OF 'bandplanlaw13.StationPower'. -/
def stationPowerCard : Claim7 := { stood := { row := stationPowerRow, standIns := [], harness := (true, "14c8228c521f4db9a13714adcda36ad8a8ad9e4911ca542aaf5b3d9edee52c0d"), looks := false }, kinds := [], alts := [], laidByText := true, laidKinds := [.data], laidTests := true, laidLooks := .later }
def StationPowerCardSaid : Prop := Claim7.holds Tryd.pinned (.plain (OpenSpec.ofChange stationPowerSpec)) stationPowerCard

/-- THE TIED CARD OF 'bandplanlaw13.StationValid'. -/
def stationValidCard : Claim7 := { stood := { row := stationValidRow, standIns := [], harness := (true, "14c8228c521f4db9a13714adcda36ad8a8ad9e4911ca542aaf5b3d9edee52c0d"), looks := false }, kinds := [], alts := [], laidByText := true, laidKinds := [.data], laidTests := true, laidLooks := .later }
def StationValidCardSaid : Prop := Claim7.holds Tryd.pinned (.plain (OpenSpec.ofChange stationValidSpec)) stationValidCard

/-- THE SECOND FORM's CARD OF 'bandplanlaw13.StationFields'. -/
def stationFieldsUptoCard : Claim7 := { stood := { row := stationFieldsUptoRow, standIns := [], harness := (true, "14c8228c521f4db9a13714adcda36ad8a8ad9e4911ca542aaf5b3d9edee52c0d"), looks := false }, kinds := [], alts := [], laidByText := true, laidKinds := [.data], laidTests := true, laidLooks := .later }
def StationFieldsUptoCardSaid : Prop := Claim7.holds Tryd.pinned (.plain (OpenSpec.upto stationFieldsSpec)) stationFieldsUptoCard

/-- THE SECOND FORM's CARD OF 'bandplanlaw13.StationStrongest'. -/
def stationStrongestUptoCard : Claim7 := { stood := { row := stationStrongestUptoRow, standIns := [], harness := (true, "14c8228c521f4db9a13714adcda36ad8a8ad9e4911ca542aaf5b3d9edee52c0d"), looks := false }, kinds := [], alts := [], laidByText := true, laidKinds := [.data], laidTests := true, laidLooks := .later }
def StationStrongestUptoCardSaid : Prop := Claim7.holds Tryd.pinned (.plain (OpenSpec.upto stationStrongestSpec)) stationStrongestUptoCard

/-- THE SECOND FORM's CARD OF 'bandplanlaw13.StationSorts'. -/
def stationSortsUptoCard : Claim7 := { stood := { row := stationSortsUptoRow, standIns := [], harness := (true, "14c8228c521f4db9a13714adcda36ad8a8ad9e4911ca542aaf5b3d9edee52c0d"), looks := false }, kinds := [], alts := [], laidByText := true, laidKinds := [.data], laidTests := true, laidLooks := .later }
def StationSortsUptoCardSaid : Prop := Claim7.holds Tryd.pinned (.plain (OpenSpec.upto stationSortsSpec)) stationSortsUptoCard

/-- THE SECOND FORM's CARD OF 'bandplanlaw13.StationPower'. -/
def stationPowerUptoCard : Claim7 := { stood := { row := stationPowerUptoRow, standIns := [], harness := (true, "14c8228c521f4db9a13714adcda36ad8a8ad9e4911ca542aaf5b3d9edee52c0d"), looks := false }, kinds := [], alts := [], laidByText := true, laidKinds := [.data], laidTests := true, laidLooks := .later }
def StationPowerUptoCardSaid : Prop := Claim7.holds Tryd.pinned (.plain (OpenSpec.upto stationPowerSpec)) stationPowerUptoCard

/-- THE SECOND FORM's CARD OF 'bandplanlaw13.StationValid'. -/
def stationValidUptoCard : Claim7 := { stood := { row := stationValidUptoRow, standIns := [], harness := (true, "14c8228c521f4db9a13714adcda36ad8a8ad9e4911ca542aaf5b3d9edee52c0d"), looks := false }, kinds := [], alts := [], laidByText := true, laidKinds := [.data], laidTests := true, laidLooks := .later }
def StationValidUptoCardSaid : Prop := Claim7.holds Tryd.pinned (.plain (OpenSpec.upto stationValidSpec)) stationValidUptoCard
end Rows
end Go.Proofs.YtfcaikahdcpglaaDoor
