/-
  DERIVED. GIVEN WITH THE SEED: THE CARDS: each row of YtihepapjopcagaaGreatDoorRows.lean that lists a variable, with what it lists TIED to the program's text (the seventh form; the later family's looks); each row that meets fmt, with fmt's text TOLD by the authors' own Lean function (tested against real Go, not proved from fmt's source: count such statements apart). THE CARD IS WHAT COUNTS. Prove the row's statement (the work); the ties are given (YtihepapjopcagaaGreatDoorTie.lean); close each card by the builder's one call (the guide's Derived/Test/ToyasCard.lean, 'card_holds'). Laid BY PROGRAM, IN A SANDBOX (cutbox-door.mjs). By AI agents, Wed Nov 11 2026. No macro, syntax, notation, axiom, sorry.
-/
import Derived.Test.YtihepapjopcagaaGreatDoorRows
import GoSem.ClaimSeven
namespace Go.Proofs.YtihepapjopcagaaGreatDoor
namespace Rows

/-- THE TIED CARD OF 'bandplanlaw14.ServiceThresholds'. -/
def serviceThresholdsCard : Claim7 := { stood := { row := serviceThresholdsRow, standIns := [], harness := (true, "b784acd5634b8c0a457322674403b4d94f63b29e8aebc358ed5afcec1920e328"), looks := false }, kinds := [], alts := [], laidByText := true, laidKinds := [.data, .data, .data, .data], laidTests := true, laidLooks := .later }
def ServiceThresholdsCardSaid : Prop := Claim7.holds Tryz.pinned (.plain (OpenSpec.ofChange serviceThresholdsSpec)) serviceThresholdsCard

/-- THE TIED CARD OF 'bandplanlaw14.ServiceAreas'. -/
def serviceAreasCard : Claim7 := { stood := { row := serviceAreasRow, standIns := [], harness := (true, "b784acd5634b8c0a457322674403b4d94f63b29e8aebc358ed5afcec1920e328"), looks := false }, kinds := [], alts := [], laidByText := true, laidKinds := [.data, .data, .data, .data], laidTests := true, laidLooks := .later }
def ServiceAreasCardSaid : Prop := Claim7.holds Tryz.pinned (.plain (OpenSpec.ofChange serviceAreasSpec)) serviceAreasCard

/-- THE TIED CARD OF 'bandplanlaw14.ServiceOverlaps'. -/
def serviceOverlapsCard : Claim7 := { stood := { row := serviceOverlapsRow, standIns := [], harness := (true, "b784acd5634b8c0a457322674403b4d94f63b29e8aebc358ed5afcec1920e328"), looks := false }, kinds := [], alts := [], laidByText := true, laidKinds := [.data, .data, .data, .data], laidTests := true, laidLooks := .later }
def ServiceOverlapsCardSaid : Prop := Claim7.holds Tryz.pinned (.plain (OpenSpec.ofChange serviceOverlapsSpec)) serviceOverlapsCard

/-- THE TIED CARD OF 'bandplanlaw14.ServiceGrows'. -/
def serviceGrowsCard : Claim7 := { stood := { row := serviceGrowsRow, standIns := [], harness := (true, "b784acd5634b8c0a457322674403b4d94f63b29e8aebc358ed5afcec1920e328"), looks := false }, kinds := [], alts := [], laidByText := true, laidKinds := [.data, .data, .data, .data], laidTests := true, laidLooks := .later }
def ServiceGrowsCardSaid : Prop := Claim7.holds Tryz.pinned (.plain (OpenSpec.ofChange serviceGrowsSpec)) serviceGrowsCard

/-- THE TIED CARD OF 'bandplanlaw14.ServiceServes'. -/
def serviceServesCard : Claim7 := { stood := { row := serviceServesRow, standIns := [], harness := (true, "b784acd5634b8c0a457322674403b4d94f63b29e8aebc358ed5afcec1920e328"), looks := false }, kinds := [], alts := [], laidByText := true, laidKinds := [.data, .data, .data, .data], laidTests := true, laidLooks := .later }
def ServiceServesCardSaid : Prop := Claim7.holds Tryz.pinned (.plain (OpenSpec.ofChange serviceServesSpec)) serviceServesCard

/-- THE SECOND FORM's CARD OF 'bandplanlaw14.ServiceThresholds'. -/
def serviceThresholdsUptoCard : Claim7 := { stood := { row := serviceThresholdsUptoRow, standIns := [], harness := (true, "b784acd5634b8c0a457322674403b4d94f63b29e8aebc358ed5afcec1920e328"), looks := false }, kinds := [], alts := [], laidByText := true, laidKinds := [.data, .data, .data, .data], laidTests := true, laidLooks := .later }
def ServiceThresholdsUptoCardSaid : Prop := Claim7.holds Tryz.pinned (.plain (OpenSpec.upto serviceThresholdsSpec)) serviceThresholdsUptoCard

/-- THE SECOND FORM's CARD OF 'bandplanlaw14.ServiceAreas'. -/
def serviceAreasUptoCard : Claim7 := { stood := { row := serviceAreasUptoRow, standIns := [], harness := (true, "b784acd5634b8c0a457322674403b4d94f63b29e8aebc358ed5afcec1920e328"), looks := false }, kinds := [], alts := [], laidByText := true, laidKinds := [.data, .data, .data, .data], laidTests := true, laidLooks := .later }
def ServiceAreasUptoCardSaid : Prop := Claim7.holds Tryz.pinned (.plain (OpenSpec.upto serviceAreasSpec)) serviceAreasUptoCard

/-- THE SECOND FORM's CARD OF 'bandplanlaw14.ServiceOverlaps'. -/
def serviceOverlapsUptoCard : Claim7 := { stood := { row := serviceOverlapsUptoRow, standIns := [], harness := (true, "b784acd5634b8c0a457322674403b4d94f63b29e8aebc358ed5afcec1920e328"), looks := false }, kinds := [], alts := [], laidByText := true, laidKinds := [.data, .data, .data, .data], laidTests := true, laidLooks := .later }
def ServiceOverlapsUptoCardSaid : Prop := Claim7.holds Tryz.pinned (.plain (OpenSpec.upto serviceOverlapsSpec)) serviceOverlapsUptoCard

/-- THE SECOND FORM's CARD OF 'bandplanlaw14.ServiceGrows'. -/
def serviceGrowsUptoCard : Claim7 := { stood := { row := serviceGrowsUptoRow, standIns := [], harness := (true, "b784acd5634b8c0a457322674403b4d94f63b29e8aebc358ed5afcec1920e328"), looks := false }, kinds := [], alts := [], laidByText := true, laidKinds := [.data, .data, .data, .data], laidTests := true, laidLooks := .later }
def ServiceGrowsUptoCardSaid : Prop := Claim7.holds Tryz.pinned (.plain (OpenSpec.upto serviceGrowsSpec)) serviceGrowsUptoCard

/-- THE SECOND FORM's CARD OF 'bandplanlaw14.ServiceServes'. -/
def serviceServesUptoCard : Claim7 := { stood := { row := serviceServesUptoRow, standIns := [], harness := (true, "b784acd5634b8c0a457322674403b4d94f63b29e8aebc358ed5afcec1920e328"), looks := false }, kinds := [], alts := [], laidByText := true, laidKinds := [.data, .data, .data, .data], laidTests := true, laidLooks := .later }
def ServiceServesUptoCardSaid : Prop := Claim7.holds Tryz.pinned (.plain (OpenSpec.upto serviceServesSpec)) serviceServesUptoCard
end Rows
end Go.Proofs.YtihepapjopcagaaGreatDoor
