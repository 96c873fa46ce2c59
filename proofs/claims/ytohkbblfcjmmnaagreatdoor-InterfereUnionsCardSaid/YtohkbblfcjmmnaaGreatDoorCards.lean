/-
  DERIVED. GIVEN WITH THE SEED: THE CARDS: each row of YtohkbblfcjmmnaaGreatDoorRows.lean that lists a variable, with what it lists TIED to the program's text (the seventh form; the later family's looks); each row that meets fmt, with fmt's text TOLD by the authors' own Lean function (tested against real Go, not proved from fmt's source: count such statements apart). THE CARD IS WHAT COUNTS. Prove the row's statement (the work); the ties are given (YtohkbblfcjmmnaaGreatDoorTie.lean); close each card by the builder's one call (the guide's Derived/Test/ToyasCard.lean, 'card_holds'). Laid BY PROGRAM, IN A SANDBOX (cutbox-door.mjs). By AI agents, Wed Nov 11 2026. No macro, syntax, notation, axiom, sorry.
-/
import Derived.Test.YtohkbblfcjmmnaaGreatDoorRows
import GoSem.ClaimSeven
namespace Go.Proofs.YtohkbblfcjmmnaaGreatDoor
namespace Rows

/-- THE TIED CARD OF 'bandplanlaw15.InterfereHits'. -/
def interfereHitsCard : Claim7 := { stood := { row := interfereHitsRow, standIns := [], harness := (true, "365ceb172698b2591fdaf426057b537fb3695717bc1cbb8727e7c6d4f0357a0f"), looks := false }, kinds := [], alts := [], laidByText := true, laidKinds := [.data], laidTests := true, laidLooks := .later }
def InterfereHitsCardSaid : Prop := Claim7.holds Tryz.pinned (.plain (OpenSpec.ofChange interfereHitsSpec)) interfereHitsCard

/-- THE TIED CARD OF 'bandplanlaw15.InterfereCells'. -/
def interfereCellsCard : Claim7 := { stood := { row := interfereCellsRow, standIns := [], harness := (true, "365ceb172698b2591fdaf426057b537fb3695717bc1cbb8727e7c6d4f0357a0f"), looks := false }, kinds := [], alts := [], laidByText := true, laidKinds := [.data], laidTests := true, laidLooks := .later }
def InterfereCellsCardSaid : Prop := Claim7.holds Tryz.pinned (.plain (OpenSpec.ofChange interfereCellsSpec)) interfereCellsCard

/-- THE TIED CARD OF 'bandplanlaw15.InterfereExceeds'. -/
def interfereExceedsCard : Claim7 := { stood := { row := interfereExceedsRow, standIns := [], harness := (true, "365ceb172698b2591fdaf426057b537fb3695717bc1cbb8727e7c6d4f0357a0f"), looks := false }, kinds := [], alts := [], laidByText := true, laidKinds := [.data], laidTests := true, laidLooks := .later }
def InterfereExceedsCardSaid : Prop := Claim7.holds Tryz.pinned (.plain (OpenSpec.ofChange interfereExceedsSpec)) interfereExceedsCard

/-- THE TIED CARD OF 'bandplanlaw15.InterfereUnions'. -/
def interfereUnionsCard : Claim7 := { stood := { row := interfereUnionsRow, standIns := [], harness := (true, "365ceb172698b2591fdaf426057b537fb3695717bc1cbb8727e7c6d4f0357a0f"), looks := false }, kinds := [], alts := [], laidByText := true, laidKinds := [.data], laidTests := true, laidLooks := .later }
def InterfereUnionsCardSaid : Prop := Claim7.holds Tryz.pinned (.plain (OpenSpec.ofChange interfereUnionsSpec)) interfereUnionsCard

/-- THE TIED CARD OF 'bandplanlaw15.InterfereHolds'. -/
def interfereHoldsCard : Claim7 := { stood := { row := interfereHoldsRow, standIns := [], harness := (true, "365ceb172698b2591fdaf426057b537fb3695717bc1cbb8727e7c6d4f0357a0f"), looks := false }, kinds := [], alts := [], laidByText := true, laidKinds := [.data], laidTests := true, laidLooks := .later }
def InterfereHoldsCardSaid : Prop := Claim7.holds Tryz.pinned (.plain (OpenSpec.ofChange interfereHoldsSpec)) interfereHoldsCard

/-- THE SECOND FORM's CARD OF 'bandplanlaw15.InterfereHits'. -/
def interfereHitsUptoCard : Claim7 := { stood := { row := interfereHitsUptoRow, standIns := [], harness := (true, "365ceb172698b2591fdaf426057b537fb3695717bc1cbb8727e7c6d4f0357a0f"), looks := false }, kinds := [], alts := [], laidByText := true, laidKinds := [.data], laidTests := true, laidLooks := .later }
def InterfereHitsUptoCardSaid : Prop := Claim7.holds Tryz.pinned (.plain (OpenSpec.upto interfereHitsSpec)) interfereHitsUptoCard

/-- THE SECOND FORM's CARD OF 'bandplanlaw15.InterfereCells'. -/
def interfereCellsUptoCard : Claim7 := { stood := { row := interfereCellsUptoRow, standIns := [], harness := (true, "365ceb172698b2591fdaf426057b537fb3695717bc1cbb8727e7c6d4f0357a0f"), looks := false }, kinds := [], alts := [], laidByText := true, laidKinds := [.data], laidTests := true, laidLooks := .later }
def InterfereCellsUptoCardSaid : Prop := Claim7.holds Tryz.pinned (.plain (OpenSpec.upto interfereCellsSpec)) interfereCellsUptoCard

/-- THE SECOND FORM's CARD OF 'bandplanlaw15.InterfereExceeds'. -/
def interfereExceedsUptoCard : Claim7 := { stood := { row := interfereExceedsUptoRow, standIns := [], harness := (true, "365ceb172698b2591fdaf426057b537fb3695717bc1cbb8727e7c6d4f0357a0f"), looks := false }, kinds := [], alts := [], laidByText := true, laidKinds := [.data], laidTests := true, laidLooks := .later }
def InterfereExceedsUptoCardSaid : Prop := Claim7.holds Tryz.pinned (.plain (OpenSpec.upto interfereExceedsSpec)) interfereExceedsUptoCard

/-- THE SECOND FORM's CARD OF 'bandplanlaw15.InterfereUnions'. -/
def interfereUnionsUptoCard : Claim7 := { stood := { row := interfereUnionsUptoRow, standIns := [], harness := (true, "365ceb172698b2591fdaf426057b537fb3695717bc1cbb8727e7c6d4f0357a0f"), looks := false }, kinds := [], alts := [], laidByText := true, laidKinds := [.data], laidTests := true, laidLooks := .later }
def InterfereUnionsUptoCardSaid : Prop := Claim7.holds Tryz.pinned (.plain (OpenSpec.upto interfereUnionsSpec)) interfereUnionsUptoCard

/-- THE SECOND FORM's CARD OF 'bandplanlaw15.InterfereHolds'. -/
def interfereHoldsUptoCard : Claim7 := { stood := { row := interfereHoldsUptoRow, standIns := [], harness := (true, "365ceb172698b2591fdaf426057b537fb3695717bc1cbb8727e7c6d4f0357a0f"), looks := false }, kinds := [], alts := [], laidByText := true, laidKinds := [.data], laidTests := true, laidLooks := .later }
def InterfereHoldsUptoCardSaid : Prop := Claim7.holds Tryz.pinned (.plain (OpenSpec.upto interfereHoldsSpec)) interfereHoldsUptoCard
end Rows
end Go.Proofs.YtohkbblfcjmmnaaGreatDoor
