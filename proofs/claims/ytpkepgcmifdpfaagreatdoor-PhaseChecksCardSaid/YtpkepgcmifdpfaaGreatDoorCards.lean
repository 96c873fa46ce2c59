/-
  DERIVED. GIVEN WITH THE SEED: THE CARDS: each row of YtpkepgcmifdpfaaGreatDoorRows.lean that lists a variable, with what it lists TIED to the program's text (the seventh form; the later family's looks); each row that meets fmt, with fmt's text TOLD by the authors' own Lean function (tested against real Go, not proved from fmt's source: count such statements apart). THE CARD IS WHAT COUNTS. Prove the row's statement (the work); the ties are given (YtpkepgcmifdpfaaGreatDoorTie.lean); close each card by the builder's one call (the guide's Derived/Test/ToyasCard.lean, 'card_holds'). Laid BY PROGRAM, IN A SANDBOX (cutbox-door.mjs). By AI agents, Wed Nov 11 2026. No macro, syntax, notation, axiom, sorry.
-/
import Derived.Test.YtpkepgcmifdpfaaGreatDoorRows
import GoSem.ClaimSeven
namespace Go.Proofs.YtpkepgcmifdpfaaGreatDoor
namespace Rows

/-- THE TIED CARD OF 'bandplanlaw48.PhaseBounds'. -/
def phaseBoundsCard : Claim7 := { stood := { row := phaseBoundsRow, standIns := [], harness := (true, "49ebf8947bfb01272d106e5ca9922c90d46fc2f3ff749d67c5282d99ee1ff910"), looks := false }, kinds := [], alts := [], laidByText := true, laidKinds := [.data], laidTests := true, laidLooks := .later }
def PhaseBoundsCardSaid : Prop := Claim7.holds Tryz.pinned (.plain (OpenSpec.ofChange phaseBoundsSpec)) phaseBoundsCard

/-- THE TIED CARD OF 'bandplanlaw48.PhaseChecks'. -/
def phaseChecksCard : Claim7 := { stood := { row := phaseChecksRow, standIns := [], harness := (true, "49ebf8947bfb01272d106e5ca9922c90d46fc2f3ff749d67c5282d99ee1ff910"), looks := false }, kinds := [], alts := [], laidByText := true, laidKinds := [.data], laidTests := true, laidLooks := .later }
def PhaseChecksCardSaid : Prop := Claim7.holds Tryz.pinned (.plain (OpenSpec.ofChange phaseChecksSpec)) phaseChecksCard

/-- THE TIED CARD OF 'bandplanlaw48.PhaseGreedy'. -/
def phaseGreedyCard : Claim7 := { stood := { row := phaseGreedyRow, standIns := [], harness := (true, "49ebf8947bfb01272d106e5ca9922c90d46fc2f3ff749d67c5282d99ee1ff910"), looks := false }, kinds := [], alts := [], laidByText := true, laidKinds := [.data], laidTests := true, laidLooks := .later }
def PhaseGreedyCardSaid : Prop := Claim7.holds Tryz.pinned (.plain (OpenSpec.ofChange phaseGreedySpec)) phaseGreedyCard

/-- THE TIED CARD OF 'bandplanlaw48.PhaseBest'. -/
def phaseBestCard : Claim7 := { stood := { row := phaseBestRow, standIns := [], harness := (true, "49ebf8947bfb01272d106e5ca9922c90d46fc2f3ff749d67c5282d99ee1ff910"), looks := false }, kinds := [], alts := [], laidByText := true, laidKinds := [.data], laidTests := true, laidLooks := .later }
def PhaseBestCardSaid : Prop := Claim7.holds Tryz.pinned (.plain (OpenSpec.ofChange phaseBestSpec)) phaseBestCard

/-- THE TIED CARD OF 'bandplanlaw48.PhaseHolds'. -/
def phaseHoldsCard : Claim7 := { stood := { row := phaseHoldsRow, standIns := [], harness := (true, "49ebf8947bfb01272d106e5ca9922c90d46fc2f3ff749d67c5282d99ee1ff910"), looks := false }, kinds := [], alts := [], laidByText := true, laidKinds := [.data], laidTests := true, laidLooks := .later }
def PhaseHoldsCardSaid : Prop := Claim7.holds Tryz.pinned (.plain (OpenSpec.ofChange phaseHoldsSpec)) phaseHoldsCard

/-- THE SECOND FORM's CARD OF 'bandplanlaw48.PhaseBounds'. -/
def phaseBoundsUptoCard : Claim7 := { stood := { row := phaseBoundsUptoRow, standIns := [], harness := (true, "49ebf8947bfb01272d106e5ca9922c90d46fc2f3ff749d67c5282d99ee1ff910"), looks := false }, kinds := [], alts := [], laidByText := true, laidKinds := [.data], laidTests := true, laidLooks := .later }
def PhaseBoundsUptoCardSaid : Prop := Claim7.holds Tryz.pinned (.plain (OpenSpec.upto phaseBoundsSpec)) phaseBoundsUptoCard

/-- THE SECOND FORM's CARD OF 'bandplanlaw48.PhaseChecks'. -/
def phaseChecksUptoCard : Claim7 := { stood := { row := phaseChecksUptoRow, standIns := [], harness := (true, "49ebf8947bfb01272d106e5ca9922c90d46fc2f3ff749d67c5282d99ee1ff910"), looks := false }, kinds := [], alts := [], laidByText := true, laidKinds := [.data], laidTests := true, laidLooks := .later }
def PhaseChecksUptoCardSaid : Prop := Claim7.holds Tryz.pinned (.plain (OpenSpec.upto phaseChecksSpec)) phaseChecksUptoCard

/-- THE SECOND FORM's CARD OF 'bandplanlaw48.PhaseGreedy'. -/
def phaseGreedyUptoCard : Claim7 := { stood := { row := phaseGreedyUptoRow, standIns := [], harness := (true, "49ebf8947bfb01272d106e5ca9922c90d46fc2f3ff749d67c5282d99ee1ff910"), looks := false }, kinds := [], alts := [], laidByText := true, laidKinds := [.data], laidTests := true, laidLooks := .later }
def PhaseGreedyUptoCardSaid : Prop := Claim7.holds Tryz.pinned (.plain (OpenSpec.upto phaseGreedySpec)) phaseGreedyUptoCard

/-- THE SECOND FORM's CARD OF 'bandplanlaw48.PhaseBest'. -/
def phaseBestUptoCard : Claim7 := { stood := { row := phaseBestUptoRow, standIns := [], harness := (true, "49ebf8947bfb01272d106e5ca9922c90d46fc2f3ff749d67c5282d99ee1ff910"), looks := false }, kinds := [], alts := [], laidByText := true, laidKinds := [.data], laidTests := true, laidLooks := .later }
def PhaseBestUptoCardSaid : Prop := Claim7.holds Tryz.pinned (.plain (OpenSpec.upto phaseBestSpec)) phaseBestUptoCard

/-- THE SECOND FORM's CARD OF 'bandplanlaw48.PhaseHolds'. -/
def phaseHoldsUptoCard : Claim7 := { stood := { row := phaseHoldsUptoRow, standIns := [], harness := (true, "49ebf8947bfb01272d106e5ca9922c90d46fc2f3ff749d67c5282d99ee1ff910"), looks := false }, kinds := [], alts := [], laidByText := true, laidKinds := [.data], laidTests := true, laidLooks := .later }
def PhaseHoldsUptoCardSaid : Prop := Claim7.holds Tryz.pinned (.plain (OpenSpec.upto phaseHoldsSpec)) phaseHoldsUptoCard
end Rows
end Go.Proofs.YtpkepgcmifdpfaaGreatDoor
