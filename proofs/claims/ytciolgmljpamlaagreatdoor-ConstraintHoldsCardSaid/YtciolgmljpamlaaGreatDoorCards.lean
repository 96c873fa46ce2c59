/-
  DERIVED. GIVEN WITH THE SEED: THE CARDS: each row of YtciolgmljpamlaaGreatDoorRows.lean that lists a variable, with what it lists TIED to the program's text (the seventh form; the later family's looks); each row that meets fmt, with fmt's text TOLD by the authors' own Lean function (tested against real Go, not proved from fmt's source: count such statements apart). THE CARD IS WHAT COUNTS. Prove the row's statement (the work); the ties are given (YtciolgmljpamlaaGreatDoorTie.lean); close each card by the builder's one call (the guide's Derived/Test/ToyasCard.lean, 'card_holds'). Laid BY PROGRAM, IN A SANDBOX (cutbox-door.mjs). By AI agents, Wed Nov 11 2026. No macro, syntax, notation, axiom, sorry.
-/
import Derived.Test.YtciolgmljpamlaaGreatDoorRows
import GoSem.ClaimSeven
namespace Go.Proofs.YtciolgmljpamlaaGreatDoor
namespace Rows

/-- THE TIED CARD OF 'bandplanlaw28.ScoreWeights'. -/
def scoreWeightsCard : Claim7 := { stood := { row := scoreWeightsRow, standIns := [], harness := (true, "920341064c7e62c64f226564eb103d14938f7f40ac2d24f7504db4101f8eb11a"), looks := false }, kinds := [], alts := [], laidByText := true, laidKinds := [.data, .data], laidTests := true, laidLooks := .later }
def ScoreWeightsCardSaid : Prop := Claim7.holds Tryz.pinned (.plain (OpenSpec.ofChange scoreWeightsSpec)) scoreWeightsCard

/-- THE TIED CARD OF 'bandplanlaw16.ConstraintValid'. -/
def constraintValidCard : Claim7 := { stood := { row := constraintValidRow, standIns := [], harness := (true, "920341064c7e62c64f226564eb103d14938f7f40ac2d24f7504db4101f8eb11a"), looks := false }, kinds := [], alts := [], laidByText := true, laidKinds := [.data], laidTests := true, laidLooks := .later }
def ConstraintValidCardSaid : Prop := Claim7.holds Tryz.pinned (.plain (OpenSpec.ofChange constraintValidSpec)) constraintValidCard

/-- THE TIED CARD OF 'bandplanlaw16.ConstraintForbids'. -/
def constraintForbidsCard : Claim7 := { stood := { row := constraintForbidsRow, standIns := [], harness := (true, "920341064c7e62c64f226564eb103d14938f7f40ac2d24f7504db4101f8eb11a"), looks := false }, kinds := [], alts := [], laidByText := true, laidKinds := [.data], laidTests := true, laidLooks := .later }
def ConstraintForbidsCardSaid : Prop := Claim7.holds Tryz.pinned (.plain (OpenSpec.ofChange constraintForbidsSpec)) constraintForbidsCard

/-- THE TIED CARD OF 'bandplanlaw16.ConstraintBuilds'. -/
def constraintBuildsCard : Claim7 := { stood := { row := constraintBuildsRow, standIns := [], harness := (true, "920341064c7e62c64f226564eb103d14938f7f40ac2d24f7504db4101f8eb11a"), looks := false }, kinds := [], alts := [], laidByText := true, laidKinds := [.data], laidTests := true, laidLooks := .later }
def ConstraintBuildsCardSaid : Prop := Claim7.holds Tryz.pinned (.plain (OpenSpec.ofChange constraintBuildsSpec)) constraintBuildsCard

/-- THE TIED CARD OF 'bandplanlaw16.ConstraintJoins'. -/
def constraintJoinsCard : Claim7 := { stood := { row := constraintJoinsRow, standIns := [], harness := (true, "920341064c7e62c64f226564eb103d14938f7f40ac2d24f7504db4101f8eb11a"), looks := false }, kinds := [], alts := [], laidByText := true, laidKinds := [.data], laidTests := true, laidLooks := .later }
def ConstraintJoinsCardSaid : Prop := Claim7.holds Tryz.pinned (.plain (OpenSpec.ofChange constraintJoinsSpec)) constraintJoinsCard

/-- THE TIED CARD OF 'bandplanlaw16.ConstraintLimits'. -/
def constraintLimitsCard : Claim7 := { stood := { row := constraintLimitsRow, standIns := [], harness := (true, "920341064c7e62c64f226564eb103d14938f7f40ac2d24f7504db4101f8eb11a"), looks := false }, kinds := [], alts := [], laidByText := true, laidKinds := [.data], laidTests := true, laidLooks := .later }
def ConstraintLimitsCardSaid : Prop := Claim7.holds Tryz.pinned (.plain (OpenSpec.ofChange constraintLimitsSpec)) constraintLimitsCard

/-- THE TIED CARD OF 'bandplanlaw16.ConstraintHolds'. -/
def constraintHoldsCard : Claim7 := { stood := { row := constraintHoldsRow, standIns := [], harness := (true, "920341064c7e62c64f226564eb103d14938f7f40ac2d24f7504db4101f8eb11a"), looks := false }, kinds := [], alts := [], laidByText := true, laidKinds := [.data], laidTests := true, laidLooks := .later }
def ConstraintHoldsCardSaid : Prop := Claim7.holds Tryz.pinned (.plain (OpenSpec.ofChange constraintHoldsSpec)) constraintHoldsCard

/-- THE SECOND FORM's CARD OF 'bandplanlaw28.ScoreWeights'. -/
def scoreWeightsUptoCard : Claim7 := { stood := { row := scoreWeightsUptoRow, standIns := [], harness := (true, "920341064c7e62c64f226564eb103d14938f7f40ac2d24f7504db4101f8eb11a"), looks := false }, kinds := [], alts := [], laidByText := true, laidKinds := [.data, .data], laidTests := true, laidLooks := .later }
def ScoreWeightsUptoCardSaid : Prop := Claim7.holds Tryz.pinned (.plain (OpenSpec.upto scoreWeightsSpec)) scoreWeightsUptoCard

/-- THE SECOND FORM's CARD OF 'bandplanlaw16.ConstraintValid'. -/
def constraintValidUptoCard : Claim7 := { stood := { row := constraintValidUptoRow, standIns := [], harness := (true, "920341064c7e62c64f226564eb103d14938f7f40ac2d24f7504db4101f8eb11a"), looks := false }, kinds := [], alts := [], laidByText := true, laidKinds := [.data], laidTests := true, laidLooks := .later }
def ConstraintValidUptoCardSaid : Prop := Claim7.holds Tryz.pinned (.plain (OpenSpec.upto constraintValidSpec)) constraintValidUptoCard

/-- THE SECOND FORM's CARD OF 'bandplanlaw16.ConstraintForbids'. -/
def constraintForbidsUptoCard : Claim7 := { stood := { row := constraintForbidsUptoRow, standIns := [], harness := (true, "920341064c7e62c64f226564eb103d14938f7f40ac2d24f7504db4101f8eb11a"), looks := false }, kinds := [], alts := [], laidByText := true, laidKinds := [.data], laidTests := true, laidLooks := .later }
def ConstraintForbidsUptoCardSaid : Prop := Claim7.holds Tryz.pinned (.plain (OpenSpec.upto constraintForbidsSpec)) constraintForbidsUptoCard

/-- THE SECOND FORM's CARD OF 'bandplanlaw16.ConstraintBuilds'. -/
def constraintBuildsUptoCard : Claim7 := { stood := { row := constraintBuildsUptoRow, standIns := [], harness := (true, "920341064c7e62c64f226564eb103d14938f7f40ac2d24f7504db4101f8eb11a"), looks := false }, kinds := [], alts := [], laidByText := true, laidKinds := [.data], laidTests := true, laidLooks := .later }
def ConstraintBuildsUptoCardSaid : Prop := Claim7.holds Tryz.pinned (.plain (OpenSpec.upto constraintBuildsSpec)) constraintBuildsUptoCard

/-- THE SECOND FORM's CARD OF 'bandplanlaw16.ConstraintJoins'. -/
def constraintJoinsUptoCard : Claim7 := { stood := { row := constraintJoinsUptoRow, standIns := [], harness := (true, "920341064c7e62c64f226564eb103d14938f7f40ac2d24f7504db4101f8eb11a"), looks := false }, kinds := [], alts := [], laidByText := true, laidKinds := [.data], laidTests := true, laidLooks := .later }
def ConstraintJoinsUptoCardSaid : Prop := Claim7.holds Tryz.pinned (.plain (OpenSpec.upto constraintJoinsSpec)) constraintJoinsUptoCard

/-- THE SECOND FORM's CARD OF 'bandplanlaw16.ConstraintLimits'. -/
def constraintLimitsUptoCard : Claim7 := { stood := { row := constraintLimitsUptoRow, standIns := [], harness := (true, "920341064c7e62c64f226564eb103d14938f7f40ac2d24f7504db4101f8eb11a"), looks := false }, kinds := [], alts := [], laidByText := true, laidKinds := [.data], laidTests := true, laidLooks := .later }
def ConstraintLimitsUptoCardSaid : Prop := Claim7.holds Tryz.pinned (.plain (OpenSpec.upto constraintLimitsSpec)) constraintLimitsUptoCard

/-- THE SECOND FORM's CARD OF 'bandplanlaw16.ConstraintHolds'. -/
def constraintHoldsUptoCard : Claim7 := { stood := { row := constraintHoldsUptoRow, standIns := [], harness := (true, "920341064c7e62c64f226564eb103d14938f7f40ac2d24f7504db4101f8eb11a"), looks := false }, kinds := [], alts := [], laidByText := true, laidKinds := [.data], laidTests := true, laidLooks := .later }
def ConstraintHoldsUptoCardSaid : Prop := Claim7.holds Tryz.pinned (.plain (OpenSpec.upto constraintHoldsSpec)) constraintHoldsUptoCard
end Rows
end Go.Proofs.YtciolgmljpamlaaGreatDoor
