/-
  NARROWER THAN 'FOR EVERY INPUT', by the rows' own cells (each row's printed sentence says how): ScoreWeights: laid · ConstraintValid: laid · ConstraintForbids: laid · ConstraintBuilds: laid · ConstraintJoins: laid · ConstraintLimits: laid · ConstraintHolds: laid.
  DERIVED. THE GIVEN ROWS OF THIS SEAT. 7 by the template 'for every input the law returns true; each argument reads behind the call as it read before'; 0 by the template 'total and deterministic' (their statements: YtciolgmljpamlaaGreatDoorTotals.lean).
  GIVEN WITH THE SEED: the statements are not yours to turn. If you find one false, say at which input.
  Laid BY PROGRAM, IN A SANDBOX (cutbox-rows.mjs): the forced cells as the released guide's own fill.sh prints them over the translation 267a382c6a2c03a1… (all of the seat's roots in one cut). By AI agents, Wed Nov 11 2026. No macro, syntax, notation, axiom, sorry.
-/
import Derived.Test.YtciolgmljpamlaaGreatDoorChecked
import GoSem.Claim
import GoSem.ClaimJoined
import GoSem.ClaimMapViews
import Derived.JoinedTies
import Derived.KernelRfl
namespace Go.Proofs.YtciolgmljpamlaaGreatDoor
/- THE CELL 'sum', in the pinned program and in every row, IS THE sha256 OF THE DUMP (.gsa) THAT YtciolgmljpamlaaGreatDoorProg.lean LOADS. Nothing in Lean hashes anything: it is a label: what it is worth is what the hold of that sum in a sandbox is worth. -/
noncomputable def Tryz.pinned : Pinned := { name := "ytciolgmljpamlaagreatdoor", sum := "267a382c6a2c03a1b1c37029d29f61c6bc74ec8d96c9c03c2223b443edaecbd3", checked := Tryz.checked }
namespace Rows
def none {H : Type} : Left H := { results := [], args := [] }

/- WHAT THE LISTED PACKAGE-LEVEL VARIABLES READ AS WHEN THE CALL BEGINS. Each datum BY PROGRAM (the guide's laid-datum.mjs) off the statement by which the dump's own 'gosem.cut.vars' lays the variable. In a bare row this is a premise. The card (YtciolgmljpamlaaGreatDoorCards.lean) ties it to the program's text. -/
def laid_bandplan_antenna_quadrants {H : Type} : DataW H := .agg [.agg [.lit (.int .i64 1), .lit (.int .i64 0), .lit (.int .i64 0), .lit (.int .i64 1)], .agg [.lit (.int .i64 0), .lit (.int .i64 1), .lit (.int .i64 (-1)), .lit (.int .i64 0)], .agg [.lit (.int .i64 (-1)), .lit (.int .i64 0), .lit (.int .i64 0), .lit (.int .i64 (-1))], .agg [.lit (.int .i64 0), .lit (.int .i64 (-1)), .lit (.int .i64 1), .lit (.int .i64 0)]]
def laid_bandplan_score_worths {H : Type} : DataW H := .agg [.lit (.int .i64 0), .lit (.int .i64 250), .lit (.int .i64 600), .lit (.int .i64 1000)]

/-- 'bandplanlaw28.ScoreWeights': WHATEVER THE INPUT: true; the input reads as it did. -/
def scoreWeightsSpec : ChangeSpec := { name := "scoreWeights", fn := fun _ => fun
  | [d1, d2, d3] => { results := [.lit (.bool true)], args := [d1, d2, d3] }
  | _ => none }
def scoreWeightsRow : OpenClaim := { program := "ytciolgmljpamlaagreatdoor", sum := "267a382c6a2c03a1b1c37029d29f61c6bc74ec8d96c9c03c2223b443edaecbd3", func := "bandplan/bandplanlaw28.ScoreWeights", spec := "scoreWeights", unfollowed := true, recurses := true, named := ["bandplan/score.worths", "bandplan/antenna.quadrants"], plainKeys := false, apart := false, laid := [("bandplan/antenna.quadrants", laid_bandplan_antenna_quadrants), ("bandplan/score.worths", laid_bandplan_score_worths)] }
def ScoreWeightsSaid : Prop := scoreWeightsRow.holds Tryz.pinned (OpenSpec.ofChange scoreWeightsSpec)

/-- ITS FALSE NEIGHBOUR: 'it returns false'. Refute it at one input. -/
def scoreWeightsWrong : ChangeSpec := { name := "scoreWeights", fn := fun _ => fun
  | [d1, d2, d3] => { results := [.lit (.bool false)], args := [d1, d2, d3] }
  | _ => none }
def ScoreWeightsWrongFalsely : Prop := scoreWeightsRow.holds Tryz.pinned (OpenSpec.ofChange scoreWeightsWrong)

/-- 'bandplanlaw16.ConstraintValid': WHATEVER THE INPUT: true; the input reads as it did. -/
def constraintValidSpec : ChangeSpec := { name := "constraintValid", fn := fun _ => fun
  | [d1, d2] => { results := [.lit (.bool true)], args := [d1, d2] }
  | _ => none }
def constraintValidRow : OpenClaim := { program := "ytciolgmljpamlaagreatdoor", sum := "267a382c6a2c03a1b1c37029d29f61c6bc74ec8d96c9c03c2223b443edaecbd3", func := "bandplan/bandplanlaw16.ConstraintValid", spec := "constraintValid", unfollowed := true, recurses := true, named := ["bandplan/antenna.quadrants"], plainKeys := false, apart := false, laid := [("bandplan/antenna.quadrants", laid_bandplan_antenna_quadrants)] }
def ConstraintValidSaid : Prop := constraintValidRow.holds Tryz.pinned (OpenSpec.ofChange constraintValidSpec)

/-- ITS FALSE NEIGHBOUR: 'it returns false'. Refute it at one input. -/
def constraintValidWrong : ChangeSpec := { name := "constraintValid", fn := fun _ => fun
  | [d1, d2] => { results := [.lit (.bool false)], args := [d1, d2] }
  | _ => none }
def ConstraintValidWrongFalsely : Prop := constraintValidRow.holds Tryz.pinned (OpenSpec.ofChange constraintValidWrong)

/-- 'bandplanlaw16.ConstraintForbids': WHATEVER THE INPUT: true; the input reads as it did. -/
def constraintForbidsSpec : ChangeSpec := { name := "constraintForbids", fn := fun _ => fun
  | [d1, d2, d3, d4] => { results := [.lit (.bool true)], args := [d1, d2, d3, d4] }
  | _ => none }
def constraintForbidsRow : OpenClaim := { program := "ytciolgmljpamlaagreatdoor", sum := "267a382c6a2c03a1b1c37029d29f61c6bc74ec8d96c9c03c2223b443edaecbd3", func := "bandplan/bandplanlaw16.ConstraintForbids", spec := "constraintForbids", unfollowed := true, recurses := true, named := ["bandplan/antenna.quadrants"], plainKeys := false, apart := false, laid := [("bandplan/antenna.quadrants", laid_bandplan_antenna_quadrants)] }
def ConstraintForbidsSaid : Prop := constraintForbidsRow.holds Tryz.pinned (OpenSpec.ofChange constraintForbidsSpec)

/-- ITS FALSE NEIGHBOUR: 'it returns false'. Refute it at one input. -/
def constraintForbidsWrong : ChangeSpec := { name := "constraintForbids", fn := fun _ => fun
  | [d1, d2, d3, d4] => { results := [.lit (.bool false)], args := [d1, d2, d3, d4] }
  | _ => none }
def ConstraintForbidsWrongFalsely : Prop := constraintForbidsRow.holds Tryz.pinned (OpenSpec.ofChange constraintForbidsWrong)

/-- 'bandplanlaw16.ConstraintBuilds': WHATEVER THE INPUT: true; the input reads as it did. -/
def constraintBuildsSpec : ChangeSpec := { name := "constraintBuilds", fn := fun _ => fun
  | [d1, d2, d3] => { results := [.lit (.bool true)], args := [d1, d2, d3] }
  | _ => none }
def constraintBuildsRow : OpenClaim := { program := "ytciolgmljpamlaagreatdoor", sum := "267a382c6a2c03a1b1c37029d29f61c6bc74ec8d96c9c03c2223b443edaecbd3", func := "bandplan/bandplanlaw16.ConstraintBuilds", spec := "constraintBuilds", unfollowed := true, recurses := true, named := ["bandplan/antenna.quadrants"], plainKeys := false, apart := false, laid := [("bandplan/antenna.quadrants", laid_bandplan_antenna_quadrants)] }
def ConstraintBuildsSaid : Prop := constraintBuildsRow.holds Tryz.pinned (OpenSpec.ofChange constraintBuildsSpec)

/-- ITS FALSE NEIGHBOUR: 'it returns false'. Refute it at one input. -/
def constraintBuildsWrong : ChangeSpec := { name := "constraintBuilds", fn := fun _ => fun
  | [d1, d2, d3] => { results := [.lit (.bool false)], args := [d1, d2, d3] }
  | _ => none }
def ConstraintBuildsWrongFalsely : Prop := constraintBuildsRow.holds Tryz.pinned (OpenSpec.ofChange constraintBuildsWrong)

/-- 'bandplanlaw16.ConstraintJoins': WHATEVER THE INPUT: true; the input reads as it did. -/
def constraintJoinsSpec : ChangeSpec := { name := "constraintJoins", fn := fun _ => fun
  | [d1, d2] => { results := [.lit (.bool true)], args := [d1, d2] }
  | _ => none }
def constraintJoinsRow : OpenClaim := { program := "ytciolgmljpamlaagreatdoor", sum := "267a382c6a2c03a1b1c37029d29f61c6bc74ec8d96c9c03c2223b443edaecbd3", func := "bandplan/bandplanlaw16.ConstraintJoins", spec := "constraintJoins", unfollowed := true, recurses := true, named := ["bandplan/antenna.quadrants"], plainKeys := false, apart := false, laid := [("bandplan/antenna.quadrants", laid_bandplan_antenna_quadrants)] }
def ConstraintJoinsSaid : Prop := constraintJoinsRow.holds Tryz.pinned (OpenSpec.ofChange constraintJoinsSpec)

/-- ITS FALSE NEIGHBOUR: 'it returns false'. Refute it at one input. -/
def constraintJoinsWrong : ChangeSpec := { name := "constraintJoins", fn := fun _ => fun
  | [d1, d2] => { results := [.lit (.bool false)], args := [d1, d2] }
  | _ => none }
def ConstraintJoinsWrongFalsely : Prop := constraintJoinsRow.holds Tryz.pinned (OpenSpec.ofChange constraintJoinsWrong)

/-- 'bandplanlaw16.ConstraintLimits': WHATEVER THE INPUT: true; the input reads as it did. -/
def constraintLimitsSpec : ChangeSpec := { name := "constraintLimits", fn := fun _ => fun
  | [] => { results := [.lit (.bool true)], args := [] }
  | _ => none }
def constraintLimitsRow : OpenClaim := { program := "ytciolgmljpamlaagreatdoor", sum := "267a382c6a2c03a1b1c37029d29f61c6bc74ec8d96c9c03c2223b443edaecbd3", func := "bandplan/bandplanlaw16.ConstraintLimits", spec := "constraintLimits", unfollowed := true, recurses := true, named := ["bandplan/antenna.quadrants"], plainKeys := false, apart := false, laid := [("bandplan/antenna.quadrants", laid_bandplan_antenna_quadrants)] }
def ConstraintLimitsSaid : Prop := constraintLimitsRow.holds Tryz.pinned (OpenSpec.ofChange constraintLimitsSpec)

/-- ITS FALSE NEIGHBOUR: 'it returns false'. Refute it at one input. -/
def constraintLimitsWrong : ChangeSpec := { name := "constraintLimits", fn := fun _ => fun
  | [] => { results := [.lit (.bool false)], args := [] }
  | _ => none }
def ConstraintLimitsWrongFalsely : Prop := constraintLimitsRow.holds Tryz.pinned (OpenSpec.ofChange constraintLimitsWrong)

/-- 'bandplanlaw16.ConstraintHolds': WHATEVER THE INPUT: true; the input reads as it did. -/
def constraintHoldsSpec : ChangeSpec := { name := "constraintHolds", fn := fun _ => fun
  | [d1, d2, d3, d4] => { results := [.lit (.bool true)], args := [d1, d2, d3, d4] }
  | _ => none }
def constraintHoldsRow : OpenClaim := { program := "ytciolgmljpamlaagreatdoor", sum := "267a382c6a2c03a1b1c37029d29f61c6bc74ec8d96c9c03c2223b443edaecbd3", func := "bandplan/bandplanlaw16.ConstraintHolds", spec := "constraintHolds", unfollowed := true, recurses := true, named := ["bandplan/antenna.quadrants"], plainKeys := false, apart := false, laid := [("bandplan/antenna.quadrants", laid_bandplan_antenna_quadrants)] }
def ConstraintHoldsSaid : Prop := constraintHoldsRow.holds Tryz.pinned (OpenSpec.ofChange constraintHoldsSpec)

/-- ITS FALSE NEIGHBOUR: 'it returns false'. Refute it at one input. -/
def constraintHoldsWrong : ChangeSpec := { name := "constraintHolds", fn := fun _ => fun
  | [d1, d2, d3, d4] => { results := [.lit (.bool false)], args := [d1, d2, d3, d4] }
  | _ => none }
def ConstraintHoldsWrongFalsely : Prop := constraintHoldsRow.holds Tryz.pinned (OpenSpec.ofChange constraintHoldsWrong)

/- THE SECOND FORM. 'bulk': how many values and letters a reading holds, each counted each time it is reached (what is shared counts as often as it is met; a slice's spare places count too). A statement '..UptoSaid' is the law's where the arguments, and the package variables that the reading takes, are together of bulk at most 1048576: NARROWER than '..Said'. Prove '..Said' where nothing that the law and all that it calls make is longer than what came in: it says more and counts as full. Else prove '..UptoSaid'. A law counts once. -/
mutual
def uptoBulk {H : Type} : DataW H → Nat
  | .lit (.string bytes) => bytes.length + 1
  | .lit _ => 1
  | .nil => 1
  | .ptr d => uptoBulk d + 1
  | .slice elems spare => uptoBulkAll elems + uptoBulkAll spare + 1
  | .agg parts => uptoBulkAll parts + 1
  | .iface _ d => uptoBulk d + 1
  | .map entries => uptoBulkEntries entries + 1
  | .held _ => 1
def uptoBulkAll {H : Type} : List (DataW H) → Nat
  | [] => 0
  | d :: r => uptoBulk d + uptoBulkAll r
def uptoBulkEntries {H : Type} : List (Lit × DataW H) → Nat
  | [] => 0
  | x :: r => uptoBulkEntry x + uptoBulkEntries r
def uptoBulkEntry {H : Type} : Lit × DataW H → Nat
  | (.string bytes, d) => bytes.length + uptoBulk d + 1
  | (_, d) => uptoBulk d + 1
 end
def uptoSmall : (H : Type) → List (DataW H) → Bool := fun _ ds => decide (uptoBulkAll ds ≤ 1048576)
def OpenSpec.upto (s : _root_.Go.ChangeSpec) : _root_.Go.OpenSpec := { _root_.Go.OpenSpec.ofChange s with cond := some uptoSmall }

/-- 'bandplanlaw28.ScoreWeights', WHERE WHAT IT READS IS OF BULK AT MOST 1048576: true; the input reads as it did. -/
def scoreWeightsUptoRow : OpenClaim := { program := "ytciolgmljpamlaagreatdoor", sum := "267a382c6a2c03a1b1c37029d29f61c6bc74ec8d96c9c03c2223b443edaecbd3", func := "bandplan/bandplanlaw28.ScoreWeights", spec := "scoreWeights", unfollowed := true, recurses := true, named := ["bandplan/score.worths", "bandplan/antenna.quadrants"], plainKeys := false, apart := false, laid := [("bandplan/antenna.quadrants", laid_bandplan_antenna_quadrants), ("bandplan/score.worths", laid_bandplan_score_worths)], narrowed := true }
def ScoreWeightsUptoSaid : Prop := scoreWeightsUptoRow.holds Tryz.pinned (OpenSpec.upto scoreWeightsSpec)

/-- 'bandplanlaw16.ConstraintValid', WHERE WHAT IT READS IS OF BULK AT MOST 1048576: true; the input reads as it did. -/
def constraintValidUptoRow : OpenClaim := { program := "ytciolgmljpamlaagreatdoor", sum := "267a382c6a2c03a1b1c37029d29f61c6bc74ec8d96c9c03c2223b443edaecbd3", func := "bandplan/bandplanlaw16.ConstraintValid", spec := "constraintValid", unfollowed := true, recurses := true, named := ["bandplan/antenna.quadrants"], plainKeys := false, apart := false, laid := [("bandplan/antenna.quadrants", laid_bandplan_antenna_quadrants)], narrowed := true }
def ConstraintValidUptoSaid : Prop := constraintValidUptoRow.holds Tryz.pinned (OpenSpec.upto constraintValidSpec)

/-- 'bandplanlaw16.ConstraintForbids', WHERE WHAT IT READS IS OF BULK AT MOST 1048576: true; the input reads as it did. -/
def constraintForbidsUptoRow : OpenClaim := { program := "ytciolgmljpamlaagreatdoor", sum := "267a382c6a2c03a1b1c37029d29f61c6bc74ec8d96c9c03c2223b443edaecbd3", func := "bandplan/bandplanlaw16.ConstraintForbids", spec := "constraintForbids", unfollowed := true, recurses := true, named := ["bandplan/antenna.quadrants"], plainKeys := false, apart := false, laid := [("bandplan/antenna.quadrants", laid_bandplan_antenna_quadrants)], narrowed := true }
def ConstraintForbidsUptoSaid : Prop := constraintForbidsUptoRow.holds Tryz.pinned (OpenSpec.upto constraintForbidsSpec)

/-- 'bandplanlaw16.ConstraintBuilds', WHERE WHAT IT READS IS OF BULK AT MOST 1048576: true; the input reads as it did. -/
def constraintBuildsUptoRow : OpenClaim := { program := "ytciolgmljpamlaagreatdoor", sum := "267a382c6a2c03a1b1c37029d29f61c6bc74ec8d96c9c03c2223b443edaecbd3", func := "bandplan/bandplanlaw16.ConstraintBuilds", spec := "constraintBuilds", unfollowed := true, recurses := true, named := ["bandplan/antenna.quadrants"], plainKeys := false, apart := false, laid := [("bandplan/antenna.quadrants", laid_bandplan_antenna_quadrants)], narrowed := true }
def ConstraintBuildsUptoSaid : Prop := constraintBuildsUptoRow.holds Tryz.pinned (OpenSpec.upto constraintBuildsSpec)

/-- 'bandplanlaw16.ConstraintJoins', WHERE WHAT IT READS IS OF BULK AT MOST 1048576: true; the input reads as it did. -/
def constraintJoinsUptoRow : OpenClaim := { program := "ytciolgmljpamlaagreatdoor", sum := "267a382c6a2c03a1b1c37029d29f61c6bc74ec8d96c9c03c2223b443edaecbd3", func := "bandplan/bandplanlaw16.ConstraintJoins", spec := "constraintJoins", unfollowed := true, recurses := true, named := ["bandplan/antenna.quadrants"], plainKeys := false, apart := false, laid := [("bandplan/antenna.quadrants", laid_bandplan_antenna_quadrants)], narrowed := true }
def ConstraintJoinsUptoSaid : Prop := constraintJoinsUptoRow.holds Tryz.pinned (OpenSpec.upto constraintJoinsSpec)

/-- 'bandplanlaw16.ConstraintLimits', WHERE WHAT IT READS IS OF BULK AT MOST 1048576: true; the input reads as it did. -/
def constraintLimitsUptoRow : OpenClaim := { program := "ytciolgmljpamlaagreatdoor", sum := "267a382c6a2c03a1b1c37029d29f61c6bc74ec8d96c9c03c2223b443edaecbd3", func := "bandplan/bandplanlaw16.ConstraintLimits", spec := "constraintLimits", unfollowed := true, recurses := true, named := ["bandplan/antenna.quadrants"], plainKeys := false, apart := false, laid := [("bandplan/antenna.quadrants", laid_bandplan_antenna_quadrants)], narrowed := true }
def ConstraintLimitsUptoSaid : Prop := constraintLimitsUptoRow.holds Tryz.pinned (OpenSpec.upto constraintLimitsSpec)

/-- 'bandplanlaw16.ConstraintHolds', WHERE WHAT IT READS IS OF BULK AT MOST 1048576: true; the input reads as it did. -/
def constraintHoldsUptoRow : OpenClaim := { program := "ytciolgmljpamlaagreatdoor", sum := "267a382c6a2c03a1b1c37029d29f61c6bc74ec8d96c9c03c2223b443edaecbd3", func := "bandplan/bandplanlaw16.ConstraintHolds", spec := "constraintHolds", unfollowed := true, recurses := true, named := ["bandplan/antenna.quadrants"], plainKeys := false, apart := false, laid := [("bandplan/antenna.quadrants", laid_bandplan_antenna_quadrants)], narrowed := true }
def ConstraintHoldsUptoSaid : Prop := constraintHoldsUptoRow.holds Tryz.pinned (OpenSpec.upto constraintHoldsSpec)

end Rows
end Go.Proofs.YtciolgmljpamlaaGreatDoor
