/-
  NARROWER THAN 'FOR EVERY INPUT', by the rows' own cells (each row's printed sentence says how): StationFields: laid · StationStrongest: laid · StationSorts: laid · StationPower: laid · StationValid: laid.
  DERIVED. THE GIVEN ROWS OF THIS SEAT. 5 by the template 'for every input the law returns true; each argument reads behind the call as it read before'; 0 by the template 'total and deterministic' (their statements: YtfcaikahdcpglaaDoorTotals.lean).
  GIVEN WITH THE SEED: the statements are not yours to turn. If you find one false, say at which input.
  Laid BY PROGRAM, IN A SANDBOX (cutbox-rows.mjs): the forced cells as the released guide's own fill.sh prints them over the translation 7fba20c792e2c42f… (all of the seat's roots in one cut). By AI agents, Wed Nov 11 2026. No macro, syntax, notation, axiom, sorry.
-/
import Derived.Test.YtfcaikahdcpglaaDoorChecked
import GoSem.Claim
import GoSem.ClaimJoined
import GoSem.ClaimMapViews
import Derived.JoinedTies
import Derived.KernelRfl
namespace Go.Proofs.YtfcaikahdcpglaaDoor
/- THE CELL 'sum', in the pinned program and in every row, IS THE sha256 OF THE DUMP (.gsa) THAT YtfcaikahdcpglaaDoorProg.lean LOADS. Nothing in Lean hashes anything: it is a label: what it is worth is what the hold of that sum in a sandbox is worth. -/
noncomputable def Tryd.pinned : Pinned := { name := "ytfcaikahdcpglaadoor", sum := "7fba20c792e2c42f53c655bc91727fe9420be0ef3c007c5fb4f408fc9c56abf1", checked := Tryd.checked }
namespace Rows
def none {H : Type} : Left H := { results := [], args := [] }

/- WHAT THE LISTED PACKAGE-LEVEL VARIABLES READ AS WHEN THE CALL BEGINS. Each datum BY PROGRAM (the guide's laid-datum.mjs) off the statement by which the dump's own 'gosem.cut.vars' lays the variable. In a bare row this is a premise. The card (YtfcaikahdcpglaaDoorCards.lean) ties it to the program's text. -/
def laid_bandplan_antenna_quadrants {H : Type} : DataW H := .agg [.agg [.lit (.int .i64 1), .lit (.int .i64 0), .lit (.int .i64 0), .lit (.int .i64 1)], .agg [.lit (.int .i64 0), .lit (.int .i64 1), .lit (.int .i64 (-1)), .lit (.int .i64 0)], .agg [.lit (.int .i64 (-1)), .lit (.int .i64 0), .lit (.int .i64 0), .lit (.int .i64 (-1))], .agg [.lit (.int .i64 0), .lit (.int .i64 (-1)), .lit (.int .i64 1), .lit (.int .i64 0)]]

/-- 'bandplanlaw13.StationFields': WHATEVER THE INPUT: true; the input reads as it did. -/
def stationFieldsSpec : ChangeSpec := { name := "stationFields", fn := fun _ => fun
  | [d1, d2, d3] => { results := [.lit (.bool true)], args := [d1, d2, d3] }
  | _ => none }
def stationFieldsRow : OpenClaim := { program := "ytfcaikahdcpglaadoor", sum := "7fba20c792e2c42f53c655bc91727fe9420be0ef3c007c5fb4f408fc9c56abf1", func := "bandplan/bandplanlaw13.StationFields", spec := "stationFields", named := ["bandplan/antenna.quadrants"], apart := false, laid := [("bandplan/antenna.quadrants", laid_bandplan_antenna_quadrants)] }
def StationFieldsSaid : Prop := stationFieldsRow.holds Tryd.pinned (OpenSpec.ofChange stationFieldsSpec)

/-- ITS FALSE NEIGHBOUR: 'it returns false'. Refute it at one input. -/
def stationFieldsWrong : ChangeSpec := { name := "stationFields", fn := fun _ => fun
  | [d1, d2, d3] => { results := [.lit (.bool false)], args := [d1, d2, d3] }
  | _ => none }
def StationFieldsWrongFalsely : Prop := stationFieldsRow.holds Tryd.pinned (OpenSpec.ofChange stationFieldsWrong)

/-- 'bandplanlaw13.StationStrongest': WHATEVER THE INPUT: true; the input reads as it did. -/
def stationStrongestSpec : ChangeSpec := { name := "stationStrongest", fn := fun _ => fun
  | [d1, d2, d3] => { results := [.lit (.bool true)], args := [d1, d2, d3] }
  | _ => none }
def stationStrongestRow : OpenClaim := { program := "ytfcaikahdcpglaadoor", sum := "7fba20c792e2c42f53c655bc91727fe9420be0ef3c007c5fb4f408fc9c56abf1", func := "bandplan/bandplanlaw13.StationStrongest", spec := "stationStrongest", named := ["bandplan/antenna.quadrants"], apart := false, laid := [("bandplan/antenna.quadrants", laid_bandplan_antenna_quadrants)] }
def StationStrongestSaid : Prop := stationStrongestRow.holds Tryd.pinned (OpenSpec.ofChange stationStrongestSpec)

/-- ITS FALSE NEIGHBOUR: 'it returns false'. Refute it at one input. -/
def stationStrongestWrong : ChangeSpec := { name := "stationStrongest", fn := fun _ => fun
  | [d1, d2, d3] => { results := [.lit (.bool false)], args := [d1, d2, d3] }
  | _ => none }
def StationStrongestWrongFalsely : Prop := stationStrongestRow.holds Tryd.pinned (OpenSpec.ofChange stationStrongestWrong)

/-- 'bandplanlaw13.StationSorts': WHATEVER THE INPUT: true; the input reads as it did. -/
def stationSortsSpec : ChangeSpec := { name := "stationSorts", fn := fun _ => fun
  | [d1, d2] => { results := [.lit (.bool true)], args := [d1, d2] }
  | _ => none }
def stationSortsRow : OpenClaim := { program := "ytfcaikahdcpglaadoor", sum := "7fba20c792e2c42f53c655bc91727fe9420be0ef3c007c5fb4f408fc9c56abf1", func := "bandplan/bandplanlaw13.StationSorts", spec := "stationSorts", named := ["bandplan/antenna.quadrants"], apart := false, laid := [("bandplan/antenna.quadrants", laid_bandplan_antenna_quadrants)] }
def StationSortsSaid : Prop := stationSortsRow.holds Tryd.pinned (OpenSpec.ofChange stationSortsSpec)

/-- ITS FALSE NEIGHBOUR: 'it returns false'. Refute it at one input. -/
def stationSortsWrong : ChangeSpec := { name := "stationSorts", fn := fun _ => fun
  | [d1, d2] => { results := [.lit (.bool false)], args := [d1, d2] }
  | _ => none }
def StationSortsWrongFalsely : Prop := stationSortsRow.holds Tryd.pinned (OpenSpec.ofChange stationSortsWrong)

/-- 'bandplanlaw13.StationPower': WHATEVER THE INPUT: true; the input reads as it did. -/
def stationPowerSpec : ChangeSpec := { name := "stationPower", fn := fun _ => fun
  | [d1, d2, d3, d4] => { results := [.lit (.bool true)], args := [d1, d2, d3, d4] }
  | _ => none }
def stationPowerRow : OpenClaim := { program := "ytfcaikahdcpglaadoor", sum := "7fba20c792e2c42f53c655bc91727fe9420be0ef3c007c5fb4f408fc9c56abf1", func := "bandplan/bandplanlaw13.StationPower", spec := "stationPower", named := ["bandplan/antenna.quadrants"], apart := false, laid := [("bandplan/antenna.quadrants", laid_bandplan_antenna_quadrants)] }
def StationPowerSaid : Prop := stationPowerRow.holds Tryd.pinned (OpenSpec.ofChange stationPowerSpec)

/-- ITS FALSE NEIGHBOUR: 'it returns false'. Refute it at one input. -/
def stationPowerWrong : ChangeSpec := { name := "stationPower", fn := fun _ => fun
  | [d1, d2, d3, d4] => { results := [.lit (.bool false)], args := [d1, d2, d3, d4] }
  | _ => none }
def StationPowerWrongFalsely : Prop := stationPowerRow.holds Tryd.pinned (OpenSpec.ofChange stationPowerWrong)

/-- 'bandplanlaw13.StationValid': WHATEVER THE INPUT: true; the input reads as it did. -/
def stationValidSpec : ChangeSpec := { name := "stationValid", fn := fun _ => fun
  | [d1, d2, d3] => { results := [.lit (.bool true)], args := [d1, d2, d3] }
  | _ => none }
def stationValidRow : OpenClaim := { program := "ytfcaikahdcpglaadoor", sum := "7fba20c792e2c42f53c655bc91727fe9420be0ef3c007c5fb4f408fc9c56abf1", func := "bandplan/bandplanlaw13.StationValid", spec := "stationValid", named := ["bandplan/antenna.quadrants"], apart := false, laid := [("bandplan/antenna.quadrants", laid_bandplan_antenna_quadrants)] }
def StationValidSaid : Prop := stationValidRow.holds Tryd.pinned (OpenSpec.ofChange stationValidSpec)

/-- ITS FALSE NEIGHBOUR: 'it returns false'. Refute it at one input. -/
def stationValidWrong : ChangeSpec := { name := "stationValid", fn := fun _ => fun
  | [d1, d2, d3] => { results := [.lit (.bool false)], args := [d1, d2, d3] }
  | _ => none }
def StationValidWrongFalsely : Prop := stationValidRow.holds Tryd.pinned (OpenSpec.ofChange stationValidWrong)

/- THE SECOND FORM. 'bulk': how many values and letters a reading holds, each counted each time it is reached (what is shared counts as often as it is met; a slice's spare places count too). A statement '..UptoSaid' is the law's where the arguments, and the package variables that the reading takes, are together of bulk at most 1048576: NARROWER than '..Said'. Prove '..Said' where nothing that the law and all that it calls make is longer than what came in: it says more and counts as full. Else prove '..UptoSaid'. A law counts once. -/
mutual
def uptoBulk {H : Type} : DataW H → Nat
  | .lit (.string bytes) => bytes.length + 1
  | .lit _ => 1
  | .nil => 1
  | .ptr d => uptoBulk d + 1
  | .slice elems spare => uptoBulkAll elems + uptoBulkAll spare + 1
  | .agg parts => uptoBulkAll parts + 1
  | .iface _ d => uptoBulk d + 1
  | .map entries => uptoBulkEntries entries + 1
  | .held _ => 1
def uptoBulkAll {H : Type} : List (DataW H) → Nat
  | [] => 0
  | d :: r => uptoBulk d + uptoBulkAll r
def uptoBulkEntries {H : Type} : List (Lit × DataW H) → Nat
  | [] => 0
  | x :: r => uptoBulkEntry x + uptoBulkEntries r
def uptoBulkEntry {H : Type} : Lit × DataW H → Nat
  | (.string bytes, d) => bytes.length + uptoBulk d + 1
  | (_, d) => uptoBulk d + 1
 end
def uptoSmall : (H : Type) → List (DataW H) → Bool := fun _ ds => decide (uptoBulkAll ds ≤ 1048576)
def OpenSpec.upto (s : _root_.Go.ChangeSpec) : _root_.Go.OpenSpec := { _root_.Go.OpenSpec.ofChange s with cond := some uptoSmall }

/-- 'bandplanlaw13.StationFields', WHERE WHAT IT READS IS OF BULK AT MOST 1048576: true; the input reads as it did. -/
def stationFieldsUptoRow : OpenClaim := { program := "ytfcaikahdcpglaadoor", sum := "7fba20c792e2c42f53c655bc91727fe9420be0ef3c007c5fb4f408fc9c56abf1", func := "bandplan/bandplanlaw13.StationFields", spec := "stationFields", named := ["bandplan/antenna.quadrants"], apart := false, laid := [("bandplan/antenna.quadrants", laid_bandplan_antenna_quadrants)], narrowed := true }
def StationFieldsUptoSaid : Prop := stationFieldsUptoRow.holds Tryd.pinned (OpenSpec.upto stationFieldsSpec)

/-- 'bandplanlaw13.StationStrongest', WHERE WHAT IT READS IS OF BULK AT MOST 1048576: true; the input reads as it did. -/
def stationStrongestUptoRow : OpenClaim := { program := "ytfcaikahdcpglaadoor", sum := "7fba20c792e2c42f53c655bc91727fe9420be0ef3c007c5fb4f408fc9c56abf1", func := "bandplan/bandplanlaw13.StationStrongest", spec := "stationStrongest", named := ["bandplan/antenna.quadrants"], apart := false, laid := [("bandplan/antenna.quadrants", laid_bandplan_antenna_quadrants)], narrowed := true }
def StationStrongestUptoSaid : Prop := stationStrongestUptoRow.holds Tryd.pinned (OpenSpec.upto stationStrongestSpec)

/-- 'bandplanlaw13.StationSorts', WHERE WHAT IT READS IS OF BULK AT MOST 1048576: true; the input reads as it did. -/
def stationSortsUptoRow : OpenClaim := { program := "ytfcaikahdcpglaadoor", sum := "7fba20c792e2c42f53c655bc91727fe9420be0ef3c007c5fb4f408fc9c56abf1", func := "bandplan/bandplanlaw13.StationSorts", spec := "stationSorts", named := ["bandplan/antenna.quadrants"], apart := false, laid := [("bandplan/antenna.quadrants", laid_bandplan_antenna_quadrants)], narrowed := true }
def StationSortsUptoSaid : Prop := stationSortsUptoRow.holds Tryd.pinned (OpenSpec.upto stationSortsSpec)

/-- 'bandplanlaw13.StationPower', WHERE WHAT IT READS IS OF BULK AT MOST 1048576: true; the input reads as it did. -/
def stationPowerUptoRow : OpenClaim := { program := "ytfcaikahdcpglaadoor", sum := "7fba20c792e2c42f53c655bc91727fe9420be0ef3c007c5fb4f408fc9c56abf1", func := "bandplan/bandplanlaw13.StationPower", spec := "stationPower", named := ["bandplan/antenna.quadrants"], apart := false, laid := [("bandplan/antenna.quadrants", laid_bandplan_antenna_quadrants)], narrowed := true }
def StationPowerUptoSaid : Prop := stationPowerUptoRow.holds Tryd.pinned (OpenSpec.upto stationPowerSpec)

/-- 'bandplanlaw13.StationValid', WHERE WHAT IT READS IS OF BULK AT MOST 1048576: true; the input reads as it did. -/
def stationValidUptoRow : OpenClaim := { program := "ytfcaikahdcpglaadoor", sum := "7fba20c792e2c42f53c655bc91727fe9420be0ef3c007c5fb4f408fc9c56abf1", func := "bandplan/bandplanlaw13.StationValid", spec := "stationValid", named := ["bandplan/antenna.quadrants"], apart := false, laid := [("bandplan/antenna.quadrants", laid_bandplan_antenna_quadrants)], narrowed := true }
def StationValidUptoSaid : Prop := stationValidUptoRow.holds Tryd.pinned (OpenSpec.upto stationValidSpec)

end Rows
end Go.Proofs.YtfcaikahdcpglaaDoor
