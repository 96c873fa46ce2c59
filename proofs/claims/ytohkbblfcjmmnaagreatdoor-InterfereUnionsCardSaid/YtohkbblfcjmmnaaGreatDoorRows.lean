/-
  NARROWER THAN 'FOR EVERY INPUT', by the rows' own cells (each row's printed sentence says how): InterfereHits: laid · InterfereCells: laid · InterfereExceeds: laid · InterfereUnions: laid · InterfereHolds: laid.
  DERIVED. THE GIVEN ROWS OF THIS SEAT. 5 by the template 'for every input the law returns true; each argument reads behind the call as it read before'; 0 by the template 'total and deterministic' (their statements: YtohkbblfcjmmnaaGreatDoorTotals.lean).
  GIVEN WITH THE SEED: the statements are not yours to turn. If you find one false, say at which input.
  Laid BY PROGRAM, IN A SANDBOX (cutbox-rows.mjs): the forced cells as the released guide's own fill.sh prints them over the translation d7d1c02cd130536c… (all of the seat's roots in one cut). By AI agents, Wed Nov 11 2026. No macro, syntax, notation, axiom, sorry.
-/
import Derived.Test.YtohkbblfcjmmnaaGreatDoorChecked
import GoSem.Claim
import GoSem.ClaimJoined
import GoSem.ClaimMapViews
import Derived.JoinedTies
import Derived.KernelRfl
namespace Go.Proofs.YtohkbblfcjmmnaaGreatDoor
/- THE CELL 'sum', in the pinned program and in every row, IS THE sha256 OF THE DUMP (.gsa) THAT YtohkbblfcjmmnaaGreatDoorProg.lean LOADS. Nothing in Lean hashes anything: it is a label: what it is worth is what the hold of that sum in a sandbox is worth. -/
noncomputable def Tryz.pinned : Pinned := { name := "ytohkbblfcjmmnaagreatdoor", sum := "d7d1c02cd130536cfb8c6a4f9b083e21e9b49d0701af1048a97f6b9bd7f18159", checked := Tryz.checked }
namespace Rows
def none {H : Type} : Left H := { results := [], args := [] }

/- WHAT THE LISTED PACKAGE-LEVEL VARIABLES READ AS WHEN THE CALL BEGINS. Each datum BY PROGRAM (the guide's laid-datum.mjs) off the statement by which the dump's own 'gosem.cut.vars' lays the variable. In a bare row this is a premise. The card (YtohkbblfcjmmnaaGreatDoorCards.lean) ties it to the program's text. -/
def laid_bandplan_antenna_quadrants {H : Type} : DataW H := .agg [.agg [.lit (.int .i64 1), .lit (.int .i64 0), .lit (.int .i64 0), .lit (.int .i64 1)], .agg [.lit (.int .i64 0), .lit (.int .i64 1), .lit (.int .i64 (-1)), .lit (.int .i64 0)], .agg [.lit (.int .i64 (-1)), .lit (.int .i64 0), .lit (.int .i64 0), .lit (.int .i64 (-1))], .agg [.lit (.int .i64 0), .lit (.int .i64 (-1)), .lit (.int .i64 1), .lit (.int .i64 0)]]

/-- 'bandplanlaw15.InterfereHits': WHATEVER THE INPUT: true; the input reads as it did. -/
def interfereHitsSpec : ChangeSpec := { name := "interfereHits", fn := fun _ => fun
  | [d1, d2, d3, d4, d5] => { results := [.lit (.bool true)], args := [d1, d2, d3, d4, d5] }
  | _ => none }
def interfereHitsRow : OpenClaim := { program := "ytohkbblfcjmmnaagreatdoor", sum := "d7d1c02cd130536cfb8c6a4f9b083e21e9b49d0701af1048a97f6b9bd7f18159", func := "bandplan/bandplanlaw15.InterfereHits", spec := "interfereHits", unfollowed := true, recurses := true, named := ["bandplan/antenna.quadrants"], plainKeys := false, apart := false, laid := [("bandplan/antenna.quadrants", laid_bandplan_antenna_quadrants)] }
def InterfereHitsSaid : Prop := interfereHitsRow.holds Tryz.pinned (OpenSpec.ofChange interfereHitsSpec)

/-- ITS FALSE NEIGHBOUR: 'it returns false'. Refute it at one input. -/
def interfereHitsWrong : ChangeSpec := { name := "interfereHits", fn := fun _ => fun
  | [d1, d2, d3, d4, d5] => { results := [.lit (.bool false)], args := [d1, d2, d3, d4, d5] }
  | _ => none }
def InterfereHitsWrongFalsely : Prop := interfereHitsRow.holds Tryz.pinned (OpenSpec.ofChange interfereHitsWrong)

/-- 'bandplanlaw15.InterfereCells': WHATEVER THE INPUT: true; the input reads as it did. -/
def interfereCellsSpec : ChangeSpec := { name := "interfereCells", fn := fun _ => fun
  | [d1, d2, d3, d4] => { results := [.lit (.bool true)], args := [d1, d2, d3, d4] }
  | _ => none }
def interfereCellsRow : OpenClaim := { program := "ytohkbblfcjmmnaagreatdoor", sum := "d7d1c02cd130536cfb8c6a4f9b083e21e9b49d0701af1048a97f6b9bd7f18159", func := "bandplan/bandplanlaw15.InterfereCells", spec := "interfereCells", unfollowed := true, recurses := true, named := ["bandplan/antenna.quadrants"], plainKeys := false, apart := false, laid := [("bandplan/antenna.quadrants", laid_bandplan_antenna_quadrants)] }
def InterfereCellsSaid : Prop := interfereCellsRow.holds Tryz.pinned (OpenSpec.ofChange interfereCellsSpec)

/-- ITS FALSE NEIGHBOUR: 'it returns false'. Refute it at one input. -/
def interfereCellsWrong : ChangeSpec := { name := "interfereCells", fn := fun _ => fun
  | [d1, d2, d3, d4] => { results := [.lit (.bool false)], args := [d1, d2, d3, d4] }
  | _ => none }
def InterfereCellsWrongFalsely : Prop := interfereCellsRow.holds Tryz.pinned (OpenSpec.ofChange interfereCellsWrong)

/-- 'bandplanlaw15.InterfereExceeds': WHATEVER THE INPUT: true; the input reads as it did. -/
def interfereExceedsSpec : ChangeSpec := { name := "interfereExceeds", fn := fun _ => fun
  | [d1, d2, d3, d4, d5] => { results := [.lit (.bool true)], args := [d1, d2, d3, d4, d5] }
  | _ => none }
def interfereExceedsRow : OpenClaim := { program := "ytohkbblfcjmmnaagreatdoor", sum := "d7d1c02cd130536cfb8c6a4f9b083e21e9b49d0701af1048a97f6b9bd7f18159", func := "bandplan/bandplanlaw15.InterfereExceeds", spec := "interfereExceeds", unfollowed := true, recurses := true, named := ["bandplan/antenna.quadrants"], plainKeys := false, apart := false, laid := [("bandplan/antenna.quadrants", laid_bandplan_antenna_quadrants)] }
def InterfereExceedsSaid : Prop := interfereExceedsRow.holds Tryz.pinned (OpenSpec.ofChange interfereExceedsSpec)

/-- ITS FALSE NEIGHBOUR: 'it returns false'. Refute it at one input. -/
def interfereExceedsWrong : ChangeSpec := { name := "interfereExceeds", fn := fun _ => fun
  | [d1, d2, d3, d4, d5] => { results := [.lit (.bool false)], args := [d1, d2, d3, d4, d5] }
  | _ => none }
def InterfereExceedsWrongFalsely : Prop := interfereExceedsRow.holds Tryz.pinned (OpenSpec.ofChange interfereExceedsWrong)

/-- 'bandplanlaw15.InterfereUnions': WHATEVER THE INPUT: true; the input reads as it did. -/
def interfereUnionsSpec : ChangeSpec := { name := "interfereUnions", fn := fun _ => fun
  | [d1, d2, d3] => { results := [.lit (.bool true)], args := [d1, d2, d3] }
  | _ => none }
def interfereUnionsRow : OpenClaim := { program := "ytohkbblfcjmmnaagreatdoor", sum := "d7d1c02cd130536cfb8c6a4f9b083e21e9b49d0701af1048a97f6b9bd7f18159", func := "bandplan/bandplanlaw15.InterfereUnions", spec := "interfereUnions", unfollowed := true, recurses := true, named := ["bandplan/antenna.quadrants"], plainKeys := false, apart := false, laid := [("bandplan/antenna.quadrants", laid_bandplan_antenna_quadrants)] }
def InterfereUnionsSaid : Prop := interfereUnionsRow.holds Tryz.pinned (OpenSpec.ofChange interfereUnionsSpec)

/-- ITS FALSE NEIGHBOUR: 'it returns false'. Refute it at one input. -/
def interfereUnionsWrong : ChangeSpec := { name := "interfereUnions", fn := fun _ => fun
  | [d1, d2, d3] => { results := [.lit (.bool false)], args := [d1, d2, d3] }
  | _ => none }
def InterfereUnionsWrongFalsely : Prop := interfereUnionsRow.holds Tryz.pinned (OpenSpec.ofChange interfereUnionsWrong)

/-- 'bandplanlaw15.InterfereHolds': WHATEVER THE INPUT: true; the input reads as it did. -/
def interfereHoldsSpec : ChangeSpec := { name := "interfereHolds", fn := fun _ => fun
  | [d1, d2, d3, d4] => { results := [.lit (.bool true)], args := [d1, d2, d3, d4] }
  | _ => none }
def interfereHoldsRow : OpenClaim := { program := "ytohkbblfcjmmnaagreatdoor", sum := "d7d1c02cd130536cfb8c6a4f9b083e21e9b49d0701af1048a97f6b9bd7f18159", func := "bandplan/bandplanlaw15.InterfereHolds", spec := "interfereHolds", unfollowed := true, recurses := true, named := ["bandplan/antenna.quadrants"], plainKeys := false, apart := false, laid := [("bandplan/antenna.quadrants", laid_bandplan_antenna_quadrants)] }
def InterfereHoldsSaid : Prop := interfereHoldsRow.holds Tryz.pinned (OpenSpec.ofChange interfereHoldsSpec)

/-- ITS FALSE NEIGHBOUR: 'it returns false'. Refute it at one input. -/
def interfereHoldsWrong : ChangeSpec := { name := "interfereHolds", fn := fun _ => fun
  | [d1, d2, d3, d4] => { results := [.lit (.bool false)], args := [d1, d2, d3, d4] }
  | _ => none }
def InterfereHoldsWrongFalsely : Prop := interfereHoldsRow.holds Tryz.pinned (OpenSpec.ofChange interfereHoldsWrong)

/- THE SECOND FORM. 'bulk': how many values and letters a reading holds, each counted each time it is reached (what is shared counts as often as it is met; a slice's spare places count too). A statement '..UptoSaid' is the law's where the arguments, and the package variables that the reading takes, are together of bulk at most 1048576: NARROWER than '..Said'. Prove '..Said' where nothing that the law and all that it calls make is longer than what came in: it says more and counts as full. Else prove '..UptoSaid'. A law counts once. -/
mutual
def uptoBulk {H : Type} : DataW H → Nat
  | .lit (.string bytes) => bytes.length + 1
  | .lit _ => 1
  | .nil => 1
  | .ptr d => uptoBulk d + 1
  | .slice elems spare => uptoBulkAll elems + uptoBulkAll spare + 1
  | .agg parts => uptoBulkAll parts + 1
  | .iface _ d => uptoBulk d + 1
  | .map entries => uptoBulkEntries entries + 1
  | .held _ => 1
def uptoBulkAll {H : Type} : List (DataW H) → Nat
  | [] => 0
  | d :: r => uptoBulk d + uptoBulkAll r
def uptoBulkEntries {H : Type} : List (Lit × DataW H) → Nat
  | [] => 0
  | x :: r => uptoBulkEntry x + uptoBulkEntries r
def uptoBulkEntry {H : Type} : Lit × DataW H → Nat
  | (.string bytes, d) => bytes.length + uptoBulk d + 1
  | (_, d) => uptoBulk d + 1
 end
def uptoSmall : (H : Type) → List (DataW H) → Bool := fun _ ds => decide (uptoBulkAll ds ≤ 1048576)
def OpenSpec.upto (s : _root_.Go.ChangeSpec) : _root_.Go.OpenSpec := { _root_.Go.OpenSpec.ofChange s with cond := some uptoSmall }

/-- 'bandplanlaw15.InterfereHits', WHERE WHAT IT READS IS OF BULK AT MOST 1048576: true; the input reads as it did. -/
def interfereHitsUptoRow : OpenClaim := { program := "ytohkbblfcjmmnaagreatdoor", sum := "d7d1c02cd130536cfb8c6a4f9b083e21e9b49d0701af1048a97f6b9bd7f18159", func := "bandplan/bandplanlaw15.InterfereHits", spec := "interfereHits", unfollowed := true, recurses := true, named := ["bandplan/antenna.quadrants"], plainKeys := false, apart := false, laid := [("bandplan/antenna.quadrants", laid_bandplan_antenna_quadrants)], narrowed := true }
def InterfereHitsUptoSaid : Prop := interfereHitsUptoRow.holds Tryz.pinned (OpenSpec.upto interfereHitsSpec)

/-- 'bandplanlaw15.InterfereCells', WHERE WHAT IT READS IS OF BULK AT MOST 1048576: true; the input reads as it did. -/
def interfereCellsUptoRow : OpenClaim := { program := "ytohkbblfcjmmnaagreatdoor", sum := "d7d1c02cd130536cfb8c6a4f9b083e21e9b49d0701af1048a97f6b9bd7f18159", func := "bandplan/bandplanlaw15.InterfereCells", spec := "interfereCells", unfollowed := true, recurses := true, named := ["bandplan/antenna.quadrants"], plainKeys := false, apart := false, laid := [("bandplan/antenna.quadrants", laid_bandplan_antenna_quadrants)], narrowed := true }
def InterfereCellsUptoSaid : Prop := interfereCellsUptoRow.holds Tryz.pinned (OpenSpec.upto interfereCellsSpec)

/-- 'bandplanlaw15.InterfereExceeds', WHERE WHAT IT READS IS OF BULK AT MOST 1048576: true; the input reads as it did. -/
def interfereExceedsUptoRow : OpenClaim := { program := "ytohkbblfcjmmnaagreatdoor", sum := "d7d1c02cd130536cfb8c6a4f9b083e21e9b49d0701af1048a97f6b9bd7f18159", func := "bandplan/bandplanlaw15.InterfereExceeds", spec := "interfereExceeds", unfollowed := true, recurses := true, named := ["bandplan/antenna.quadrants"], plainKeys := false, apart := false, laid := [("bandplan/antenna.quadrants", laid_bandplan_antenna_quadrants)], narrowed := true }
def InterfereExceedsUptoSaid : Prop := interfereExceedsUptoRow.holds Tryz.pinned (OpenSpec.upto interfereExceedsSpec)

/-- 'bandplanlaw15.InterfereUnions', WHERE WHAT IT READS IS OF BULK AT MOST 1048576: true; the input reads as it did. -/
def interfereUnionsUptoRow : OpenClaim := { program := "ytohkbblfcjmmnaagreatdoor", sum := "d7d1c02cd130536cfb8c6a4f9b083e21e9b49d0701af1048a97f6b9bd7f18159", func := "bandplan/bandplanlaw15.InterfereUnions", spec := "interfereUnions", unfollowed := true, recurses := true, named := ["bandplan/antenna.quadrants"], plainKeys := false, apart := false, laid := [("bandplan/antenna.quadrants", laid_bandplan_antenna_quadrants)], narrowed := true }
def InterfereUnionsUptoSaid : Prop := interfereUnionsUptoRow.holds Tryz.pinned (OpenSpec.upto interfereUnionsSpec)

/-- 'bandplanlaw15.InterfereHolds', WHERE WHAT IT READS IS OF BULK AT MOST 1048576: true; the input reads as it did. -/
def interfereHoldsUptoRow : OpenClaim := { program := "ytohkbblfcjmmnaagreatdoor", sum := "d7d1c02cd130536cfb8c6a4f9b083e21e9b49d0701af1048a97f6b9bd7f18159", func := "bandplan/bandplanlaw15.InterfereHolds", spec := "interfereHolds", unfollowed := true, recurses := true, named := ["bandplan/antenna.quadrants"], plainKeys := false, apart := false, laid := [("bandplan/antenna.quadrants", laid_bandplan_antenna_quadrants)], narrowed := true }
def InterfereHoldsUptoSaid : Prop := interfereHoldsUptoRow.holds Tryz.pinned (OpenSpec.upto interfereHoldsSpec)

end Rows
end Go.Proofs.YtohkbblfcjmmnaaGreatDoor
