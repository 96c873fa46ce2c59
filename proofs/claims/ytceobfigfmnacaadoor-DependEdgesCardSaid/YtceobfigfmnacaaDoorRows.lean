/-
  NARROWER THAN 'FOR EVERY INPUT', by the rows' own cells (each row's printed sentence says how): DependForbids: laid · DependGroups: laid · DependLegal: laid · DependHolds: laid · DependFull: laid · DependEdges: laid.
  DERIVED. THE GIVEN ROWS OF THIS SEAT. 6 by the template 'for every input the law returns true; each argument reads behind the call as it read before'; 0 by the template 'total and deterministic' (their statements: YtceobfigfmnacaaDoorTotals.lean).
  GIVEN WITH THE SEED: the statements are not yours to turn. If you find one false, say at which input.
  Laid BY PROGRAM, IN A SANDBOX (cutbox-rows.mjs): the forced cells as the released guide's own fill.sh prints them over the translation c56a41fc1bf885bb… (all of the seat's roots in one cut). By AI agents, Wed Nov 11 2026. No macro, syntax, notation, axiom, sorry.
-/
import Derived.Test.YtceobfigfmnacaaDoorChecked
import GoSem.Claim
import GoSem.ClaimJoined
import GoSem.ClaimMapViews
import Derived.JoinedTies
import Derived.KernelRfl
namespace Go.Proofs.YtceobfigfmnacaaDoor
/- THE CELL 'sum', in the pinned program and in every row, IS THE sha256 OF THE DUMP (.gsa) THAT YtceobfigfmnacaaDoorProg.lean LOADS. Nothing in Lean hashes anything: it is a label: what it is worth is what the hold of that sum in a sandbox is worth. -/
noncomputable def Tryd.pinned : Pinned := { name := "ytceobfigfmnacaadoor", sum := "c56a41fc1bf885bb567720350a806163e48f970e4ea506ce09e7eae375c917d0", checked := Tryd.checked }
namespace Rows
def none {H : Type} : Left H := { results := [], args := [] }

/- WHAT THE LISTED PACKAGE-LEVEL VARIABLES READ AS WHEN THE CALL BEGINS. Each datum BY PROGRAM (the guide's laid-datum.mjs) off the statement by which the dump's own 'gosem.cut.vars' lays the variable. In a bare row this is a premise. The card (YtceobfigfmnacaaDoorCards.lean) ties it to the program's text. -/
def laid_math_bits_deBruijn64tab {H : Type} : DataW H := .agg [.lit (.int .u8 0), .lit (.int .u8 1), .lit (.int .u8 56), .lit (.int .u8 2), .lit (.int .u8 57), .lit (.int .u8 49), .lit (.int .u8 28), .lit (.int .u8 3), .lit (.int .u8 61), .lit (.int .u8 58), .lit (.int .u8 42), .lit (.int .u8 50), .lit (.int .u8 38), .lit (.int .u8 29), .lit (.int .u8 17), .lit (.int .u8 4), .lit (.int .u8 62), .lit (.int .u8 47), .lit (.int .u8 59), .lit (.int .u8 36), .lit (.int .u8 45), .lit (.int .u8 43), .lit (.int .u8 51), .lit (.int .u8 22), .lit (.int .u8 53), .lit (.int .u8 39), .lit (.int .u8 33), .lit (.int .u8 30), .lit (.int .u8 24), .lit (.int .u8 18), .lit (.int .u8 12), .lit (.int .u8 5), .lit (.int .u8 63), .lit (.int .u8 55), .lit (.int .u8 48), .lit (.int .u8 27), .lit (.int .u8 60), .lit (.int .u8 41), .lit (.int .u8 37), .lit (.int .u8 16), .lit (.int .u8 46), .lit (.int .u8 35), .lit (.int .u8 44), .lit (.int .u8 21), .lit (.int .u8 52), .lit (.int .u8 32), .lit (.int .u8 23), .lit (.int .u8 11), .lit (.int .u8 54), .lit (.int .u8 26), .lit (.int .u8 40), .lit (.int .u8 15), .lit (.int .u8 34), .lit (.int .u8 20), .lit (.int .u8 31), .lit (.int .u8 10), .lit (.int .u8 25), .lit (.int .u8 14), .lit (.int .u8 19), .lit (.int .u8 9), .lit (.int .u8 13), .lit (.int .u8 8), .lit (.int .u8 7), .lit (.int .u8 6)]

/-- 'bandplanlaw47.DependForbids': WHATEVER THE INPUT: true; the input reads as it did. -/
def dependForbidsSpec : ChangeSpec := { name := "dependForbids", fn := fun _ => fun
  | [d1, d2, d3, d4, d5] => { results := [.lit (.bool true)], args := [d1, d2, d3, d4, d5] }
  | _ => none }
def dependForbidsRow : OpenClaim := { program := "ytceobfigfmnacaadoor", sum := "c56a41fc1bf885bb567720350a806163e48f970e4ea506ce09e7eae375c917d0", func := "bandplan/bandplanlaw47.DependForbids", spec := "dependForbids", unfollowed := true, recurses := true, named := ["math/bits.deBruijn64tab"], plainKeys := false, apart := false, laid := [("math/bits.deBruijn64tab", laid_math_bits_deBruijn64tab)] }
def DependForbidsSaid : Prop := dependForbidsRow.holds Tryd.pinned (OpenSpec.ofChange dependForbidsSpec)

/-- ITS FALSE NEIGHBOUR: 'it returns false'. Refute it at one input. -/
def dependForbidsWrong : ChangeSpec := { name := "dependForbids", fn := fun _ => fun
  | [d1, d2, d3, d4, d5] => { results := [.lit (.bool false)], args := [d1, d2, d3, d4, d5] }
  | _ => none }
def DependForbidsWrongFalsely : Prop := dependForbidsRow.holds Tryd.pinned (OpenSpec.ofChange dependForbidsWrong)

/-- 'bandplanlaw47.DependGroups': WHATEVER THE INPUT: true; the input reads as it did. -/
def dependGroupsSpec : ChangeSpec := { name := "dependGroups", fn := fun _ => fun
  | [d1, d2, d3] => { results := [.lit (.bool true)], args := [d1, d2, d3] }
  | _ => none }
def dependGroupsRow : OpenClaim := { program := "ytceobfigfmnacaadoor", sum := "c56a41fc1bf885bb567720350a806163e48f970e4ea506ce09e7eae375c917d0", func := "bandplan/bandplanlaw47.DependGroups", spec := "dependGroups", unfollowed := true, recurses := true, named := ["math/bits.deBruijn64tab"], plainKeys := false, apart := false, laid := [("math/bits.deBruijn64tab", laid_math_bits_deBruijn64tab)] }
def DependGroupsSaid : Prop := dependGroupsRow.holds Tryd.pinned (OpenSpec.ofChange dependGroupsSpec)

/-- ITS FALSE NEIGHBOUR: 'it returns false'. Refute it at one input. -/
def dependGroupsWrong : ChangeSpec := { name := "dependGroups", fn := fun _ => fun
  | [d1, d2, d3] => { results := [.lit (.bool false)], args := [d1, d2, d3] }
  | _ => none }
def DependGroupsWrongFalsely : Prop := dependGroupsRow.holds Tryd.pinned (OpenSpec.ofChange dependGroupsWrong)

/-- 'bandplanlaw47.DependLegal': WHATEVER THE INPUT: true; the input reads as it did. -/
def dependLegalSpec : ChangeSpec := { name := "dependLegal", fn := fun _ => fun
  | [d1, d2, d3] => { results := [.lit (.bool true)], args := [d1, d2, d3] }
  | _ => none }
def dependLegalRow : OpenClaim := { program := "ytceobfigfmnacaadoor", sum := "c56a41fc1bf885bb567720350a806163e48f970e4ea506ce09e7eae375c917d0", func := "bandplan/bandplanlaw47.DependLegal", spec := "dependLegal", unfollowed := true, recurses := true, named := ["math/bits.deBruijn64tab"], plainKeys := false, apart := false, laid := [("math/bits.deBruijn64tab", laid_math_bits_deBruijn64tab)] }
def DependLegalSaid : Prop := dependLegalRow.holds Tryd.pinned (OpenSpec.ofChange dependLegalSpec)

/-- ITS FALSE NEIGHBOUR: 'it returns false'. Refute it at one input. -/
def dependLegalWrong : ChangeSpec := { name := "dependLegal", fn := fun _ => fun
  | [d1, d2, d3] => { results := [.lit (.bool false)], args := [d1, d2, d3] }
  | _ => none }
def DependLegalWrongFalsely : Prop := dependLegalRow.holds Tryd.pinned (OpenSpec.ofChange dependLegalWrong)

/-- 'bandplanlaw47.DependHolds': WHATEVER THE INPUT: true; the input reads as it did. -/
def dependHoldsSpec : ChangeSpec := { name := "dependHolds", fn := fun _ => fun
  | [d1, d2, d3] => { results := [.lit (.bool true)], args := [d1, d2, d3] }
  | _ => none }
def dependHoldsRow : OpenClaim := { program := "ytceobfigfmnacaadoor", sum := "c56a41fc1bf885bb567720350a806163e48f970e4ea506ce09e7eae375c917d0", func := "bandplan/bandplanlaw47.DependHolds", spec := "dependHolds", unfollowed := true, recurses := true, named := ["math/bits.deBruijn64tab"], plainKeys := false, apart := false, laid := [("math/bits.deBruijn64tab", laid_math_bits_deBruijn64tab)] }
def DependHoldsSaid : Prop := dependHoldsRow.holds Tryd.pinned (OpenSpec.ofChange dependHoldsSpec)

/-- ITS FALSE NEIGHBOUR: 'it returns false'. Refute it at one input. -/
def dependHoldsWrong : ChangeSpec := { name := "dependHolds", fn := fun _ => fun
  | [d1, d2, d3] => { results := [.lit (.bool false)], args := [d1, d2, d3] }
  | _ => none }
def DependHoldsWrongFalsely : Prop := dependHoldsRow.holds Tryd.pinned (OpenSpec.ofChange dependHoldsWrong)

/-- 'bandplanlaw47.DependFull': WHATEVER THE INPUT: true; the input reads as it did. -/
def dependFullSpec : ChangeSpec := { name := "dependFull", fn := fun _ => fun
  | [d1, d2, d3] => { results := [.lit (.bool true)], args := [d1, d2, d3] }
  | _ => none }
def dependFullRow : OpenClaim := { program := "ytceobfigfmnacaadoor", sum := "c56a41fc1bf885bb567720350a806163e48f970e4ea506ce09e7eae375c917d0", func := "bandplan/bandplanlaw47.DependFull", spec := "dependFull", unfollowed := true, recurses := true, named := ["math/bits.deBruijn64tab"], plainKeys := false, apart := false, laid := [("math/bits.deBruijn64tab", laid_math_bits_deBruijn64tab)] }
def DependFullSaid : Prop := dependFullRow.holds Tryd.pinned (OpenSpec.ofChange dependFullSpec)

/-- ITS FALSE NEIGHBOUR: 'it returns false'. Refute it at one input. -/
def dependFullWrong : ChangeSpec := { name := "dependFull", fn := fun _ => fun
  | [d1, d2, d3] => { results := [.lit (.bool false)], args := [d1, d2, d3] }
  | _ => none }
def DependFullWrongFalsely : Prop := dependFullRow.holds Tryd.pinned (OpenSpec.ofChange dependFullWrong)

/-- 'bandplanlaw47.DependEdges': WHATEVER THE INPUT: true; the input reads as it did. -/
def dependEdgesSpec : ChangeSpec := { name := "dependEdges", fn := fun _ => fun
  | [d1, d2, d3] => { results := [.lit (.bool true)], args := [d1, d2, d3] }
  | _ => none }
def dependEdgesRow : OpenClaim := { program := "ytceobfigfmnacaadoor", sum := "c56a41fc1bf885bb567720350a806163e48f970e4ea506ce09e7eae375c917d0", func := "bandplan/bandplanlaw47.DependEdges", spec := "dependEdges", unfollowed := true, recurses := true, named := ["math/bits.deBruijn64tab"], plainKeys := false, apart := false, laid := [("math/bits.deBruijn64tab", laid_math_bits_deBruijn64tab)] }
def DependEdgesSaid : Prop := dependEdgesRow.holds Tryd.pinned (OpenSpec.ofChange dependEdgesSpec)

/-- ITS FALSE NEIGHBOUR: 'it returns false'. Refute it at one input. -/
def dependEdgesWrong : ChangeSpec := { name := "dependEdges", fn := fun _ => fun
  | [d1, d2, d3] => { results := [.lit (.bool false)], args := [d1, d2, d3] }
  | _ => none }
def DependEdgesWrongFalsely : Prop := dependEdgesRow.holds Tryd.pinned (OpenSpec.ofChange dependEdgesWrong)

/- THE SECOND FORM. 'bulk': how many values and letters a reading holds, each counted each time it is reached (what is shared counts as often as it is met; a slice's spare places count too). A statement '..UptoSaid' is the law's where the arguments, and the package variables that the reading takes, are together of bulk at most 1048576: NARROWER than '..Said'. Prove '..Said' where nothing that the law and all that it calls make is longer than what came in: it says more and counts as full. Else prove '..UptoSaid'. A law counts once. -/
mutual
def uptoBulk {H : Type} : DataW H → Nat
  | .lit (.string bytes) => bytes.length + 1
  | .lit _ => 1
  | .nil => 1
  | .ptr d => uptoBulk d + 1
  | .slice elems spare => uptoBulkAll elems + uptoBulkAll spare + 1
  | .agg parts => uptoBulkAll parts + 1
  | .iface _ d => uptoBulk d + 1
  | .map entries => uptoBulkEntries entries + 1
  | .held _ => 1
def uptoBulkAll {H : Type} : List (DataW H) → Nat
  | [] => 0
  | d :: r => uptoBulk d + uptoBulkAll r
def uptoBulkEntries {H : Type} : List (Lit × DataW H) → Nat
  | [] => 0
  | x :: r => uptoBulkEntry x + uptoBulkEntries r
def uptoBulkEntry {H : Type} : Lit × DataW H → Nat
  | (.string bytes, d) => bytes.length + uptoBulk d + 1
  | (_, d) => uptoBulk d + 1
 end
def uptoSmall : (H : Type) → List (DataW H) → Bool := fun _ ds => decide (uptoBulkAll ds ≤ 1048576)
def OpenSpec.upto (s : _root_.Go.ChangeSpec) : _root_.Go.OpenSpec := { _root_.Go.OpenSpec.ofChange s with cond := some uptoSmall }

/-- 'bandplanlaw47.DependForbids', WHERE WHAT IT READS IS OF BULK AT MOST 1048576: true; the input reads as it did. -/
def dependForbidsUptoRow : OpenClaim := { program := "ytceobfigfmnacaadoor", sum := "c56a41fc1bf885bb567720350a806163e48f970e4ea506ce09e7eae375c917d0", func := "bandplan/bandplanlaw47.DependForbids", spec := "dependForbids", unfollowed := true, recurses := true, named := ["math/bits.deBruijn64tab"], plainKeys := false, apart := false, laid := [("math/bits.deBruijn64tab", laid_math_bits_deBruijn64tab)], narrowed := true }
def DependForbidsUptoSaid : Prop := dependForbidsUptoRow.holds Tryd.pinned (OpenSpec.upto dependForbidsSpec)

/-- 'bandplanlaw47.DependGroups', WHERE WHAT IT READS IS OF BULK AT MOST 1048576: true; the input reads as it did. -/
def dependGroupsUptoRow : OpenClaim := { program := "ytceobfigfmnacaadoor", sum := "c56a41fc1bf885bb567720350a806163e48f970e4ea506ce09e7eae375c917d0", func := "bandplan/bandplanlaw47.DependGroups", spec := "dependGroups", unfollowed := true, recurses := true, named := ["math/bits.deBruijn64tab"], plainKeys := false, apart := false, laid := [("math/bits.deBruijn64tab", laid_math_bits_deBruijn64tab)], narrowed := true }
def DependGroupsUptoSaid : Prop := dependGroupsUptoRow.holds Tryd.pinned (OpenSpec.upto dependGroupsSpec)

/-- 'bandplanlaw47.DependLegal', WHERE WHAT IT READS IS OF BULK AT MOST 1048576: true; the input reads as it did. -/
def dependLegalUptoRow : OpenClaim := { program := "ytceobfigfmnacaadoor", sum := "c56a41fc1bf885bb567720350a806163e48f970e4ea506ce09e7eae375c917d0", func := "bandplan/bandplanlaw47.DependLegal", spec := "dependLegal", unfollowed := true, recurses := true, named := ["math/bits.deBruijn64tab"], plainKeys := false, apart := false, laid := [("math/bits.deBruijn64tab", laid_math_bits_deBruijn64tab)], narrowed := true }
def DependLegalUptoSaid : Prop := dependLegalUptoRow.holds Tryd.pinned (OpenSpec.upto dependLegalSpec)

/-- 'bandplanlaw47.DependHolds', WHERE WHAT IT READS IS OF BULK AT MOST 1048576: true; the input reads as it did. -/
def dependHoldsUptoRow : OpenClaim := { program := "ytceobfigfmnacaadoor", sum := "c56a41fc1bf885bb567720350a806163e48f970e4ea506ce09e7eae375c917d0", func := "bandplan/bandplanlaw47.DependHolds", spec := "dependHolds", unfollowed := true, recurses := true, named := ["math/bits.deBruijn64tab"], plainKeys := false, apart := false, laid := [("math/bits.deBruijn64tab", laid_math_bits_deBruijn64tab)], narrowed := true }
def DependHoldsUptoSaid : Prop := dependHoldsUptoRow.holds Tryd.pinned (OpenSpec.upto dependHoldsSpec)

/-- 'bandplanlaw47.DependFull', WHERE WHAT IT READS IS OF BULK AT MOST 1048576: true; the input reads as it did. -/
def dependFullUptoRow : OpenClaim := { program := "ytceobfigfmnacaadoor", sum := "c56a41fc1bf885bb567720350a806163e48f970e4ea506ce09e7eae375c917d0", func := "bandplan/bandplanlaw47.DependFull", spec := "dependFull", unfollowed := true, recurses := true, named := ["math/bits.deBruijn64tab"], plainKeys := false, apart := false, laid := [("math/bits.deBruijn64tab", laid_math_bits_deBruijn64tab)], narrowed := true }
def DependFullUptoSaid : Prop := dependFullUptoRow.holds Tryd.pinned (OpenSpec.upto dependFullSpec)

/-- 'bandplanlaw47.DependEdges', WHERE WHAT IT READS IS OF BULK AT MOST 1048576: true; the input reads as it did. -/
def dependEdgesUptoRow : OpenClaim := { program := "ytceobfigfmnacaadoor", sum := "c56a41fc1bf885bb567720350a806163e48f970e4ea506ce09e7eae375c917d0", func := "bandplan/bandplanlaw47.DependEdges", spec := "dependEdges", unfollowed := true, recurses := true, named := ["math/bits.deBruijn64tab"], plainKeys := false, apart := false, laid := [("math/bits.deBruijn64tab", laid_math_bits_deBruijn64tab)], narrowed := true }
def DependEdgesUptoSaid : Prop := dependEdgesUptoRow.holds Tryd.pinned (OpenSpec.upto dependEdgesSpec)

end Rows
end Go.Proofs.YtceobfigfmnacaaDoor
