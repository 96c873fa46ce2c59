/-
  NARROWER THAN 'FOR EVERY INPUT', by the rows' own cells (each row's printed sentence says how): GraphComponents: laid · GraphBlocks: laid · GraphRemoves: laid · GraphColours: laid · GraphTheory: laid · GraphAdds: laid · GraphCopies: laid · GraphNone: laid.
  DERIVED. THE GIVEN ROWS OF THIS SEAT. 8 by the template 'for every input the law returns true; each argument reads behind the call as it read before'; 0 by the template 'total and deterministic' (their statements: YtjoomgojnpcbeaaDoorTotals.lean).
  GIVEN WITH THE SEED: the statements are not yours to turn. If you find one false, say at which input.
  Laid BY PROGRAM, IN A SANDBOX (cutbox-rows.mjs): the forced cells as the released guide's own fill.sh prints them over the translation e72416d477cdfdcb… (all of the seat's roots in one cut). By AI agents, Wed Nov 11 2026. No macro, syntax, notation, axiom, sorry.
-/
import Derived.Test.YtjoomgojnpcbeaaDoorChecked
import GoSem.Claim
import GoSem.ClaimJoined
import GoSem.ClaimMapViews
import Derived.JoinedTies
import Derived.KernelRfl
namespace Go.Proofs.YtjoomgojnpcbeaaDoor
/- THE CELL 'sum', in the pinned program and in every row, IS THE sha256 OF THE DUMP (.gsa) THAT YtjoomgojnpcbeaaDoorProg.lean LOADS. Nothing in Lean hashes anything: it is a label: what it is worth is what the hold of that sum in a sandbox is worth. -/
noncomputable def Tryd.pinned : Pinned := { name := "ytjoomgojnpcbeaadoor", sum := "e72416d477cdfdcb399dd4a494b6b58c2166e20fc18fb236242c49dca22d3387", checked := Tryd.checked }
namespace Rows
def none {H : Type} : Left H := { results := [], args := [] }

/- WHAT THE LISTED PACKAGE-LEVEL VARIABLES READ AS WHEN THE CALL BEGINS. Each datum BY PROGRAM (the guide's laid-datum.mjs) off the statement by which the dump's own 'gosem.cut.vars' lays the variable. In a bare row this is a premise. The card (YtjoomgojnpcbeaaDoorCards.lean) ties it to the program's text. -/
def laid_math_bits_deBruijn64tab {H : Type} : DataW H := .agg [.lit (.int .u8 0), .lit (.int .u8 1), .lit (.int .u8 56), .lit (.int .u8 2), .lit (.int .u8 57), .lit (.int .u8 49), .lit (.int .u8 28), .lit (.int .u8 3), .lit (.int .u8 61), .lit (.int .u8 58), .lit (.int .u8 42), .lit (.int .u8 50), .lit (.int .u8 38), .lit (.int .u8 29), .lit (.int .u8 17), .lit (.int .u8 4), .lit (.int .u8 62), .lit (.int .u8 47), .lit (.int .u8 59), .lit (.int .u8 36), .lit (.int .u8 45), .lit (.int .u8 43), .lit (.int .u8 51), .lit (.int .u8 22), .lit (.int .u8 53), .lit (.int .u8 39), .lit (.int .u8 33), .lit (.int .u8 30), .lit (.int .u8 24), .lit (.int .u8 18), .lit (.int .u8 12), .lit (.int .u8 5), .lit (.int .u8 63), .lit (.int .u8 55), .lit (.int .u8 48), .lit (.int .u8 27), .lit (.int .u8 60), .lit (.int .u8 41), .lit (.int .u8 37), .lit (.int .u8 16), .lit (.int .u8 46), .lit (.int .u8 35), .lit (.int .u8 44), .lit (.int .u8 21), .lit (.int .u8 52), .lit (.int .u8 32), .lit (.int .u8 23), .lit (.int .u8 11), .lit (.int .u8 54), .lit (.int .u8 26), .lit (.int .u8 40), .lit (.int .u8 15), .lit (.int .u8 34), .lit (.int .u8 20), .lit (.int .u8 31), .lit (.int .u8 10), .lit (.int .u8 25), .lit (.int .u8 14), .lit (.int .u8 19), .lit (.int .u8 9), .lit (.int .u8 13), .lit (.int .u8 8), .lit (.int .u8 7), .lit (.int .u8 6)]

/-- 'bandplanlaw08.GraphComponents': WHATEVER THE INPUT: true; the input reads as it did. -/
def graphComponentsSpec : ChangeSpec := { name := "graphComponents", fn := fun _ => fun
  | [d1, d2] => { results := [.lit (.bool true)], args := [d1, d2] }
  | _ => none }
def graphComponentsRow : OpenClaim := { program := "ytjoomgojnpcbeaadoor", sum := "e72416d477cdfdcb399dd4a494b6b58c2166e20fc18fb236242c49dca22d3387", func := "bandplan/bandplanlaw08.GraphComponents", spec := "graphComponents", unfollowed := true, recurses := true, named := ["math/bits.deBruijn64tab"], apart := false, laid := [("math/bits.deBruijn64tab", laid_math_bits_deBruijn64tab)] }
def GraphComponentsSaid : Prop := graphComponentsRow.holds Tryd.pinned (OpenSpec.ofChange graphComponentsSpec)

/-- ITS FALSE NEIGHBOUR: 'it returns false'. Refute it at one input. -/
def graphComponentsWrong : ChangeSpec := { name := "graphComponents", fn := fun _ => fun
  | [d1, d2] => { results := [.lit (.bool false)], args := [d1, d2] }
  | _ => none }
def GraphComponentsWrongFalsely : Prop := graphComponentsRow.holds Tryd.pinned (OpenSpec.ofChange graphComponentsWrong)

/-- 'bandplanlaw08.GraphBlocks': WHATEVER THE INPUT: true; the input reads as it did. -/
def graphBlocksSpec : ChangeSpec := { name := "graphBlocks", fn := fun _ => fun
  | [d1, d2] => { results := [.lit (.bool true)], args := [d1, d2] }
  | _ => none }
def graphBlocksRow : OpenClaim := { program := "ytjoomgojnpcbeaadoor", sum := "e72416d477cdfdcb399dd4a494b6b58c2166e20fc18fb236242c49dca22d3387", func := "bandplan/bandplanlaw08.GraphBlocks", spec := "graphBlocks", unfollowed := true, recurses := true, named := ["math/bits.deBruijn64tab"], apart := false, laid := [("math/bits.deBruijn64tab", laid_math_bits_deBruijn64tab)] }
def GraphBlocksSaid : Prop := graphBlocksRow.holds Tryd.pinned (OpenSpec.ofChange graphBlocksSpec)

/-- ITS FALSE NEIGHBOUR: 'it returns false'. Refute it at one input. -/
def graphBlocksWrong : ChangeSpec := { name := "graphBlocks", fn := fun _ => fun
  | [d1, d2] => { results := [.lit (.bool false)], args := [d1, d2] }
  | _ => none }
def GraphBlocksWrongFalsely : Prop := graphBlocksRow.holds Tryd.pinned (OpenSpec.ofChange graphBlocksWrong)

/-- 'bandplanlaw08.GraphRemoves': WHATEVER THE INPUT: true; the input reads as it did. -/
def graphRemovesSpec : ChangeSpec := { name := "graphRemoves", fn := fun _ => fun
  | [d1, d2] => { results := [.lit (.bool true)], args := [d1, d2] }
  | _ => none }
def graphRemovesRow : OpenClaim := { program := "ytjoomgojnpcbeaadoor", sum := "e72416d477cdfdcb399dd4a494b6b58c2166e20fc18fb236242c49dca22d3387", func := "bandplan/bandplanlaw08.GraphRemoves", spec := "graphRemoves", unfollowed := true, recurses := true, named := ["math/bits.deBruijn64tab"], apart := false, laid := [("math/bits.deBruijn64tab", laid_math_bits_deBruijn64tab)] }
def GraphRemovesSaid : Prop := graphRemovesRow.holds Tryd.pinned (OpenSpec.ofChange graphRemovesSpec)

/-- ITS FALSE NEIGHBOUR: 'it returns false'. Refute it at one input. -/
def graphRemovesWrong : ChangeSpec := { name := "graphRemoves", fn := fun _ => fun
  | [d1, d2] => { results := [.lit (.bool false)], args := [d1, d2] }
  | _ => none }
def GraphRemovesWrongFalsely : Prop := graphRemovesRow.holds Tryd.pinned (OpenSpec.ofChange graphRemovesWrong)

/-- 'bandplanlaw08.GraphColours': WHATEVER THE INPUT: true; the input reads as it did. -/
def graphColoursSpec : ChangeSpec := { name := "graphColours", fn := fun _ => fun
  | [d1, d2, d3] => { results := [.lit (.bool true)], args := [d1, d2, d3] }
  | _ => none }
def graphColoursRow : OpenClaim := { program := "ytjoomgojnpcbeaadoor", sum := "e72416d477cdfdcb399dd4a494b6b58c2166e20fc18fb236242c49dca22d3387", func := "bandplan/bandplanlaw08.GraphColours", spec := "graphColours", unfollowed := true, recurses := true, named := ["math/bits.deBruijn64tab"], apart := false, laid := [("math/bits.deBruijn64tab", laid_math_bits_deBruijn64tab)] }
def GraphColoursSaid : Prop := graphColoursRow.holds Tryd.pinned (OpenSpec.ofChange graphColoursSpec)

/-- ITS FALSE NEIGHBOUR: 'it returns false'. Refute it at one input. -/
def graphColoursWrong : ChangeSpec := { name := "graphColours", fn := fun _ => fun
  | [d1, d2, d3] => { results := [.lit (.bool false)], args := [d1, d2, d3] }
  | _ => none }
def GraphColoursWrongFalsely : Prop := graphColoursRow.holds Tryd.pinned (OpenSpec.ofChange graphColoursWrong)

/-- 'bandplanlaw08.GraphTheory': WHATEVER THE INPUT: true; the input reads as it did. -/
def graphTheorySpec : ChangeSpec := { name := "graphTheory", fn := fun _ => fun
  | [d1, d2] => { results := [.lit (.bool true)], args := [d1, d2] }
  | _ => none }
def graphTheoryRow : OpenClaim := { program := "ytjoomgojnpcbeaadoor", sum := "e72416d477cdfdcb399dd4a494b6b58c2166e20fc18fb236242c49dca22d3387", func := "bandplan/bandplanlaw08.GraphTheory", spec := "graphTheory", unfollowed := true, recurses := true, named := ["math/bits.deBruijn64tab"], apart := false, laid := [("math/bits.deBruijn64tab", laid_math_bits_deBruijn64tab)] }
def GraphTheorySaid : Prop := graphTheoryRow.holds Tryd.pinned (OpenSpec.ofChange graphTheorySpec)

/-- ITS FALSE NEIGHBOUR: 'it returns false'. Refute it at one input. -/
def graphTheoryWrong : ChangeSpec := { name := "graphTheory", fn := fun _ => fun
  | [d1, d2] => { results := [.lit (.bool false)], args := [d1, d2] }
  | _ => none }
def GraphTheoryWrongFalsely : Prop := graphTheoryRow.holds Tryd.pinned (OpenSpec.ofChange graphTheoryWrong)

/-- 'bandplanlaw08.GraphAdds': WHATEVER THE INPUT: true; the input reads as it did. -/
def graphAddsSpec : ChangeSpec := { name := "graphAdds", fn := fun _ => fun
  | [d1, d2] => { results := [.lit (.bool true)], args := [d1, d2] }
  | _ => none }
def graphAddsRow : OpenClaim := { program := "ytjoomgojnpcbeaadoor", sum := "e72416d477cdfdcb399dd4a494b6b58c2166e20fc18fb236242c49dca22d3387", func := "bandplan/bandplanlaw08.GraphAdds", spec := "graphAdds", unfollowed := true, recurses := true, named := ["math/bits.deBruijn64tab"], apart := false, laid := [("math/bits.deBruijn64tab", laid_math_bits_deBruijn64tab)] }
def GraphAddsSaid : Prop := graphAddsRow.holds Tryd.pinned (OpenSpec.ofChange graphAddsSpec)

/-- ITS FALSE NEIGHBOUR: 'it returns false'. Refute it at one input. -/
def graphAddsWrong : ChangeSpec := { name := "graphAdds", fn := fun _ => fun
  | [d1, d2] => { results := [.lit (.bool false)], args := [d1, d2] }
  | _ => none }
def GraphAddsWrongFalsely : Prop := graphAddsRow.holds Tryd.pinned (OpenSpec.ofChange graphAddsWrong)

/-- 'bandplanlaw08.GraphCopies': WHATEVER THE INPUT: true; the input reads as it did. -/
def graphCopiesSpec : ChangeSpec := { name := "graphCopies", fn := fun _ => fun
  | [d1, d2, d3, d4] => { results := [.lit (.bool true)], args := [d1, d2, d3, d4] }
  | _ => none }
def graphCopiesRow : OpenClaim := { program := "ytjoomgojnpcbeaadoor", sum := "e72416d477cdfdcb399dd4a494b6b58c2166e20fc18fb236242c49dca22d3387", func := "bandplan/bandplanlaw08.GraphCopies", spec := "graphCopies", unfollowed := true, recurses := true, named := ["math/bits.deBruijn64tab"], apart := false, laid := [("math/bits.deBruijn64tab", laid_math_bits_deBruijn64tab)] }
def GraphCopiesSaid : Prop := graphCopiesRow.holds Tryd.pinned (OpenSpec.ofChange graphCopiesSpec)

/-- ITS FALSE NEIGHBOUR: 'it returns false'. Refute it at one input. -/
def graphCopiesWrong : ChangeSpec := { name := "graphCopies", fn := fun _ => fun
  | [d1, d2, d3, d4] => { results := [.lit (.bool false)], args := [d1, d2, d3, d4] }
  | _ => none }
def GraphCopiesWrongFalsely : Prop := graphCopiesRow.holds Tryd.pinned (OpenSpec.ofChange graphCopiesWrong)

/-- 'bandplanlaw08.GraphNone': WHATEVER THE INPUT: true; the input reads as it did. -/
def graphNoneSpec : ChangeSpec := { name := "graphNone", fn := fun _ => fun
  | [d1, d2] => { results := [.lit (.bool true)], args := [d1, d2] }
  | _ => none }
def graphNoneRow : OpenClaim := { program := "ytjoomgojnpcbeaadoor", sum := "e72416d477cdfdcb399dd4a494b6b58c2166e20fc18fb236242c49dca22d3387", func := "bandplan/bandplanlaw08.GraphNone", spec := "graphNone", unfollowed := true, recurses := true, named := ["math/bits.deBruijn64tab"], apart := false, laid := [("math/bits.deBruijn64tab", laid_math_bits_deBruijn64tab)] }
def GraphNoneSaid : Prop := graphNoneRow.holds Tryd.pinned (OpenSpec.ofChange graphNoneSpec)

/-- ITS FALSE NEIGHBOUR: 'it returns false'. Refute it at one input. -/
def graphNoneWrong : ChangeSpec := { name := "graphNone", fn := fun _ => fun
  | [d1, d2] => { results := [.lit (.bool false)], args := [d1, d2] }
  | _ => none }
def GraphNoneWrongFalsely : Prop := graphNoneRow.holds Tryd.pinned (OpenSpec.ofChange graphNoneWrong)

/- THE SECOND FORM. 'bulk': how many values and letters a reading holds, each counted each time it is reached (what is shared counts as often as it is met; a slice's spare places count too). A statement '..UptoSaid' is the law's where the arguments, and the package variables that the reading takes, are together of bulk at most 1048576: NARROWER than '..Said'. Prove '..Said' where nothing that the law and all that it calls make is longer than what came in: it says more and counts as full. Else prove '..UptoSaid'. A law counts once. -/
mutual
def uptoBulk {H : Type} : DataW H → Nat
  | .lit (.string bytes) => bytes.length + 1
  | .lit _ => 1
  | .nil => 1
  | .ptr d => uptoBulk d + 1
  | .slice elems spare => uptoBulkAll elems + uptoBulkAll spare + 1
  | .agg parts => uptoBulkAll parts + 1
  | .iface _ d => uptoBulk d + 1
  | .map entries => uptoBulkEntries entries + 1
  | .held _ => 1
def uptoBulkAll {H : Type} : List (DataW H) → Nat
  | [] => 0
  | d :: r => uptoBulk d + uptoBulkAll r
def uptoBulkEntries {H : Type} : List (Lit × DataW H) → Nat
  | [] => 0
  | x :: r => uptoBulkEntry x + uptoBulkEntries r
def uptoBulkEntry {H : Type} : Lit × DataW H → Nat
  | (.string bytes, d) => bytes.length + uptoBulk d + 1
  | (_, d) => uptoBulk d + 1
 end
def uptoSmall : (H : Type) → List (DataW H) → Bool := fun _ ds => decide (uptoBulkAll ds ≤ 1048576)
def OpenSpec.upto (s : _root_.Go.ChangeSpec) : _root_.Go.OpenSpec := { _root_.Go.OpenSpec.ofChange s with cond := some uptoSmall }

/-- 'bandplanlaw08.GraphComponents', WHERE WHAT IT READS IS OF BULK AT MOST 1048576: true; the input reads as it did. -/
def graphComponentsUptoRow : OpenClaim := { program := "ytjoomgojnpcbeaadoor", sum := "e72416d477cdfdcb399dd4a494b6b58c2166e20fc18fb236242c49dca22d3387", func := "bandplan/bandplanlaw08.GraphComponents", spec := "graphComponents", unfollowed := true, recurses := true, named := ["math/bits.deBruijn64tab"], apart := false, laid := [("math/bits.deBruijn64tab", laid_math_bits_deBruijn64tab)], narrowed := true }
def GraphComponentsUptoSaid : Prop := graphComponentsUptoRow.holds Tryd.pinned (OpenSpec.upto graphComponentsSpec)

/-- 'bandplanlaw08.GraphBlocks', WHERE WHAT IT READS IS OF BULK AT MOST 1048576: true; the input reads as it did. -/
def graphBlocksUptoRow : OpenClaim := { program := "ytjoomgojnpcbeaadoor", sum := "e72416d477cdfdcb399dd4a494b6b58c2166e20fc18fb236242c49dca22d3387", func := "bandplan/bandplanlaw08.GraphBlocks", spec := "graphBlocks", unfollowed := true, recurses := true, named := ["math/bits.deBruijn64tab"], apart := false, laid := [("math/bits.deBruijn64tab", laid_math_bits_deBruijn64tab)], narrowed := true }
def GraphBlocksUptoSaid : Prop := graphBlocksUptoRow.holds Tryd.pinned (OpenSpec.upto graphBlocksSpec)

/-- 'bandplanlaw08.GraphRemoves', WHERE WHAT IT READS IS OF BULK AT MOST 1048576: true; the input reads as it did. -/
def graphRemovesUptoRow : OpenClaim := { program := "ytjoomgojnpcbeaadoor", sum := "e72416d477cdfdcb399dd4a494b6b58c2166e20fc18fb236242c49dca22d3387", func := "bandplan/bandplanlaw08.GraphRemoves", spec := "graphRemoves", unfollowed := true, recurses := true, named := ["math/bits.deBruijn64tab"], apart := false, laid := [("math/bits.deBruijn64tab", laid_math_bits_deBruijn64tab)], narrowed := true }
def GraphRemovesUptoSaid : Prop := graphRemovesUptoRow.holds Tryd.pinned (OpenSpec.upto graphRemovesSpec)

/-- 'bandplanlaw08.GraphColours', WHERE WHAT IT READS IS OF BULK AT MOST 1048576: true; the input reads as it did. -/
def graphColoursUptoRow : OpenClaim := { program := "ytjoomgojnpcbeaadoor", sum := "e72416d477cdfdcb399dd4a494b6b58c2166e20fc18fb236242c49dca22d3387", func := "bandplan/bandplanlaw08.GraphColours", spec := "graphColours", unfollowed := true, recurses := true, named := ["math/bits.deBruijn64tab"], apart := false, laid := [("math/bits.deBruijn64tab", laid_math_bits_deBruijn64tab)], narrowed := true }
def GraphColoursUptoSaid : Prop := graphColoursUptoRow.holds Tryd.pinned (OpenSpec.upto graphColoursSpec)

/-- 'bandplanlaw08.GraphTheory', WHERE WHAT IT READS IS OF BULK AT MOST 1048576: true; the input reads as it did. -/
def graphTheoryUptoRow : OpenClaim := { program := "ytjoomgojnpcbeaadoor", sum := "e72416d477cdfdcb399dd4a494b6b58c2166e20fc18fb236242c49dca22d3387", func := "bandplan/bandplanlaw08.GraphTheory", spec := "graphTheory", unfollowed := true, recurses := true, named := ["math/bits.deBruijn64tab"], apart := false, laid := [("math/bits.deBruijn64tab", laid_math_bits_deBruijn64tab)], narrowed := true }
def GraphTheoryUptoSaid : Prop := graphTheoryUptoRow.holds Tryd.pinned (OpenSpec.upto graphTheorySpec)

/-- 'bandplanlaw08.GraphAdds', WHERE WHAT IT READS IS OF BULK AT MOST 1048576: true; the input reads as it did. -/
def graphAddsUptoRow : OpenClaim := { program := "ytjoomgojnpcbeaadoor", sum := "e72416d477cdfdcb399dd4a494b6b58c2166e20fc18fb236242c49dca22d3387", func := "bandplan/bandplanlaw08.GraphAdds", spec := "graphAdds", unfollowed := true, recurses := true, named := ["math/bits.deBruijn64tab"], apart := false, laid := [("math/bits.deBruijn64tab", laid_math_bits_deBruijn64tab)], narrowed := true }
def GraphAddsUptoSaid : Prop := graphAddsUptoRow.holds Tryd.pinned (OpenSpec.upto graphAddsSpec)

/-- 'bandplanlaw08.GraphCopies', WHERE WHAT IT READS IS OF BULK AT MOST 1048576: true; the input reads as it did. -/
def graphCopiesUptoRow : OpenClaim := { program := "ytjoomgojnpcbeaadoor", sum := "e72416d477cdfdcb399dd4a494b6b58c2166e20fc18fb236242c49dca22d3387", func := "bandplan/bandplanlaw08.GraphCopies", spec := "graphCopies", unfollowed := true, recurses := true, named := ["math/bits.deBruijn64tab"], apart := false, laid := [("math/bits.deBruijn64tab", laid_math_bits_deBruijn64tab)], narrowed := true }
def GraphCopiesUptoSaid : Prop := graphCopiesUptoRow.holds Tryd.pinned (OpenSpec.upto graphCopiesSpec)

/-- 'bandplanlaw08.GraphNone', WHERE WHAT IT READS IS OF BULK AT MOST 1048576: true; the input reads as it did. -/
def graphNoneUptoRow : OpenClaim := { program := "ytjoomgojnpcbeaadoor", sum := "e72416d477cdfdcb399dd4a494b6b58c2166e20fc18fb236242c49dca22d3387", func := "bandplan/bandplanlaw08.GraphNone", spec := "graphNone", unfollowed := true, recurses := true, named := ["math/bits.deBruijn64tab"], apart := false, laid := [("math/bits.deBruijn64tab", laid_math_bits_deBruijn64tab)], narrowed := true }
def GraphNoneUptoSaid : Prop := graphNoneUptoRow.holds Tryd.pinned (OpenSpec.upto graphNoneSpec)

end Rows
end Go.Proofs.YtjoomgojnpcbeaaDoor
