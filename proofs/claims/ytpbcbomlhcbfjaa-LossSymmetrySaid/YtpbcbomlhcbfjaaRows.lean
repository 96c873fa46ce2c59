/-
  No cell of these rows narrows 'for every input' (looked for: loops, veiled, ifaces, maps, wideKeys, modest, calm, conditions, laid).
  DERIVED. THE GIVEN ROWS OF THIS SEAT. 6 by the template 'for every input the law returns true; each argument reads behind the call as it read before'; 0 by the template 'total and deterministic' (their statements: YtpbcbomlhcbfjaaTotals.lean).
  GIVEN WITH THE SEED: the statements are not yours to turn. If you find one false, say at which input.
  Laid BY PROGRAM, IN A SANDBOX (cutbox-rows.mjs): the forced cells as the released guide's own fill.sh prints them over the translation 0b6f00e28ab663fe… (all of the seat's roots in one cut). By AI agents, Wed Nov 11 2026. No macro, syntax, notation, axiom, sorry.
-/
import Derived.Test.YtpbcbomlhcbfjaaChecked
import GoSem.Claim
import GoSem.ClaimJoined
import GoSem.ClaimMapViews
import Derived.JoinedTies
import Derived.KernelRfl
namespace Go.Proofs.Ytpbcbomlhcbfjaa
/- THE CELL 'sum', in the pinned program and in every row, IS THE sha256 OF THE DUMP (.gsa) THAT YtpbcbomlhcbfjaaProg.lean LOADS. Nothing in Lean hashes anything: it is a label: what it is worth is what the hold of that sum in a sandbox is worth. -/
noncomputable def Try.pinned : Pinned := { name := "ytpbcbomlhcbfjaa", sum := "0b6f00e28ab663fe1b03a7b14b7549c349a39ffb8a500e763952de86b2413b1d", checked := Try.checked }
namespace Rows
def none {H : Type} : Left H := { results := [], args := [] }

/-- 'bandplanlaw11.LossFree': WHATEVER THE INPUT: true; the input reads as it did. -/
def lossFreeSpec : ChangeSpec := { name := "lossFree", fn := fun _ => fun
  | [d] => { results := [.lit (.bool true)], args := [d] }
  | _ => none }
def lossFreeRow : OpenClaim := { program := "ytpbcbomlhcbfjaa", sum := "0b6f00e28ab663fe1b03a7b14b7549c349a39ffb8a500e763952de86b2413b1d", func := "bandplan/bandplanlaw11.LossFree", spec := "lossFree", apart := false }
def LossFreeSaid : Prop := lossFreeRow.holds Try.pinned (OpenSpec.ofChange lossFreeSpec)

/-- ITS FALSE NEIGHBOUR: 'it returns false'. Refute it at one input. -/
def lossFreeWrong : ChangeSpec := { name := "lossFree", fn := fun _ => fun
  | [d] => { results := [.lit (.bool false)], args := [d] }
  | _ => none }
def LossFreeWrongFalsely : Prop := lossFreeRow.holds Try.pinned (OpenSpec.ofChange lossFreeWrong)

/-- 'bandplanlaw11.LossSquares': WHATEVER THE INPUT: true; the input reads as it did. -/
def lossSquaresSpec : ChangeSpec := { name := "lossSquares", fn := fun _ => fun
  | [d1, d2] => { results := [.lit (.bool true)], args := [d1, d2] }
  | _ => none }
def lossSquaresRow : OpenClaim := { program := "ytpbcbomlhcbfjaa", sum := "0b6f00e28ab663fe1b03a7b14b7549c349a39ffb8a500e763952de86b2413b1d", func := "bandplan/bandplanlaw11.LossSquares", spec := "lossSquares", apart := false }
def LossSquaresSaid : Prop := lossSquaresRow.holds Try.pinned (OpenSpec.ofChange lossSquaresSpec)

/-- ITS FALSE NEIGHBOUR: 'it returns false'. Refute it at one input. -/
def lossSquaresWrong : ChangeSpec := { name := "lossSquares", fn := fun _ => fun
  | [d1, d2] => { results := [.lit (.bool false)], args := [d1, d2] }
  | _ => none }
def LossSquaresWrongFalsely : Prop := lossSquaresRow.holds Try.pinned (OpenSpec.ofChange lossSquaresWrong)

/-- 'bandplanlaw11.LossObstructs': WHATEVER THE INPUT: true; the input reads as it did. -/
def lossObstructsSpec : ChangeSpec := { name := "lossObstructs", fn := fun _ => fun
  | [d1, d2, d3, d4, d5] => { results := [.lit (.bool true)], args := [d1, d2, d3, d4, d5] }
  | _ => none }
def lossObstructsRow : OpenClaim := { program := "ytpbcbomlhcbfjaa", sum := "0b6f00e28ab663fe1b03a7b14b7549c349a39ffb8a500e763952de86b2413b1d", func := "bandplan/bandplanlaw11.LossObstructs", spec := "lossObstructs", apart := false }
def LossObstructsSaid : Prop := lossObstructsRow.holds Try.pinned (OpenSpec.ofChange lossObstructsSpec)

/-- ITS FALSE NEIGHBOUR: 'it returns false'. Refute it at one input. -/
def lossObstructsWrong : ChangeSpec := { name := "lossObstructs", fn := fun _ => fun
  | [d1, d2, d3, d4, d5] => { results := [.lit (.bool false)], args := [d1, d2, d3, d4, d5] }
  | _ => none }
def LossObstructsWrongFalsely : Prop := lossObstructsRow.holds Try.pinned (OpenSpec.ofChange lossObstructsWrong)

/-- 'bandplanlaw11.LossTotals': WHATEVER THE INPUT: true; the input reads as it did. -/
def lossTotalsSpec : ChangeSpec := { name := "lossTotals", fn := fun _ => fun
  | [d1, d2, d3, d4, d5] => { results := [.lit (.bool true)], args := [d1, d2, d3, d4, d5] }
  | _ => none }
def lossTotalsRow : OpenClaim := { program := "ytpbcbomlhcbfjaa", sum := "0b6f00e28ab663fe1b03a7b14b7549c349a39ffb8a500e763952de86b2413b1d", func := "bandplan/bandplanlaw11.LossTotals", spec := "lossTotals", apart := false }
def LossTotalsSaid : Prop := lossTotalsRow.holds Try.pinned (OpenSpec.ofChange lossTotalsSpec)

/-- ITS FALSE NEIGHBOUR: 'it returns false'. Refute it at one input. -/
def lossTotalsWrong : ChangeSpec := { name := "lossTotals", fn := fun _ => fun
  | [d1, d2, d3, d4, d5] => { results := [.lit (.bool false)], args := [d1, d2, d3, d4, d5] }
  | _ => none }
def LossTotalsWrongFalsely : Prop := lossTotalsRow.holds Try.pinned (OpenSpec.ofChange lossTotalsWrong)

/-- 'bandplanlaw11.LossSymmetry': WHATEVER THE INPUT: true; the input reads as it did. -/
def lossSymmetrySpec : ChangeSpec := { name := "lossSymmetry", fn := fun _ => fun
  | [d1, d2, d3, d4, d5, d6, d7, d8] => { results := [.lit (.bool true)], args := [d1, d2, d3, d4, d5, d6, d7, d8] }
  | _ => none }
def lossSymmetryRow : OpenClaim := { program := "ytpbcbomlhcbfjaa", sum := "0b6f00e28ab663fe1b03a7b14b7549c349a39ffb8a500e763952de86b2413b1d", func := "bandplan/bandplanlaw11.LossSymmetry", spec := "lossSymmetry", apart := false }
def LossSymmetrySaid : Prop := lossSymmetryRow.holds Try.pinned (OpenSpec.ofChange lossSymmetrySpec)

/-- ITS FALSE NEIGHBOUR: 'it returns false'. Refute it at one input. -/
def lossSymmetryWrong : ChangeSpec := { name := "lossSymmetry", fn := fun _ => fun
  | [d1, d2, d3, d4, d5, d6, d7, d8] => { results := [.lit (.bool false)], args := [d1, d2, d3, d4, d5, d6, d7, d8] }
  | _ => none }
def LossSymmetryWrongFalsely : Prop := lossSymmetryRow.holds Try.pinned (OpenSpec.ofChange lossSymmetryWrong)

/-- 'bandplanlaw11.LossPowers': WHATEVER THE INPUT: true; the input reads as it did. -/
def lossPowersSpec : ChangeSpec := { name := "lossPowers", fn := fun _ => fun
  | [d] => { results := [.lit (.bool true)], args := [d] }
  | _ => none }
def lossPowersRow : OpenClaim := { program := "ytpbcbomlhcbfjaa", sum := "0b6f00e28ab663fe1b03a7b14b7549c349a39ffb8a500e763952de86b2413b1d", func := "bandplan/bandplanlaw11.LossPowers", spec := "lossPowers", apart := false }
def LossPowersSaid : Prop := lossPowersRow.holds Try.pinned (OpenSpec.ofChange lossPowersSpec)

/-- ITS FALSE NEIGHBOUR: 'it returns false'. Refute it at one input. -/
def lossPowersWrong : ChangeSpec := { name := "lossPowers", fn := fun _ => fun
  | [d] => { results := [.lit (.bool false)], args := [d] }
  | _ => none }
def LossPowersWrongFalsely : Prop := lossPowersRow.holds Try.pinned (OpenSpec.ofChange lossPowersWrong)

/- THE SECOND FORM. 'bulk': how many values and letters a reading holds, each counted each time it is reached (what is shared counts as often as it is met; a slice's spare places count too). A statement '..UptoSaid' is the law's where the arguments, and the package variables that the reading takes, are together of bulk at most 1048576: NARROWER than '..Said'. Prove '..Said' where nothing that the law and all that it calls make is longer than what came in: it says more and counts as full. Else prove '..UptoSaid'. A law counts once. -/
mutual
def uptoBulk {H : Type} : DataW H → Nat
  | .lit (.string bytes) => bytes.length + 1
  | .lit _ => 1
  | .nil => 1
  | .ptr d => uptoBulk d + 1
  | .slice elems spare => uptoBulkAll elems + uptoBulkAll spare + 1
  | .agg parts => uptoBulkAll parts + 1
  | .iface _ d => uptoBulk d + 1
  | .map entries => uptoBulkEntries entries + 1
  | .held _ => 1
def uptoBulkAll {H : Type} : List (DataW H) → Nat
  | [] => 0
  | d :: r => uptoBulk d + uptoBulkAll r
def uptoBulkEntries {H : Type} : List (Lit × DataW H) → Nat
  | [] => 0
  | x :: r => uptoBulkEntry x + uptoBulkEntries r
def uptoBulkEntry {H : Type} : Lit × DataW H → Nat
  | (.string bytes, d) => bytes.length + uptoBulk d + 1
  | (_, d) => uptoBulk d + 1
 end
def uptoSmall : (H : Type) → List (DataW H) → Bool := fun _ ds => decide (uptoBulkAll ds ≤ 1048576)
def OpenSpec.upto (s : _root_.Go.ChangeSpec) : _root_.Go.OpenSpec := { _root_.Go.OpenSpec.ofChange s with cond := some uptoSmall }

/-- 'bandplanlaw11.LossFree', WHERE WHAT IT READS IS OF BULK AT MOST 1048576: true; the input reads as it did. -/
def lossFreeUptoRow : OpenClaim := { program := "ytpbcbomlhcbfjaa", sum := "0b6f00e28ab663fe1b03a7b14b7549c349a39ffb8a500e763952de86b2413b1d", func := "bandplan/bandplanlaw11.LossFree", spec := "lossFree", apart := false, narrowed := true }
def LossFreeUptoSaid : Prop := lossFreeUptoRow.holds Try.pinned (OpenSpec.upto lossFreeSpec)

/-- 'bandplanlaw11.LossSquares', WHERE WHAT IT READS IS OF BULK AT MOST 1048576: true; the input reads as it did. -/
def lossSquaresUptoRow : OpenClaim := { program := "ytpbcbomlhcbfjaa", sum := "0b6f00e28ab663fe1b03a7b14b7549c349a39ffb8a500e763952de86b2413b1d", func := "bandplan/bandplanlaw11.LossSquares", spec := "lossSquares", apart := false, narrowed := true }
def LossSquaresUptoSaid : Prop := lossSquaresUptoRow.holds Try.pinned (OpenSpec.upto lossSquaresSpec)

/-- 'bandplanlaw11.LossObstructs', WHERE WHAT IT READS IS OF BULK AT MOST 1048576: true; the input reads as it did. -/
def lossObstructsUptoRow : OpenClaim := { program := "ytpbcbomlhcbfjaa", sum := "0b6f00e28ab663fe1b03a7b14b7549c349a39ffb8a500e763952de86b2413b1d", func := "bandplan/bandplanlaw11.LossObstructs", spec := "lossObstructs", apart := false, narrowed := true }
def LossObstructsUptoSaid : Prop := lossObstructsUptoRow.holds Try.pinned (OpenSpec.upto lossObstructsSpec)

/-- 'bandplanlaw11.LossTotals', WHERE WHAT IT READS IS OF BULK AT MOST 1048576: true; the input reads as it did. -/
def lossTotalsUptoRow : OpenClaim := { program := "ytpbcbomlhcbfjaa", sum := "0b6f00e28ab663fe1b03a7b14b7549c349a39ffb8a500e763952de86b2413b1d", func := "bandplan/bandplanlaw11.LossTotals", spec := "lossTotals", apart := false, narrowed := true }
def LossTotalsUptoSaid : Prop := lossTotalsUptoRow.holds Try.pinned (OpenSpec.upto lossTotalsSpec)

/-- 'bandplanlaw11.LossSymmetry', WHERE WHAT IT READS IS OF BULK AT MOST 1048576: true; the input reads as it did. -/
def lossSymmetryUptoRow : OpenClaim := { program := "ytpbcbomlhcbfjaa", sum := "0b6f00e28ab663fe1b03a7b14b7549c349a39ffb8a500e763952de86b2413b1d", func := "bandplan/bandplanlaw11.LossSymmetry", spec := "lossSymmetry", apart := false, narrowed := true }
def LossSymmetryUptoSaid : Prop := lossSymmetryUptoRow.holds Try.pinned (OpenSpec.upto lossSymmetrySpec)

/-- 'bandplanlaw11.LossPowers', WHERE WHAT IT READS IS OF BULK AT MOST 1048576: true; the input reads as it did. -/
def lossPowersUptoRow : OpenClaim := { program := "ytpbcbomlhcbfjaa", sum := "0b6f00e28ab663fe1b03a7b14b7549c349a39ffb8a500e763952de86b2413b1d", func := "bandplan/bandplanlaw11.LossPowers", spec := "lossPowers", apart := false, narrowed := true }
def LossPowersUptoSaid : Prop := lossPowersUptoRow.holds Try.pinned (OpenSpec.upto lossPowersSpec)

end Rows
end Go.Proofs.Ytpbcbomlhcbfjaa
