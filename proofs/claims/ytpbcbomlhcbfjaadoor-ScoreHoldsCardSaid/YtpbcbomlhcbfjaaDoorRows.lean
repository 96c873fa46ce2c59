/-
  NARROWER THAN 'FOR EVERY INPUT', by the rows' own cells (each row's printed sentence says how): ScoreRoot: laid · ScoreRaw: laid · ScoreVolumes: laid · ScoreOffer: laid · ScoreOffers: laid · ScoreHolds: laid.
  DERIVED. THE GIVEN ROWS OF THIS SEAT. 6 by the template 'for every input the law returns true; each argument reads behind the call as it read before'; 0 by the template 'total and deterministic' (their statements: YtpbcbomlhcbfjaaDoorTotals.lean).
  GIVEN WITH THE SEED: the statements are not yours to turn. If you find one false, say at which input.
  Laid BY PROGRAM, IN A SANDBOX (cutbox-rows.mjs): the forced cells as the released guide's own fill.sh prints them over the translation 828f72b160a30f38… (all of the seat's roots in one cut). By AI agents, Wed Nov 11 2026. No macro, syntax, notation, axiom, sorry.
-/
import Derived.Test.YtpbcbomlhcbfjaaDoorChecked
import GoSem.Claim
import GoSem.ClaimJoined
import GoSem.ClaimMapViews
import Derived.JoinedTies
import Derived.KernelRfl
namespace Go.Proofs.YtpbcbomlhcbfjaaDoor
/- THE CELL 'sum', in the pinned program and in every row, IS THE sha256 OF THE DUMP (.gsa) THAT YtpbcbomlhcbfjaaDoorProg.lean LOADS. Nothing in Lean hashes anything: it is a label: what it is worth is what the hold of that sum in a sandbox is worth. -/
noncomputable def Tryd.pinned : Pinned := { name := "ytpbcbomlhcbfjaadoor", sum := "828f72b160a30f3884c86d57ed866b6e3565eb42f74799af1a4fd3e39be5feaa", checked := Tryd.checked }
namespace Rows
def none {H : Type} : Left H := { results := [], args := [] }

/- WHAT THE LISTED PACKAGE-LEVEL VARIABLES READ AS WHEN THE CALL BEGINS. Each datum BY PROGRAM (the guide's laid-datum.mjs) off the statement by which the dump's own 'gosem.cut.vars' lays the variable. In a bare row this is a premise. The card (YtpbcbomlhcbfjaaDoorCards.lean) ties it to the program's text. -/
def laid_bandplan_score_worths {H : Type} : DataW H := .agg [.lit (.int .i64 0), .lit (.int .i64 250), .lit (.int .i64 600), .lit (.int .i64 1000)]

/-- 'bandplanlaw28.ScoreRoot': WHATEVER THE INPUT: true; the input reads as it did. -/
def scoreRootSpec : ChangeSpec := { name := "scoreRoot", fn := fun _ => fun
  | [d] => { results := [.lit (.bool true)], args := [d] }
  | _ => none }
def scoreRootRow : OpenClaim := { program := "ytpbcbomlhcbfjaadoor", sum := "828f72b160a30f3884c86d57ed866b6e3565eb42f74799af1a4fd3e39be5feaa", func := "bandplan/bandplanlaw28.ScoreRoot", spec := "scoreRoot", unfollowed := true, recurses := true, named := ["bandplan/score.worths"], apart := false, laid := [("bandplan/score.worths", laid_bandplan_score_worths)] }
def ScoreRootSaid : Prop := scoreRootRow.holds Tryd.pinned (OpenSpec.ofChange scoreRootSpec)

/-- ITS FALSE NEIGHBOUR: 'it returns false'. Refute it at one input. -/
def scoreRootWrong : ChangeSpec := { name := "scoreRoot", fn := fun _ => fun
  | [d] => { results := [.lit (.bool false)], args := [d] }
  | _ => none }
def ScoreRootWrongFalsely : Prop := scoreRootRow.holds Tryd.pinned (OpenSpec.ofChange scoreRootWrong)

/-- 'bandplanlaw28.ScoreRaw': WHATEVER THE INPUT: true; the input reads as it did. -/
def scoreRawSpec : ChangeSpec := { name := "scoreRaw", fn := fun _ => fun
  | [d] => { results := [.lit (.bool true)], args := [d] }
  | _ => none }
def scoreRawRow : OpenClaim := { program := "ytpbcbomlhcbfjaadoor", sum := "828f72b160a30f3884c86d57ed866b6e3565eb42f74799af1a4fd3e39be5feaa", func := "bandplan/bandplanlaw28.ScoreRaw", spec := "scoreRaw", unfollowed := true, recurses := true, named := ["bandplan/score.worths"], apart := false, laid := [("bandplan/score.worths", laid_bandplan_score_worths)] }
def ScoreRawSaid : Prop := scoreRawRow.holds Tryd.pinned (OpenSpec.ofChange scoreRawSpec)

/-- ITS FALSE NEIGHBOUR: 'it returns false'. Refute it at one input. -/
def scoreRawWrong : ChangeSpec := { name := "scoreRaw", fn := fun _ => fun
  | [d] => { results := [.lit (.bool false)], args := [d] }
  | _ => none }
def ScoreRawWrongFalsely : Prop := scoreRawRow.holds Tryd.pinned (OpenSpec.ofChange scoreRawWrong)

/-- 'bandplanlaw28.ScoreVolumes': WHATEVER THE INPUT: true; the input reads as it did. -/
def scoreVolumesSpec : ChangeSpec := { name := "scoreVolumes", fn := fun _ => fun
  | [d1, d2] => { results := [.lit (.bool true)], args := [d1, d2] }
  | _ => none }
def scoreVolumesRow : OpenClaim := { program := "ytpbcbomlhcbfjaadoor", sum := "828f72b160a30f3884c86d57ed866b6e3565eb42f74799af1a4fd3e39be5feaa", func := "bandplan/bandplanlaw28.ScoreVolumes", spec := "scoreVolumes", unfollowed := true, recurses := true, named := ["bandplan/score.worths"], apart := false, laid := [("bandplan/score.worths", laid_bandplan_score_worths)] }
def ScoreVolumesSaid : Prop := scoreVolumesRow.holds Tryd.pinned (OpenSpec.ofChange scoreVolumesSpec)

/-- ITS FALSE NEIGHBOUR: 'it returns false'. Refute it at one input. -/
def scoreVolumesWrong : ChangeSpec := { name := "scoreVolumes", fn := fun _ => fun
  | [d1, d2] => { results := [.lit (.bool false)], args := [d1, d2] }
  | _ => none }
def ScoreVolumesWrongFalsely : Prop := scoreVolumesRow.holds Tryd.pinned (OpenSpec.ofChange scoreVolumesWrong)

/-- 'bandplanlaw28.ScoreOffer': WHATEVER THE INPUT: true; the input reads as it did. -/
def scoreOfferSpec : ChangeSpec := { name := "scoreOffer", fn := fun _ => fun
  | [d1, d2, d3, d4] => { results := [.lit (.bool true)], args := [d1, d2, d3, d4] }
  | _ => none }
def scoreOfferRow : OpenClaim := { program := "ytpbcbomlhcbfjaadoor", sum := "828f72b160a30f3884c86d57ed866b6e3565eb42f74799af1a4fd3e39be5feaa", func := "bandplan/bandplanlaw28.ScoreOffer", spec := "scoreOffer", unfollowed := true, recurses := true, named := ["bandplan/score.worths"], apart := false, laid := [("bandplan/score.worths", laid_bandplan_score_worths)] }
def ScoreOfferSaid : Prop := scoreOfferRow.holds Tryd.pinned (OpenSpec.ofChange scoreOfferSpec)

/-- ITS FALSE NEIGHBOUR: 'it returns false'. Refute it at one input. -/
def scoreOfferWrong : ChangeSpec := { name := "scoreOffer", fn := fun _ => fun
  | [d1, d2, d3, d4] => { results := [.lit (.bool false)], args := [d1, d2, d3, d4] }
  | _ => none }
def ScoreOfferWrongFalsely : Prop := scoreOfferRow.holds Tryd.pinned (OpenSpec.ofChange scoreOfferWrong)

/-- 'bandplanlaw28.ScoreOffers': WHATEVER THE INPUT: true; the input reads as it did. -/
def scoreOffersSpec : ChangeSpec := { name := "scoreOffers", fn := fun _ => fun
  | [d1, d2, d3] => { results := [.lit (.bool true)], args := [d1, d2, d3] }
  | _ => none }
def scoreOffersRow : OpenClaim := { program := "ytpbcbomlhcbfjaadoor", sum := "828f72b160a30f3884c86d57ed866b6e3565eb42f74799af1a4fd3e39be5feaa", func := "bandplan/bandplanlaw28.ScoreOffers", spec := "scoreOffers", unfollowed := true, recurses := true, named := ["bandplan/score.worths"], apart := false, laid := [("bandplan/score.worths", laid_bandplan_score_worths)] }
def ScoreOffersSaid : Prop := scoreOffersRow.holds Tryd.pinned (OpenSpec.ofChange scoreOffersSpec)

/-- ITS FALSE NEIGHBOUR: 'it returns false'. Refute it at one input. -/
def scoreOffersWrong : ChangeSpec := { name := "scoreOffers", fn := fun _ => fun
  | [d1, d2, d3] => { results := [.lit (.bool false)], args := [d1, d2, d3] }
  | _ => none }
def ScoreOffersWrongFalsely : Prop := scoreOffersRow.holds Tryd.pinned (OpenSpec.ofChange scoreOffersWrong)

/-- 'bandplanlaw28.ScoreHolds': WHATEVER THE INPUT: true; the input reads as it did. -/
def scoreHoldsSpec : ChangeSpec := { name := "scoreHolds", fn := fun _ => fun
  | [d1, d2, d3, d4] => { results := [.lit (.bool true)], args := [d1, d2, d3, d4] }
  | _ => none }
def scoreHoldsRow : OpenClaim := { program := "ytpbcbomlhcbfjaadoor", sum := "828f72b160a30f3884c86d57ed866b6e3565eb42f74799af1a4fd3e39be5feaa", func := "bandplan/bandplanlaw28.ScoreHolds", spec := "scoreHolds", unfollowed := true, recurses := true, named := ["bandplan/score.worths"], apart := false, laid := [("bandplan/score.worths", laid_bandplan_score_worths)] }
def ScoreHoldsSaid : Prop := scoreHoldsRow.holds Tryd.pinned (OpenSpec.ofChange scoreHoldsSpec)

/-- ITS FALSE NEIGHBOUR: 'it returns false'. Refute it at one input. -/
def scoreHoldsWrong : ChangeSpec := { name := "scoreHolds", fn := fun _ => fun
  | [d1, d2, d3, d4] => { results := [.lit (.bool false)], args := [d1, d2, d3, d4] }
  | _ => none }
def ScoreHoldsWrongFalsely : Prop := scoreHoldsRow.holds Tryd.pinned (OpenSpec.ofChange scoreHoldsWrong)

/- THE SECOND FORM. 'bulk': how many values and letters a reading holds, each counted each time it is reached (what is shared counts as often as it is met; a slice's spare places count too). A statement '..UptoSaid' is the law's where the arguments, and the package variables that the reading takes, are together of bulk at most 1048576: NARROWER than '..Said'. Prove '..Said' where nothing that the law and all that it calls make is longer than what came in: it says more and counts as full. Else prove '..UptoSaid'. A law counts once. -/
mutual
def uptoBulk {H : Type} : DataW H → Nat
  | .lit (.string bytes) => bytes.length + 1
  | .lit _ => 1
  | .nil => 1
  | .ptr d => uptoBulk d + 1
  | .slice elems spare => uptoBulkAll elems + uptoBulkAll spare + 1
  | .agg parts => uptoBulkAll parts + 1
  | .iface _ d => uptoBulk d + 1
  | .map entries => uptoBulkEntries entries + 1
  | .held _ => 1
def uptoBulkAll {H : Type} : List (DataW H) → Nat
  | [] => 0
  | d :: r => uptoBulk d + uptoBulkAll r
def uptoBulkEntries {H : Type} : List (Lit × DataW H) → Nat
  | [] => 0
  | x :: r => uptoBulkEntry x + uptoBulkEntries r
def uptoBulkEntry {H : Type} : Lit × DataW H → Nat
  | (.string bytes, d) => bytes.length + uptoBulk d + 1
  | (_, d) => uptoBulk d + 1
 end
def uptoSmall : (H : Type) → List (DataW H) → Bool := fun _ ds => decide (uptoBulkAll ds ≤ 1048576)
def OpenSpec.upto (s : _root_.Go.ChangeSpec) : _root_.Go.OpenSpec := { _root_.Go.OpenSpec.ofChange s with cond := some uptoSmall }

/-- 'bandplanlaw28.ScoreRoot', WHERE WHAT IT READS IS OF BULK AT MOST 1048576: true; the input reads as it did. -/
def scoreRootUptoRow : OpenClaim := { program := "ytpbcbomlhcbfjaadoor", sum := "828f72b160a30f3884c86d57ed866b6e3565eb42f74799af1a4fd3e39be5feaa", func := "bandplan/bandplanlaw28.ScoreRoot", spec := "scoreRoot", unfollowed := true, recurses := true, named := ["bandplan/score.worths"], apart := false, laid := [("bandplan/score.worths", laid_bandplan_score_worths)], narrowed := true }
def ScoreRootUptoSaid : Prop := scoreRootUptoRow.holds Tryd.pinned (OpenSpec.upto scoreRootSpec)

/-- 'bandplanlaw28.ScoreRaw', WHERE WHAT IT READS IS OF BULK AT MOST 1048576: true; the input reads as it did. -/
def scoreRawUptoRow : OpenClaim := { program := "ytpbcbomlhcbfjaadoor", sum := "828f72b160a30f3884c86d57ed866b6e3565eb42f74799af1a4fd3e39be5feaa", func := "bandplan/bandplanlaw28.ScoreRaw", spec := "scoreRaw", unfollowed := true, recurses := true, named := ["bandplan/score.worths"], apart := false, laid := [("bandplan/score.worths", laid_bandplan_score_worths)], narrowed := true }
def ScoreRawUptoSaid : Prop := scoreRawUptoRow.holds Tryd.pinned (OpenSpec.upto scoreRawSpec)

/-- 'bandplanlaw28.ScoreVolumes', WHERE WHAT IT READS IS OF BULK AT MOST 1048576: true; the input reads as it did. -/
def scoreVolumesUptoRow : OpenClaim := { program := "ytpbcbomlhcbfjaadoor", sum := "828f72b160a30f3884c86d57ed866b6e3565eb42f74799af1a4fd3e39be5feaa", func := "bandplan/bandplanlaw28.ScoreVolumes", spec := "scoreVolumes", unfollowed := true, recurses := true, named := ["bandplan/score.worths"], apart := false, laid := [("bandplan/score.worths", laid_bandplan_score_worths)], narrowed := true }
def ScoreVolumesUptoSaid : Prop := scoreVolumesUptoRow.holds Tryd.pinned (OpenSpec.upto scoreVolumesSpec)

/-- 'bandplanlaw28.ScoreOffer', WHERE WHAT IT READS IS OF BULK AT MOST 1048576: true; the input reads as it did. -/
def scoreOfferUptoRow : OpenClaim := { program := "ytpbcbomlhcbfjaadoor", sum := "828f72b160a30f3884c86d57ed866b6e3565eb42f74799af1a4fd3e39be5feaa", func := "bandplan/bandplanlaw28.ScoreOffer", spec := "scoreOffer", unfollowed := true, recurses := true, named := ["bandplan/score.worths"], apart := false, laid := [("bandplan/score.worths", laid_bandplan_score_worths)], narrowed := true }
def ScoreOfferUptoSaid : Prop := scoreOfferUptoRow.holds Tryd.pinned (OpenSpec.upto scoreOfferSpec)

/-- 'bandplanlaw28.ScoreOffers', WHERE WHAT IT READS IS OF BULK AT MOST 1048576: true; the input reads as it did. -/
def scoreOffersUptoRow : OpenClaim := { program := "ytpbcbomlhcbfjaadoor", sum := "828f72b160a30f3884c86d57ed866b6e3565eb42f74799af1a4fd3e39be5feaa", func := "bandplan/bandplanlaw28.ScoreOffers", spec := "scoreOffers", unfollowed := true, recurses := true, named := ["bandplan/score.worths"], apart := false, laid := [("bandplan/score.worths", laid_bandplan_score_worths)], narrowed := true }
def ScoreOffersUptoSaid : Prop := scoreOffersUptoRow.holds Tryd.pinned (OpenSpec.upto scoreOffersSpec)

/-- 'bandplanlaw28.ScoreHolds', WHERE WHAT IT READS IS OF BULK AT MOST 1048576: true; the input reads as it did. -/
def scoreHoldsUptoRow : OpenClaim := { program := "ytpbcbomlhcbfjaadoor", sum := "828f72b160a30f3884c86d57ed866b6e3565eb42f74799af1a4fd3e39be5feaa", func := "bandplan/bandplanlaw28.ScoreHolds", spec := "scoreHolds", unfollowed := true, recurses := true, named := ["bandplan/score.worths"], apart := false, laid := [("bandplan/score.worths", laid_bandplan_score_worths)], narrowed := true }
def ScoreHoldsUptoSaid : Prop := scoreHoldsUptoRow.holds Tryd.pinned (OpenSpec.upto scoreHoldsSpec)

end Rows
end Go.Proofs.YtpbcbomlhcbfjaaDoor
