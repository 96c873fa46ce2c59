/-
  DERIVED. GIVEN WITH THE SEED: THE CARDS: each row of YtceobfigfmnacaaDoorRows.lean that lists a variable, with what it lists TIED to the program's text (the seventh form; the later family's looks); each row that meets fmt, with fmt's text TOLD by the authors' own Lean function (tested against real Go, not proved from fmt's source: count such statements apart). THE CARD IS WHAT COUNTS. Prove the row's statement (the work); the ties are given (YtceobfigfmnacaaDoorTie.lean); close each card by the builder's one call (the guide's Derived/Test/ToyasCard.lean, 'card_holds'). Laid BY PROGRAM, IN A SANDBOX (cutbox-door.mjs). By AI agents, Wed Nov 11 2026. No macro, syntax, notation, axiom, sorry.
-/
import Derived.Test.YtceobfigfmnacaaDoorRows
import GoSem.ClaimSeven
namespace Go.Proofs.YtceobfigfmnacaaDoor
namespace Rows

/-- THE TIED CARD OF 'bandplanlaw47.DependForbids'. -/
def dependForbidsCard : Claim7 := { stood := { row := dependForbidsRow, standIns := [], harness := (true, "074d9066773e3fecf21777faccb39a0197ce4fbafa6f0fdf5f9fdf88c2d71a4a"), looks := false }, kinds := [], alts := [], laidByText := true, laidKinds := [.data], laidTests := true, laidLooks := .later }
def DependForbidsCardSaid : Prop := Claim7.holds Tryd.pinned (.plain (OpenSpec.ofChange dependForbidsSpec)) dependForbidsCard

/-- THE TIED CARD OF 'bandplanlaw47.DependGroups'. -/
def dependGroupsCard : Claim7 := { stood := { row := dependGroupsRow, standIns := [], harness := (true, "074d9066773e3fecf21777faccb39a0197ce4fbafa6f0fdf5f9fdf88c2d71a4a"), looks := false }, kinds := [], alts := [], laidByText := true, laidKinds := [.data], laidTests := true, laidLooks := .later }
def DependGroupsCardSaid : Prop := Claim7.holds Tryd.pinned (.plain (OpenSpec.ofChange dependGroupsSpec)) dependGroupsCard

/-- THE TIED CARD OF 'bandplanlaw47.DependLegal'. -/
def dependLegalCard : Claim7 := { stood := { row := dependLegalRow, standIns := [], harness := (true, "074d9066773e3fecf21777faccb39a0197ce4fbafa6f0fdf5f9fdf88c2d71a4a"), looks := false }, kinds := [], alts := [], laidByText := true, laidKinds := [.data], laidTests := true, laidLooks := .later }
def DependLegalCardSaid : Prop := Claim7.holds Tryd.pinned (.plain (OpenSpec.ofChange dependLegalSpec)) dependLegalCard

/-- THE TIED CARD OF 'bandplanlaw47.DependHolds'. -/
def dependHoldsCard : Claim7 := { stood := { row := dependHoldsRow, standIns := [], harness := (true, "074d9066773e3fecf21777faccb39a0197ce4fbafa6f0fdf5f9fdf88c2d71a4a"), looks := false }, kinds := [], alts := [], laidByText := true, laidKinds := [.data], laidTests := true, laidLooks := .later }
def DependHoldsCardSaid : Prop := Claim7.holds Tryd.pinned (.plain (OpenSpec.ofChange dependHoldsSpec)) dependHoldsCard

/-- THE TIED CARD OF 'bandplanlaw47.DependFull'. -/
def dependFullCard : Claim7 := { stood := { row := dependFullRow, standIns := [], harness := (true, "074d9066773e3fecf21777faccb39a0197ce4fbafa6f0fdf5f9fdf88c2d71a4a"), looks := false }, kinds := [], alts := [], laidByText := true, laidKinds := [.data], laidTests := true, laidLooks := .later }
def DependFullCardSaid : Prop := Claim7.holds Tryd.pinned (.plain (OpenSpec.ofChange dependFullSpec)) dependFullCard

/-- THE TIED CARD OF 'bandplanlaw47.DependEdges'. -/
def dependEdgesCard : Claim7 := { stood := { row := dependEdgesRow, standIns := [], harness := (true, "074d9066773e3fecf21777faccb39a0197ce4fbafa6f0fdf5f9fdf88c2d71a4a"), looks := false }, kinds := [], alts := [], laidByText := true, laidKinds := [.data], laidTests := true, laidLooks := .later }
def DependEdgesCardSaid : Prop := Claim7.holds Tryd.pinned (.plain (OpenSpec.ofChange dependEdgesSpec)) dependEdgesCard

/-- THE SECOND FORM's CARD OF 'bandplanlaw47.DependForbids'. -/
def dependForbidsUptoCard : Claim7 := { stood := { row := dependForbidsUptoRow, standIns := [], harness := (true, "074d9066773e3fecf21777faccb39a0197ce4fbafa6f0fdf5f9fdf88c2d71a4a"), looks := false }, kinds := [], alts := [], laidByText := true, laidKinds := [.data], laidTests := true, laidLooks := .later }
def DependForbidsUptoCardSaid : Prop := Claim7.holds Tryd.pinned (.plain (OpenSpec.upto dependForbidsSpec)) dependForbidsUptoCard

/-- THE SECOND FORM's CARD OF 'bandplanlaw47.DependGroups'. -/
def dependGroupsUptoCard : Claim7 := { stood := { row := dependGroupsUptoRow, standIns := [], harness := (true, "074d9066773e3fecf21777faccb39a0197ce4fbafa6f0fdf5f9fdf88c2d71a4a"), looks := false }, kinds := [], alts := [], laidByText := true, laidKinds := [.data], laidTests := true, laidLooks := .later }
def DependGroupsUptoCardSaid : Prop := Claim7.holds Tryd.pinned (.plain (OpenSpec.upto dependGroupsSpec)) dependGroupsUptoCard

/-- THE SECOND FORM's CARD OF 'bandplanlaw47.DependLegal'. -/
def dependLegalUptoCard : Claim7 := { stood := { row := dependLegalUptoRow, standIns := [], harness := (true, "074d9066773e3fecf21777faccb39a0197ce4fbafa6f0fdf5f9fdf88c2d71a4a"), looks := false }, kinds := [], alts := [], laidByText := true, laidKinds := [.data], laidTests := true, laidLooks := .later }
def DependLegalUptoCardSaid : Prop := Claim7.holds Tryd.pinned (.plain (OpenSpec.upto dependLegalSpec)) dependLegalUptoCard

/-- THE SECOND FORM's CARD OF 'bandplanlaw47.DependHolds'. -/
def dependHoldsUptoCard : Claim7 := { stood := { row := dependHoldsUptoRow, standIns := [], harness := (true, "074d9066773e3fecf21777faccb39a0197ce4fbafa6f0fdf5f9fdf88c2d71a4a"), looks := false }, kinds := [], alts := [], laidByText := true, laidKinds := [.data], laidTests := true, laidLooks := .later }
def DependHoldsUptoCardSaid : Prop := Claim7.holds Tryd.pinned (.plain (OpenSpec.upto dependHoldsSpec)) dependHoldsUptoCard

/-- THE SECOND FORM's CARD OF 'bandplanlaw47.DependFull'. -/
def dependFullUptoCard : Claim7 := { stood := { row := dependFullUptoRow, standIns := [], harness := (true, "074d9066773e3fecf21777faccb39a0197ce4fbafa6f0fdf5f9fdf88c2d71a4a"), looks := false }, kinds := [], alts := [], laidByText := true, laidKinds := [.data], laidTests := true, laidLooks := .later }
def DependFullUptoCardSaid : Prop := Claim7.holds Tryd.pinned (.plain (OpenSpec.upto dependFullSpec)) dependFullUptoCard

/-- THE SECOND FORM's CARD OF 'bandplanlaw47.DependEdges'. -/
def dependEdgesUptoCard : Claim7 := { stood := { row := dependEdgesUptoRow, standIns := [], harness := (true, "074d9066773e3fecf21777faccb39a0197ce4fbafa6f0fdf5f9fdf88c2d71a4a"), looks := false }, kinds := [], alts := [], laidByText := true, laidKinds := [.data], laidTests := true, laidLooks := .later }
def DependEdgesUptoCardSaid : Prop := Claim7.holds Tryd.pinned (.plain (OpenSpec.upto dependEdgesSpec)) dependEdgesUptoCard
end Rows
end Go.Proofs.YtceobfigfmnacaaDoor
