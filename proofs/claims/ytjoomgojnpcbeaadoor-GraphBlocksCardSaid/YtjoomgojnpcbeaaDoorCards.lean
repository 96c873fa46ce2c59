/-
  DERIVED. GIVEN WITH THE SEED: THE CARDS: each row of YtjoomgojnpcbeaaDoorRows.lean that lists a variable, with what it lists TIED to the program's text (the seventh form; the later family's looks); each row that meets fmt, with fmt's text TOLD by the authors' own Lean function (tested against real Go, not proved from fmt's source: count such statements apart). THE CARD IS WHAT COUNTS. Prove the row's statement (the work); the ties are given (YtjoomgojnpcbeaaDoorTie.lean); close each card by the builder's one call (the guide's Derived/Test/ToyasCard.lean, 'card_holds'). Laid BY PROGRAM, IN A SANDBOX (cutbox-door.mjs). By AI agents, Wed Nov 11 2026. No macro, syntax, notation, axiom, sorry.
-/
import Derived.Test.YtjoomgojnpcbeaaDoorRows
import GoSem.ClaimSeven
namespace Go.Proofs.YtjoomgojnpcbeaaDoor
namespace Rows

/-- THE TIED CARD OF 'bandplanlaw08.GraphComponents'. -/
def graphComponentsCard : Claim7 := { stood := { row := graphComponentsRow, standIns := [], harness := (true, "60c701d19b3ede0cf7d9d62c33446c78cdfad6de9033a58fed7d5768fa0598ce"), looks := false }, kinds := [], alts := [], laidByText := true, laidKinds := [.data], laidTests := true, laidLooks := .later }
def GraphComponentsCardSaid : Prop := Claim7.holds Tryd.pinned (.plain (OpenSpec.ofChange graphComponentsSpec)) graphComponentsCard

/-- THE TIED CARD OF 'bandplanlaw08.GraphBlocks'. -/
def graphBlocksCard : Claim7 := { stood := { row := graphBlocksRow, standIns := [], harness := (true, "60c701d19b3ede0cf7d9d62c33446c78cdfad6de9033a58fed7d5768fa0598ce"), looks := false }, kinds := [], alts := [], laidByText := true, laidKinds := [.data], laidTests := true, laidLooks := .later }
def GraphBlocksCardSaid : Prop := Claim7.holds Tryd.pinned (.plain (OpenSpec.ofChange graphBlocksSpec)) graphBlocksCard

/-- THE TIED CARD OF 'bandplanlaw08.GraphRemoves'. -/
def graphRemovesCard : Claim7 := { stood := { row := graphRemovesRow, standIns := [], harness := (true, "60c701d19b3ede0cf7d9d62c33446c78cdfad6de9033a58fed7d5768fa0598ce"), looks := false }, kinds := [], alts := [], laidByText := true, laidKinds := [.data], laidTests := true, laidLooks := .later }
def GraphRemovesCardSaid : Prop := Claim7.holds Tryd.pinned (.plain (OpenSpec.ofChange graphRemovesSpec)) graphRemovesCard

/-- THE TIED CARD OF 'bandplanlaw08.GraphColours'. -/
def graphColoursCard : Claim7 := { stood := { row := graphColoursRow, standIns := [], harness := (true, "60c701d19b3ede0cf7d9d62c33446c78cdfad6de9033a58fed7d5768fa0598ce"), looks := false }, kinds := [], alts := [], laidByText := true, laidKinds := [.data], laidTests := true, laidLooks := .later }
def GraphColoursCardSaid : Prop := Claim7.holds Tryd.pinned (.plain (OpenSpec.ofChange graphColoursSpec)) graphColoursCard

/-- THE TIED CARD OF 'bandplanlaw08.GraphTheory'. -/
def graphTheoryCard : Claim7 := { stood := { row := graphTheoryRow, standIns := [], harness := (true, "60c701d19b3ede0cf7d9d62c33446c78cdfad6de9033a58fed7d5768fa0598ce"), looks := false }, kinds := [], alts := [], laidByText := true, laidKinds := [.data], laidTests := true, laidLooks := .later }
def GraphTheoryCardSaid : Prop := Claim7.holds Tryd.pinned (.plain (OpenSpec.ofChange graphTheorySpec)) graphTheoryCard

/-- THE TIED CARD OF 'bandplanlaw08.GraphAdds'. -/
def graphAddsCard : Claim7 := { stood := { row := graphAddsRow, standIns := [], harness := (true, "60c701d19b3ede0cf7d9d62c33446c78cdfad6de9033a58fed7d5768fa0598ce"), looks := false }, kinds := [], alts := [], laidByText := true, laidKinds := [.data], laidTests := true, laidLooks := .later }
def GraphAddsCardSaid : Prop := Claim7.holds Tryd.pinned (.plain (OpenSpec.ofChange graphAddsSpec)) graphAddsCard

/-- THE TIED CARD OF 'bandplanlaw08.GraphCopies'. -/
def graphCopiesCard : Claim7 := { stood := { row := graphCopiesRow, standIns := [], harness := (true, "60c701d19b3ede0cf7d9d62c33446c78cdfad6de9033a58fed7d5768fa0598ce"), looks := false }, kinds := [], alts := [], laidByText := true, laidKinds := [.data], laidTests := true, laidLooks := .later }
def GraphCopiesCardSaid : Prop := Claim7.holds Tryd.pinned (.plain (OpenSpec.ofChange graphCopiesSpec)) graphCopiesCard

/-- THE TIED CARD OF 'bandplanlaw08.GraphNone'. -/
def graphNoneCard : Claim7 := { stood := { row := graphNoneRow, standIns := [], harness := (true, "60c701d19b3ede0cf7d9d62c33446c78cdfad6de9033a58fed7d5768fa0598ce"), looks := false }, kinds := [], alts := [], laidByText := true, laidKinds := [.data], laidTests := true, laidLooks := .later }
def GraphNoneCardSaid : Prop := Claim7.holds Tryd.pinned (.plain (OpenSpec.ofChange graphNoneSpec)) graphNoneCard

/-- THE SECOND FORM's CARD OF 'bandplanlaw08.GraphComponents'. -/
def graphComponentsUptoCard : Claim7 := { stood := { row := graphComponentsUptoRow, standIns := [], harness := (true, "60c701d19b3ede0cf7d9d62c33446c78cdfad6de9033a58fed7d5768fa0598ce"), looks := false }, kinds := [], alts := [], laidByText := true, laidKinds := [.data], laidTests := true, laidLooks := .later }
def GraphComponentsUptoCardSaid : Prop := Claim7.holds Tryd.pinned (.plain (OpenSpec.upto graphComponentsSpec)) graphComponentsUptoCard

/-- THE SECOND FORM's CARD OF 'bandplanlaw08.GraphBlocks'. -/
def graphBlocksUptoCard : Claim7 := { stood := { row := graphBlocksUptoRow, standIns := [], harness := (true, "60c701d19b3ede0cf7d9d62c33446c78cdfad6de9033a58fed7d5768fa0598ce"), looks := false }, kinds := [], alts := [], laidByText := true, laidKinds := [.data], laidTests := true, laidLooks := .later }
def GraphBlocksUptoCardSaid : Prop := Claim7.holds Tryd.pinned (.plain (OpenSpec.upto graphBlocksSpec)) graphBlocksUptoCard

/-- THE SECOND FORM's CARD OF 'bandplanlaw08.GraphRemoves'. -/
def graphRemovesUptoCard : Claim7 := { stood := { row := graphRemovesUptoRow, standIns := [], harness := (true, "60c701d19b3ede0cf7d9d62c33446c78cdfad6de9033a58fed7d5768fa0598ce"), looks := false }, kinds := [], alts := [], laidByText := true, laidKinds := [.data], laidTests := true, laidLooks := .later }
def GraphRemovesUptoCardSaid : Prop := Claim7.holds Tryd.pinned (.plain (OpenSpec.upto graphRemovesSpec)) graphRemovesUptoCard

/-- THE SECOND FORM's CARD OF 'bandplanlaw08.GraphColours'. -/
def graphColoursUptoCard : Claim7 := { stood := { row := graphColoursUptoRow, standIns := [], harness := (true, "60c701d19b3ede0cf7d9d62c33446c78cdfad6de9033a58fed7d5768fa0598ce"), looks := false }, kinds := [], alts := [], laidByText := true, laidKinds := [.data], laidTests := true, laidLooks := .later }
def GraphColoursUptoCardSaid : Prop := Claim7.holds Tryd.pinned (.plain (OpenSpec.upto graphColoursSpec)) graphColoursUptoCard

/-- THE SECOND FORM's CARD OF 'bandplanlaw08.GraphTheory'. -/
def graphTheoryUptoCard : Claim7 := { stood := { row := graphTheoryUptoRow, standIns := [], harness := (true, "60c701d19b3ede0cf7d9d62c33446c78cdfad6de9033a58fed7d5768fa0598ce"), looks := false }, kinds := [], alts := [], laidByText := true, laidKinds := [.data], laidTests := true, laidLooks := .later }
def GraphTheoryUptoCardSaid : Prop := Claim7.holds Tryd.pinned (.plain (OpenSpec.upto graphTheorySpec)) graphTheoryUptoCard

/-- THE SECOND FORM's CARD OF 'bandplanlaw08.GraphAdds'. -/
def graphAddsUptoCard : Claim7 := { stood := { row := graphAddsUptoRow, standIns := [], harness := (true, "60c701d19b3ede0cf7d9d62c33446c78cdfad6de9033a58fed7d5768fa0598ce"), looks := false }, kinds := [], alts := [], laidByText := true, laidKinds := [.data], laidTests := true, laidLooks := .later }
def GraphAddsUptoCardSaid : Prop := Claim7.holds Tryd.pinned (.plain (OpenSpec.upto graphAddsSpec)) graphAddsUptoCard

/-- THE SECOND FORM's CARD OF 'bandplanlaw08.GraphCopies'. -/
def graphCopiesUptoCard : Claim7 := { stood := { row := graphCopiesUptoRow, standIns := [], harness := (true, "60c701d19b3ede0cf7d9d62c33446c78cdfad6de9033a58fed7d5768fa0598ce"), looks := false }, kinds := [], alts := [], laidByText := true, laidKinds := [.data], laidTests := true, laidLooks := .later }
def GraphCopiesUptoCardSaid : Prop := Claim7.holds Tryd.pinned (.plain (OpenSpec.upto graphCopiesSpec)) graphCopiesUptoCard

/-- THE SECOND FORM's CARD OF 'bandplanlaw08.GraphNone'. -/
def graphNoneUptoCard : Claim7 := { stood := { row := graphNoneUptoRow, standIns := [], harness := (true, "60c701d19b3ede0cf7d9d62c33446c78cdfad6de9033a58fed7d5768fa0598ce"), looks := false }, kinds := [], alts := [], laidByText := true, laidKinds := [.data], laidTests := true, laidLooks := .later }
def GraphNoneUptoCardSaid : Prop := Claim7.holds Tryd.pinned (.plain (OpenSpec.upto graphNoneSpec)) graphNoneUptoCard
end Rows
end Go.Proofs.YtjoomgojnpcbeaaDoor
