/- A bundle of texts: HeldF, HeldG. -/
import Derived.Test.YtjoomgojnpcbeaaDoorK05
import Derived.OrdersHeld
import Derived.Test.YtjoomgojnpcbeaaDoorK03
import Derived.Maps.AppendAt
section
namespace Go.Proofs.YtjoomgojnpcbeaaDoor
open Go Go.RowKit
section
variable {P : Program} {md : Region.Mode} {ops : Array Oper} {Q : Exit → Act → World → Prop} {S : Array Bool → World → Prop} {Sx : World → Prop}
theorem wpOp_one {i : Nat} {o : Oper} {K : Act → World → Prop} {a : Act} {w : World} (hi : ops[i]? = some o) (hw : o.guard = none) (h : o.wp P a w K Q) : wpOp P ops Q i K a w := by
 unfold Go.wpOp
 simp only [hi]
 rw [if_pos (by simp [Region.wanted, hw])]
 exact .inl h
end
end Go.Proofs.YtjoomgojnpcbeaaDoor
end

section
namespace Go.Proofs.YtjoomgojnpcbeaaDoor
open Go Go.RowKit
set_option maxRecDepth 100000
theorem wpOp_K {P : Program} {ops : Array Oper} {Q : Exit → Act → World → Prop} {i : Nat} {K0 : Act → World → Prop} {a : Act} {w : World} (h : ∀ K : Act → World → Prop, (∀ a w, K0 a w → K a w) → wpOp P ops Q i K a w) : wpOp P ops Q i K0 a w := h _ (fun _ _ x => x)
end Go.Proofs.YtjoomgojnpcbeaaDoor
end
