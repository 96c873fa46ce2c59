/- A bundle of texts: SortK. -/
import Derived.Test.YtjoomgojnpcbeaaDoorK03
import Derived.Shelf.SlSortCmp.NoneTotal
section
namespace Go.Proofs.YtjoomgojnpcbeaaDoor
open Go Go.RowKit Go.Sort Go.Proofs
section
variable {α : Type} [Inhabited α] {size : Nat} {cell : α → Nat → Value}
omit [Inhabited α] in
end
end Go.Proofs.YtjoomgojnpcbeaaDoor
end
