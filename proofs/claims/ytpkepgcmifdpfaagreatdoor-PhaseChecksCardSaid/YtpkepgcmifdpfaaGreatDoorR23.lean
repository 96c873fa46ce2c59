/- A bundle of texts: SortK. -/
import Derived.Test.YtpkepgcmifdpfaaGreatDoorR01
import Derived.Shelf.SlSortCmp.NoneTotal
section
namespace Go.Proofs.YtpkepgcmifdpfaaGreatDoor
open Go Go.RowKit Go.Sort Go.Proofs
section
variable {α : Type} [Inhabited α] {size : Nat} {cell : α → Nat → Value}
omit [Inhabited α] in
end
end Go.Proofs.YtpkepgcmifdpfaaGreatDoor
end
