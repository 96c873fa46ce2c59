/- A bundle of texts: RegOf. -/
import Derived.Test.YtciolgmljpamlaaGreatDoorB01
/- One region of a function's body, by its number: a lemma about it alone. -/
section
namespace Go.Proofs.YtciolgmljpamlaaGreatDoor
open Go Go.RowKit

/-- The region of a body with a number. -/
def regionOf (n : Nat) : Code → Option Code
  | .region i ops d => if i = n then some (.region i ops d) else none
  | .seq a b => (regionOf n a).orElse fun _ => regionOf n b
  | .cond _ a b => (regionOf n a).orElse fun _ => regionOf n b
  | .block _ a => regionOf n a
  | .loop a => regionOf n a
  | .scope a => regionOf n a
  | .rangeFunc _ _ a b => (regionOf n a).orElse fun _ => regionOf n b
  | _ => none
end Go.Proofs.YtciolgmljpamlaaGreatDoor
end
