/- A bundle of texts: LoopMI. -/
import Derived.Test.YtpkepgcmifdpfaaGreatDoorR10
import Derived.Test.YtpkepgcmifdpfaaGreatDoorR20
import Derived.Sort.LoopGhostIn
import Derived.WalkMore
section
namespace Go.Proofs.YtpkepgcmifdpfaaGreatDoor
open Go Go.RowKit
section
variable {P : Program} {b : Frame} {k : List Item} {cs : List Frame} {a : Act} {w : World}
end
section
variable {P : Program}
end
def blockOf (n : Nat) : Code → Option Code
 | .seq a b => (blockOf n a).orElse fun _ => blockOf n b
 | .cond _ a b => (blockOf n a).orElse fun _ => blockOf n b
 | .block i a => if i = n then some (.block i a) else blockOf n a
 | .loop a => blockOf n a
 | .scope a => blockOf n a
 | .rangeFunc _ _ a b => (blockOf n a).orElse fun _ => blockOf n b
 | _ => none
end Go.Proofs.YtpkepgcmifdpfaaGreatDoor
end
