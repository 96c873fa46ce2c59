/- A bundle of texts: TerOpen. -/
import Derived.Test.YtciolgmljpamlaaGreatDoorB42
import Derived.Test.YtciolgmljpamlaaGreatDoorB10
section
namespace Go.Proofs.YtciolgmljpamlaaGreatDoor
open Go.ChangeShapes Go.WideShapes Go.RowKit Go.Deep
set_option maxRecDepth 100000
end Go.Proofs.YtciolgmljpamlaaGreatDoor
end
