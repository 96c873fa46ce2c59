/- A bundle of texts: Num3. -/
import Derived.Test.YtciolgmljpamlaaGreatDoorB12
import Derived.Test.YtciolgmljpamlaaGreatDoorB13
import Derived.Deep.RegionLaw
section
/- The contracts of the reference's Abs and Times. -/
namespace Go.Proofs.YtciolgmljpamlaaGreatDoor
open Go Go.RowKit
set_option maxRecDepth 100000
end Go.Proofs.YtciolgmljpamlaaGreatDoor
/- The contracts of the reference's Tenth and Order (against ten). -/
namespace Go.Proofs.YtciolgmljpamlaaGreatDoor
open Go Go.RowKit
set_option maxRecDepth 100000
end Go.Proofs.YtciolgmljpamlaaGreatDoor
/- The contract of the reference's Make at numbers from 0 on. -/
namespace Go.Proofs.YtciolgmljpamlaaGreatDoor
open Go Go.RowKit
set_option maxRecDepth 100000
end Go.Proofs.YtciolgmljpamlaaGreatDoor
/- The contract of the reference's Of at numbers from 0 on. -/
namespace Go.Proofs.YtciolgmljpamlaaGreatDoor
open Go Go.RowKit
set_option maxRecDepth 100000
end Go.Proofs.YtciolgmljpamlaaGreatDoor
/- The contract of the reference's Free. -/
namespace Go.Proofs.YtciolgmljpamlaaGreatDoor
open Go Go.RowKit
set_option maxRecDepth 100000
end Go.Proofs.YtciolgmljpamlaaGreatDoor
end
