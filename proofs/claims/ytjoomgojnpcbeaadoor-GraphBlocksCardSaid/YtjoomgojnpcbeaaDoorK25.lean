/- A bundle of texts: GhCp. -/
import Derived.Test.YtjoomgojnpcbeaaDoorK10
import Derived.Lib.SliceRun
section
namespace Go.Proofs.YtjoomgojnpcbeaaDoor
open Go Go.RowKit
set_option maxRecDepth 100000
end Go.Proofs.YtjoomgojnpcbeaaDoor
end
