/- slices.DeleteFunc at []int. -/
import Derived.Test.YtknnjkmggenliaaLib
import Derived.Test.YtknnjkmggenliaaWrite
namespace Go.Proofs.Ytknnjkmggenliaa
open Go.GX Go.RowKit
set_option maxRecDepth 100000

end Go.Proofs.Ytknnjkmggenliaa
