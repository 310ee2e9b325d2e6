/- slices.DeleteFunc at []int. -/
import Derived.Test.YtncnlckblciegaaLib
import Derived.Test.YtncnlckblciegaaWrite
namespace Go.Proofs.Ytncnlckblciegaa
open Go.GX Go.RowKit
set_option maxRecDepth 100000

end Go.Proofs.Ytncnlckblciegaa
