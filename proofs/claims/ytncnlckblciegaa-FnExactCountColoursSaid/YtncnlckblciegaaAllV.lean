/- All functions' propositions of this seat. -/
import Derived.Test.YtncnlckblciegaaV0
import Derived.Test.YtncnlckblciegaaV1
import Derived.Test.YtncnlckblciegaaV2
import Derived.Test.YtncnlckblciegaaV3
import Derived.Test.YtncnlckblciegaaV4
import Derived.Test.YtncnlckblciegaaV5
