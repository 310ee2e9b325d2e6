/- All functions' propositions of this seat. -/
import Derived.Test.YtcilbmkieclelaaV0
import Derived.Test.YtcilbmkieclelaaV1
import Derived.Test.YtcilbmkieclelaaV2
import Derived.Test.YtcilbmkieclelaaV3
import Derived.Test.YtcilbmkieclelaaV4
import Derived.Test.YtcilbmkieclelaaV5
