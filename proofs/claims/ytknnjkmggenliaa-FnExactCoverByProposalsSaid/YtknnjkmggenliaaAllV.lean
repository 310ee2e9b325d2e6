/- All functions' propositions of this seat. -/
import Derived.Test.YtknnjkmggenliaaV0
import Derived.Test.YtknnjkmggenliaaV1
import Derived.Test.YtknnjkmggenliaaV2
import Derived.Test.YtknnjkmggenliaaV3
import Derived.Test.YtknnjkmggenliaaV4
import Derived.Test.YtknnjkmggenliaaV5
import Derived.Test.YtknnjkmggenliaaV6
import Derived.Test.YtknnjkmggenliaaV7
