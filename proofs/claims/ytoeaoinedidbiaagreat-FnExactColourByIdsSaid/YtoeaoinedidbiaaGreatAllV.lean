/- All functions' propositions of this seat. -/
import Derived.Test.YtoeaoinedidbiaaGreatV0
import Derived.Test.YtoeaoinedidbiaaGreatV1
import Derived.Test.YtoeaoinedidbiaaGreatV2
