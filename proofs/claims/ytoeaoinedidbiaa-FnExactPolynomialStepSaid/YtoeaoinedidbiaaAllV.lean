/- All functions' propositions of this seat. -/
import Derived.Test.YtoeaoinedidbiaaV0
import Derived.Test.YtoeaoinedidbiaaV1
import Derived.Test.YtoeaoinedidbiaaV2
import Derived.Test.YtoeaoinedidbiaaV3
import Derived.Test.YtoeaoinedidbiaaV4
import Derived.Test.YtoeaoinedidbiaaV5
import Derived.Test.YtoeaoinedidbiaaV6
import Derived.Test.YtoeaoinedidbiaaV7
import Derived.Test.YtoeaoinedidbiaaVStable
