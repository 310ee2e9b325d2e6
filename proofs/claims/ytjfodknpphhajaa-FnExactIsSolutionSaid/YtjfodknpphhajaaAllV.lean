/- All functions' propositions of this seat. -/
import Derived.Test.YtjfodknpphhajaaV0
import Derived.Test.YtjfodknpphhajaaV1
import Derived.Test.YtjfodknpphhajaaV2
import Derived.Test.YtjfodknpphhajaaVCmp
import Derived.Test.YtjfodknpphhajaaVStable
