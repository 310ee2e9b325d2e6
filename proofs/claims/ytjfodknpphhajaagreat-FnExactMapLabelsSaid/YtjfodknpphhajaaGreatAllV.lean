/- All functions' propositions of this seat. -/
import Derived.Test.YtjfodknpphhajaaGreatV0
import Derived.Test.YtjfodknpphhajaaGreatV1
import Derived.Test.YtjfodknpphhajaaGreatVCmp
