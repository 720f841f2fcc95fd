/- The hand contracts of this seat together. No condition. -/
import Derived.Test.YtgllnmefcikdnaaHandPairs
import Derived.Test.YtgllnmefcikdnaaHandHalf
