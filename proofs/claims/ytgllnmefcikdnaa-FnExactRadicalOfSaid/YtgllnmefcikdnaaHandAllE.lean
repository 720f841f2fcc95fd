/- The hand contracts of this seat together. No condition. -/
import Derived.Test.YtgllnmefcikdnaaHandArcs8
import Derived.Test.YtgllnmefcikdnaaHandHalf
