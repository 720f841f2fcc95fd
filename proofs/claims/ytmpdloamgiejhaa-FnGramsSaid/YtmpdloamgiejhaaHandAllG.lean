/- The hand contracts of this seat together. No condition. -/
import Derived.Test.YtmpdloamgiejhaaHandPairs
import Derived.Test.YtmpdloamgiejhaaHandHalf
