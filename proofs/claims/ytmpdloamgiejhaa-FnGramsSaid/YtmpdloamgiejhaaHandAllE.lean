/- The hand contracts of this seat together. No condition. -/
import Derived.Test.YtmpdloamgiejhaaHandArcs8
import Derived.Test.YtmpdloamgiejhaaHandHalf
