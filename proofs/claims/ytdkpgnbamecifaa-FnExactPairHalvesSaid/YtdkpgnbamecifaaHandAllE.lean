/- The hand contracts of this seat together. No condition. -/
import Derived.Test.YtdkpgnbamecifaaHandArcs8
import Derived.Test.YtdkpgnbamecifaaHandHalf
