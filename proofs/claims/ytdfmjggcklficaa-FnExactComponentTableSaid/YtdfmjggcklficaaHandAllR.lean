/- The hand contracts of this seat together. No condition. -/
import Derived.Test.YtdfmjggcklficaaHandAll
import Derived.Test.YtdfmjggcklficaaHandRain
