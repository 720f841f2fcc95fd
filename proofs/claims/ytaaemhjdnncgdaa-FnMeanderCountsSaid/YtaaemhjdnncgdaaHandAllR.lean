/- The hand contracts of this seat together. No condition. -/
import Derived.Test.YtaaemhjdnncgdaaHandAll
import Derived.Test.YtaaemhjdnncgdaaHandRain
