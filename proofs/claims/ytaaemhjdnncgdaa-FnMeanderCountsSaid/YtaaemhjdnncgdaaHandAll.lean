/- The hand contracts of this seat together. No condition. -/
import Derived.Test.YtaaemhjdnncgdaaHandArcs
import Derived.Test.YtaaemhjdnncgdaaHandBrk
import Derived.Test.YtaaemhjdnncgdaaHandWalk
import Derived.Test.YtaaemhjdnncgdaaHandComp
