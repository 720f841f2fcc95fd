/- The hand contracts of this seat together. No condition. -/
import Derived.Test.YtdfmjggcklficaaHandArcs
import Derived.Test.YtdfmjggcklficaaHandBrk
import Derived.Test.YtdfmjggcklficaaHandWalk
import Derived.Test.YtdfmjggcklficaaHandComp
