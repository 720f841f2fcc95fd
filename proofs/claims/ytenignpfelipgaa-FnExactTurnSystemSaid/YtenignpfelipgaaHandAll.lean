/- The hand contracts of this seat together. No condition. -/
import Derived.Test.YtenignpfelipgaaHandArcs
import Derived.Test.YtenignpfelipgaaHandBrk
import Derived.Test.YtenignpfelipgaaHandWalk
import Derived.Test.YtenignpfelipgaaHandComp
