/- The hand contracts of this seat together. No condition. -/
import Derived.Test.YtenignpfelipgaaHandArcs
import Derived.Test.YtenignpfelipgaaHandBrk
