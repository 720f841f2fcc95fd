/- The hand contracts of this seat together. No condition. -/
import Derived.Test.YtenignpfelipgaaHandAll
import Derived.Test.YtenignpfelipgaaHandOrd
import Derived.Test.YtenignpfelipgaaHandText
import Derived.Test.YtenignpfelipgaaHandIrr
import Derived.Test.YtenignpfelipgaaHandIdxI
import Derived.Test.YtenignpfelipgaaHandSys
