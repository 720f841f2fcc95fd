/- All contracts by hand of this seat, together. No condition of its own. -/
import Derived.Test.YtopcnhppbmmbbaaHandOrd
import Derived.Test.YtopcnhppbmmbbaaHandIrr
import Derived.Test.YtopcnhppbmmbbaaHandIdxI
import Derived.Test.YtopcnhppbmmbbaaHandSys
import Derived.Test.YtopcnhppbmmbbaaHandMOI
namespace Go.Proofs.Ytopcnhppbmmbbaa.Hand
end Go.Proofs.Ytopcnhppbmmbbaa.Hand
