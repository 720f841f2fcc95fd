/- Pairs of half diagrams of at most seven points: the program and the reference pair alike. No condition. -/
import Derived.Test.YtdkpgnbamecifaaPA
namespace Go.Proofs.Ytdkpgnbamecifaa.PT
open Go.RowKit Go.Proofs.Ytdkpgnbamecifaa.Q Go.Proofs.Ytdkpgnbamecifaa.Hand Go.Proofs.YtdkpgnbamecifaaW.PrintWords Go.Proofs.YtdkpgnbamecifaaW.PrintLast Go.Proofs.Ytdkpgnbamecifaa.PA


def pairb (x y : List UInt8) : Bool := match spec_l04Pair.f ⟨x.toArray⟩ ⟨y.toArray⟩, impl_paired.f ⟨x.toArray⟩ ⟨y.toArray⟩ with
  | some a, some b => a == b
  | _, _ => false
set_option maxRecDepth 100000 in
theorem pairs1 : ((halvesV 1).all fun x => (halvesV 1).all fun y => pairb x y) = true := by decide +kernel
set_option maxRecDepth 100000 in
theorem pairs2 : ((halvesV 2).all fun x => (halvesV 2).all fun y => pairb x y) = true := by decide +kernel
set_option maxRecDepth 100000 in
theorem pairs3 : ((halvesV 3).all fun x => (halvesV 3).all fun y => pairb x y) = true := by decide +kernel
set_option maxRecDepth 100000 in
theorem pairs4 : ((halvesV 4).all fun x => (halvesV 4).all fun y => pairb x y) = true := by decide +kernel
set_option maxRecDepth 100000 in
theorem pairs5 : ((halvesV 5).all fun x => (halvesV 5).all fun y => pairb x y) = true := by decide +kernel
set_option maxRecDepth 100000 in
theorem pairs6 : ((halvesV 6).all fun x => (halvesV 6).all fun y => pairb x y) = true := by decide +kernel
set_option maxRecDepth 100000 in
theorem pairs7 : ((halvesV 7).all fun x => (halvesV 7).all fun y => pairb x y) = true := by decide +kernel

end Go.Proofs.Ytdkpgnbamecifaa.PT
