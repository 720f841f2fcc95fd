/- Contracts, walks and rows for laws of the seat Ytbkokdpginghoaa, written by a program of this session out of the translation: plain Lean, checked by Lean. No condition. -/
import Derived.Test.YtbkokdpginghoaaQx0
import Derived.Test.YtbkokdpginghoaaQx1
import Derived.Test.YtbkokdpginghoaaQx2
import Derived.Test.YtbkokdpginghoaaQx3
import Derived.Test.YtbkokdpginghoaaQx4
import Derived.Test.YtbkokdpginghoaaQx5
import Derived.Test.YtbkokdpginghoaaQx7
import Derived.Test.YtbkokdpginghoaaQx8
import Derived.Test.YtbkokdpginghoaaQx9
import Derived.Test.YtbkokdpginghoaaQx10
import Derived.Test.YtbkokdpginghoaaQx11
namespace Go.Proofs.Ytbkokdpginghoaa.Q
open Go.Proofs.Ytbkokdpginghoaa.Hand
open Go.RowKit Go.Proofs.YtbkokdpginghoaaW.PrintWords Go.Proofs.YtbkokdpginghoaaW.PrintLast Go.Proofs.YtbkokdpginghoaaW.PrintMore
attribute [local go_sem] max2_int min2_int max_two min_two max_three min_three max_four min_four   -- for this text's walks alone
set_option linter.unusedVariables false
set_option linter.unusedSimpArgs false

/-! ### laws_FnFusion: function 8 -/
mutual
def laws_FnFusion.j0 : Nat → List Int → Int → Int → Int → Int → Int → Int → Int → Bool → Option (Bool)
 | 0, _, _, _, _, _, _, _, _, _ => none
 | k + 1, x0, x3, x4, x5, x6, x7, x8, x9, x94 => if x94 = true then (some false) else (if x9 = 0 then ((impl_ThetaNumber.f k x3 x4 x6 x7 x5).bind fun bt398 => ((impl_ThetaNumber.f k x3 x4 x6 x5 x7).bind fun bt400 => ((impl_IsAdmissible.f k x3 x4 x7 x6 x5).bind fun bt402 => (if bt398.2 = 0 then (if bt400.2 = 0 then (if bt402.2 = 0 then (if bt398.1 = x8 then (if bt400.1 = x8 then (if bt402.1 = true then (laws_FnFusion.j1 k x0) else (some false)) else (some false)) else (some false)) else (some false)) else (some false)) else (some false))))) else (laws_FnFusion.j1 k x0))
def laws_FnFusion.j1 : Nat → List Int → Option (Bool)
 | 0, _ => none
 | k + 1, x0 => (spec_DrawFusionOf.f k x0).bind fun bt404 => ((impl_FusionOf.f k bt404.1 bt404.2.1 bt404.2.2.1 bt404.2.2.2).bind fun bt408 => ((spec_FusionOf.f k bt404.1 bt404.2.1 bt404.2.2.1 bt404.2.2.2).bind fun bt412 => ((impl_FusionOf.f k bt404.1 bt404.2.1 bt404.2.2.2 bt404.2.2.1).bind fun bt416 => (if bt408.2 = bt412.2 then ((laws_likeInts.f k bt408.1 bt412.1).bind fun t420 => (if t420 = true then (if bt416.2 = bt408.2 then ((laws_likeInts.f k bt416.1 bt408.1).bind fun t421 => (laws_FnFusion.j2 k x0 (!t421))) else (laws_FnFusion.j2 k x0 true)) else (laws_FnFusion.j2 k x0 true))) else (laws_FnFusion.j2 k x0 true)))))
def laws_FnFusion.j2 : Nat → List Int → Bool → Option (Bool)
 | 0, _, _ => none
 | k + 1, x0, x198 => if x198 = true then (some false) else ((spec_DrawFirstZero.f k x0).bind fun bt422 => ((impl_FirstZero.f k bt422.1 bt422.2).bind fun bt424 => ((spec_FirstZero.f k bt422.1 bt422.2).bind fun bt426 => (if bt424.2 = bt426.2 then (laws_FnFusion.j3 k x0 bt422.1 bt422.2 bt424.1 bt424.2 (bt424.1 != bt426.1)) else (laws_FnFusion.j3 k x0 bt422.1 bt422.2 bt424.1 bt424.2 true)))))
def laws_FnFusion.j3 : Nat → List Int → Int → Int → Int → Int → Bool → Option (Bool)
 | 0, _, _, _, _, _, _ => none
 | k + 1, x0, x28, x29, x30, x31, x223 => if x223 = true then (some false) else (if x31 = 0 then (laws_FnFusion.j4 k x0 x28 x29 x30 (decide (x30 ≤ 1000))) else (laws_FnFusion.j4 k x0 x28 x29 x30 false))
def laws_FnFusion.j4 : Nat → List Int → Int → Int → Int → Bool → Option (Bool)
 | 0, _, _, _, _, _ => none
 | k + 1, x0, x28, x29, x30, x229 => if x229 = true then ((impl_ChebyshevNumber.f k x28 x29 x30).bind fun bt428 => (if bt428.2 = 0 then (if bt428.1 = 0 then (if x30 < 1 then (some false) else (laws_FnFusion.j5 k x0)) else (some false)) else (some false))) else (laws_FnFusion.j5 k x0)
def laws_FnFusion.j5 : Nat → List Int → Option (Bool)
 | 0, _ => none
 | k + 1, x0 => (spec_DrawChebyshevNumber.f k x0).bind fun bt430 => ((impl_ChebyshevNumber.f k bt430.1 bt430.2.1 bt430.2.2).bind fun bt433 => ((spec_ChebyshevNumber.f k bt430.1 bt430.2.1 bt430.2.2).bind fun bt435 => ((spec_DrawCountPaths.f k x0).bind fun bt437 => ((impl_CountPaths.f k bt437.1 bt437.2.1 bt437.2.2).bind fun bt440 => ((spec_CountPaths.f k bt437.1 bt437.2.1 bt437.2.2).bind fun bt442 => ((spec_DrawIsAdmissible.f k x0).bind fun bt444 => ((impl_IsAdmissible.f k bt444.1 bt444.2.1 bt444.2.2.1 bt444.2.2.2.1 bt444.2.2.2.2).bind fun bt449 => ((spec_IsAdmissible.f k bt444.1 bt444.2.1 bt444.2.2.1 bt444.2.2.2.1 bt444.2.2.2.2).bind fun bt451 => (if bt433.2 = bt435.2 then (if bt433.1 = bt435.1 then (if bt440.2 = bt442.2 then (if bt440.1 = bt442.1 then (if bt449.2 = bt451.2 then (some (bt449.1 == bt451.1)) else (some false)) else (some false)) else (some false)) else (some false)) else (some false))))))))))
end
def laws_FnFusion.f (k : Nat) (l0 : List Int) : Option (Bool) := (laws_big.f l0).bind fun t388 => (if t388 = true then (some true) else ((spec_DrawThetaNumber.f k l0).bind fun bt389 => ((impl_ThetaNumber.f k bt389.1 bt389.2.1 bt389.2.2.1 bt389.2.2.2.1 bt389.2.2.2.2).bind fun bt394 => ((spec_ThetaNumber.f k bt389.1 bt389.2.1 bt389.2.2.1 bt389.2.2.2.1 bt389.2.2.2.2).bind fun bt396 => (if bt394.2 = bt396.2 then (laws_FnFusion.j0 k l0 bt389.1 bt389.2.1 bt389.2.2.1 bt389.2.2.2.1 bt389.2.2.2.2 bt394.1 bt394.2 (bt394.1 != bt396.1)) else (laws_FnFusion.j0 k l0 bt389.1 bt389.2.1 bt389.2.2.1 bt389.2.2.2.1 bt389.2.2.2.2 bt394.1 bt394.2 true))))))
theorem laws_FnFusion.mono_l : ∀ k, (∀ y0 y1 y2 y3 y4 y5 y6 y7 y8, LeO (laws_FnFusion.j0 k y0 y1 y2 y3 y4 y5 y6 y7 y8) (laws_FnFusion.j0 (k + 1) y0 y1 y2 y3 y4 y5 y6 y7 y8)) ∧ (∀ y0, LeO (laws_FnFusion.j1 k y0) (laws_FnFusion.j1 (k + 1) y0)) ∧ (∀ y0 y1, LeO (laws_FnFusion.j2 k y0 y1) (laws_FnFusion.j2 (k + 1) y0 y1)) ∧ (∀ y0 y1 y2 y3 y4 y5, LeO (laws_FnFusion.j3 k y0 y1 y2 y3 y4 y5) (laws_FnFusion.j3 (k + 1) y0 y1 y2 y3 y4 y5)) ∧ (∀ y0 y1 y2 y3 y4, LeO (laws_FnFusion.j4 k y0 y1 y2 y3 y4) (laws_FnFusion.j4 (k + 1) y0 y1 y2 y3 y4)) ∧ (∀ y0, LeO (laws_FnFusion.j5 k y0) (laws_FnFusion.j5 (k + 1) y0))
 | 0 => ⟨fun _ _ _ _ _ _ _ _ _ r h => by simp [laws_FnFusion.j0] at h, fun _ r h => by simp [laws_FnFusion.j1] at h, fun _ _ r h => by simp [laws_FnFusion.j2] at h, fun _ _ _ _ _ _ r h => by simp [laws_FnFusion.j3] at h, fun _ _ _ _ _ r h => by simp [laws_FnFusion.j4] at h, fun _ r h => by simp [laws_FnFusion.j5] at h⟩
 | k + 1 => by
  obtain ⟨ih0, ih1, ih2, ih3, ih4, ih5⟩ := laws_FnFusion.mono_l k
  refine ⟨?_, ?_, ?_, ?_, ?_, ?_⟩
  ·intro y0 y1 y2 y3 y4 y5 y6 y7 y8
   unfold laws_FnFusion.j0
   repeat' first
   | (with_reducible exact ih0 _ _ _ _ _ _ _ _ _)
   | (with_reducible exact ih1 _)
   | (with_reducible exact ih2 _ _)
   | (with_reducible exact ih3 _ _ _ _ _ _)
   | (with_reducible exact ih4 _ _ _ _ _)
   | (with_reducible exact ih5 _)
   | (with_reducible exact impl_ChebyshevNumber.mono _ _ _ _)
   | (with_reducible exact impl_CountPaths.mono _ _ _ _)
   | (with_reducible exact impl_FirstZero.mono _ _ _)
   | (with_reducible exact impl_FusionOf.mono _ _ _ _ _)
   | (with_reducible exact impl_IsAdmissible.mono _ _ _ _ _ _)
   | (with_reducible exact impl_ThetaNumber.mono _ _ _ _ _ _)
   | (with_reducible exact laws_likeInts.mono _ _ _)
   | (with_reducible exact spec_ChebyshevNumber.mono _ _ _ _)
   | (with_reducible exact spec_CountPaths.mono _ _ _ _)
   | (with_reducible exact spec_DrawChebyshevNumber.mono _ _)
   | (with_reducible exact spec_DrawCountPaths.mono _ _)
   | (with_reducible exact spec_DrawFirstZero.mono _ _)
   | (with_reducible exact spec_DrawFusionOf.mono _ _)
   | (with_reducible exact spec_DrawIsAdmissible.mono _ _)
   | (with_reducible exact spec_DrawThetaNumber.mono _ _)
   | (with_reducible exact spec_FirstZero.mono _ _ _)
   | (with_reducible exact spec_FusionOf.mono _ _ _ _ _)
   | (with_reducible exact spec_IsAdmissible.mono _ _ _ _ _ _)
   | (with_reducible exact spec_ThetaNumber.mono _ _ _ _ _ _)
   | (with_reducible exact LeO.refl _)
   | (with_reducible exact LeO.none _)
   | (with_reducible refine LeO.ite ?_ ?_)
   | (with_reducible refine LeO.bind ?_ (fun _ => ?_))
   | exact ih0 _ _ _ _ _ _ _ _ _
   | exact ih1 _
   | exact ih2 _ _
   | exact ih3 _ _ _ _ _ _
   | exact ih4 _ _ _ _ _
   | exact ih5 _
   | exact impl_ChebyshevNumber.mono _ _ _ _
   | exact impl_CountPaths.mono _ _ _ _
   | exact impl_FirstZero.mono _ _ _
   | exact impl_FusionOf.mono _ _ _ _ _
   | exact impl_IsAdmissible.mono _ _ _ _ _ _
   | exact impl_ThetaNumber.mono _ _ _ _ _ _
   | exact laws_likeInts.mono _ _ _
   | exact spec_ChebyshevNumber.mono _ _ _ _
   | exact spec_CountPaths.mono _ _ _ _
   | exact spec_DrawChebyshevNumber.mono _ _
   | exact spec_DrawCountPaths.mono _ _
   | exact spec_DrawFirstZero.mono _ _
   | exact spec_DrawFusionOf.mono _ _
   | exact spec_DrawIsAdmissible.mono _ _
   | exact spec_DrawThetaNumber.mono _ _
   | exact spec_FirstZero.mono _ _ _
   | exact spec_FusionOf.mono _ _ _ _ _
   | exact spec_IsAdmissible.mono _ _ _ _ _ _
   | exact spec_ThetaNumber.mono _ _ _ _ _ _
   | exact LeO.none _
   | refine LeO.ite ?_ ?_
   | refine LeO.bind ?_ (fun _ => ?_)
  ·intro y0
   unfold laws_FnFusion.j1
   repeat' first
   | (with_reducible exact ih0 _ _ _ _ _ _ _ _ _)
   | (with_reducible exact ih1 _)
   | (with_reducible exact ih2 _ _)
   | (with_reducible exact ih3 _ _ _ _ _ _)
   | (with_reducible exact ih4 _ _ _ _ _)
   | (with_reducible exact ih5 _)
   | (with_reducible exact impl_ChebyshevNumber.mono _ _ _ _)
   | (with_reducible exact impl_CountPaths.mono _ _ _ _)
   | (with_reducible exact impl_FirstZero.mono _ _ _)
   | (with_reducible exact impl_FusionOf.mono _ _ _ _ _)
   | (with_reducible exact impl_IsAdmissible.mono _ _ _ _ _ _)
   | (with_reducible exact impl_ThetaNumber.mono _ _ _ _ _ _)
   | (with_reducible exact laws_likeInts.mono _ _ _)
   | (with_reducible exact spec_ChebyshevNumber.mono _ _ _ _)
   | (with_reducible exact spec_CountPaths.mono _ _ _ _)
   | (with_reducible exact spec_DrawChebyshevNumber.mono _ _)
   | (with_reducible exact spec_DrawCountPaths.mono _ _)
   | (with_reducible exact spec_DrawFirstZero.mono _ _)
   | (with_reducible exact spec_DrawFusionOf.mono _ _)
   | (with_reducible exact spec_DrawIsAdmissible.mono _ _)
   | (with_reducible exact spec_DrawThetaNumber.mono _ _)
   | (with_reducible exact spec_FirstZero.mono _ _ _)
   | (with_reducible exact spec_FusionOf.mono _ _ _ _ _)
   | (with_reducible exact spec_IsAdmissible.mono _ _ _ _ _ _)
   | (with_reducible exact spec_ThetaNumber.mono _ _ _ _ _ _)
   | (with_reducible exact LeO.refl _)
   | (with_reducible exact LeO.none _)
   | (with_reducible refine LeO.ite ?_ ?_)
   | (with_reducible refine LeO.bind ?_ (fun _ => ?_))
   | exact ih0 _ _ _ _ _ _ _ _ _
   | exact ih1 _
   | exact ih2 _ _
   | exact ih3 _ _ _ _ _ _
   | exact ih4 _ _ _ _ _
   | exact ih5 _
   | exact impl_ChebyshevNumber.mono _ _ _ _
   | exact impl_CountPaths.mono _ _ _ _
   | exact impl_FirstZero.mono _ _ _
   | exact impl_FusionOf.mono _ _ _ _ _
   | exact impl_IsAdmissible.mono _ _ _ _ _ _
   | exact impl_ThetaNumber.mono _ _ _ _ _ _
   | exact laws_likeInts.mono _ _ _
   | exact spec_ChebyshevNumber.mono _ _ _ _
   | exact spec_CountPaths.mono _ _ _ _
   | exact spec_DrawChebyshevNumber.mono _ _
   | exact spec_DrawCountPaths.mono _ _
   | exact spec_DrawFirstZero.mono _ _
   | exact spec_DrawFusionOf.mono _ _
   | exact spec_DrawIsAdmissible.mono _ _
   | exact spec_DrawThetaNumber.mono _ _
   | exact spec_FirstZero.mono _ _ _
   | exact spec_FusionOf.mono _ _ _ _ _
   | exact spec_IsAdmissible.mono _ _ _ _ _ _
   | exact spec_ThetaNumber.mono _ _ _ _ _ _
   | exact LeO.none _
   | refine LeO.ite ?_ ?_
   | refine LeO.bind ?_ (fun _ => ?_)
  ·intro y0 y1
   unfold laws_FnFusion.j2
   repeat' first
   | (with_reducible exact ih0 _ _ _ _ _ _ _ _ _)
   | (with_reducible exact ih1 _)
   | (with_reducible exact ih2 _ _)
   | (with_reducible exact ih3 _ _ _ _ _ _)
   | (with_reducible exact ih4 _ _ _ _ _)
   | (with_reducible exact ih5 _)
   | (with_reducible exact impl_ChebyshevNumber.mono _ _ _ _)
   | (with_reducible exact impl_CountPaths.mono _ _ _ _)
   | (with_reducible exact impl_FirstZero.mono _ _ _)
   | (with_reducible exact impl_FusionOf.mono _ _ _ _ _)
   | (with_reducible exact impl_IsAdmissible.mono _ _ _ _ _ _)
   | (with_reducible exact impl_ThetaNumber.mono _ _ _ _ _ _)
   | (with_reducible exact laws_likeInts.mono _ _ _)
   | (with_reducible exact spec_ChebyshevNumber.mono _ _ _ _)
   | (with_reducible exact spec_CountPaths.mono _ _ _ _)
   | (with_reducible exact spec_DrawChebyshevNumber.mono _ _)
   | (with_reducible exact spec_DrawCountPaths.mono _ _)
   | (with_reducible exact spec_DrawFirstZero.mono _ _)
   | (with_reducible exact spec_DrawFusionOf.mono _ _)
   | (with_reducible exact spec_DrawIsAdmissible.mono _ _)
   | (with_reducible exact spec_DrawThetaNumber.mono _ _)
   | (with_reducible exact spec_FirstZero.mono _ _ _)
   | (with_reducible exact spec_FusionOf.mono _ _ _ _ _)
   | (with_reducible exact spec_IsAdmissible.mono _ _ _ _ _ _)
   | (with_reducible exact spec_ThetaNumber.mono _ _ _ _ _ _)
   | (with_reducible exact LeO.refl _)
   | (with_reducible exact LeO.none _)
   | (with_reducible refine LeO.ite ?_ ?_)
   | (with_reducible refine LeO.bind ?_ (fun _ => ?_))
   | exact ih0 _ _ _ _ _ _ _ _ _
   | exact ih1 _
   | exact ih2 _ _
   | exact ih3 _ _ _ _ _ _
   | exact ih4 _ _ _ _ _
   | exact ih5 _
   | exact impl_ChebyshevNumber.mono _ _ _ _
   | exact impl_CountPaths.mono _ _ _ _
   | exact impl_FirstZero.mono _ _ _
   | exact impl_FusionOf.mono _ _ _ _ _
   | exact impl_IsAdmissible.mono _ _ _ _ _ _
   | exact impl_ThetaNumber.mono _ _ _ _ _ _
   | exact laws_likeInts.mono _ _ _
   | exact spec_ChebyshevNumber.mono _ _ _ _
   | exact spec_CountPaths.mono _ _ _ _
   | exact spec_DrawChebyshevNumber.mono _ _
   | exact spec_DrawCountPaths.mono _ _
   | exact spec_DrawFirstZero.mono _ _
   | exact spec_DrawFusionOf.mono _ _
   | exact spec_DrawIsAdmissible.mono _ _
   | exact spec_DrawThetaNumber.mono _ _
   | exact spec_FirstZero.mono _ _ _
   | exact spec_FusionOf.mono _ _ _ _ _
   | exact spec_IsAdmissible.mono _ _ _ _ _ _
   | exact spec_ThetaNumber.mono _ _ _ _ _ _
   | exact LeO.none _
   | refine LeO.ite ?_ ?_
   | refine LeO.bind ?_ (fun _ => ?_)
  ·intro y0 y1 y2 y3 y4 y5
   unfold laws_FnFusion.j3
   repeat' first
   | (with_reducible exact ih0 _ _ _ _ _ _ _ _ _)
   | (with_reducible exact ih1 _)
   | (with_reducible exact ih2 _ _)
   | (with_reducible exact ih3 _ _ _ _ _ _)
   | (with_reducible exact ih4 _ _ _ _ _)
   | (with_reducible exact ih5 _)
   | (with_reducible exact impl_ChebyshevNumber.mono _ _ _ _)
   | (with_reducible exact impl_CountPaths.mono _ _ _ _)
   | (with_reducible exact impl_FirstZero.mono _ _ _)
   | (with_reducible exact impl_FusionOf.mono _ _ _ _ _)
   | (with_reducible exact impl_IsAdmissible.mono _ _ _ _ _ _)
   | (with_reducible exact impl_ThetaNumber.mono _ _ _ _ _ _)
   | (with_reducible exact laws_likeInts.mono _ _ _)
   | (with_reducible exact spec_ChebyshevNumber.mono _ _ _ _)
   | (with_reducible exact spec_CountPaths.mono _ _ _ _)
   | (with_reducible exact spec_DrawChebyshevNumber.mono _ _)
   | (with_reducible exact spec_DrawCountPaths.mono _ _)
   | (with_reducible exact spec_DrawFirstZero.mono _ _)
   | (with_reducible exact spec_DrawFusionOf.mono _ _)
   | (with_reducible exact spec_DrawIsAdmissible.mono _ _)
   | (with_reducible exact spec_DrawThetaNumber.mono _ _)
   | (with_reducible exact spec_FirstZero.mono _ _ _)
   | (with_reducible exact spec_FusionOf.mono _ _ _ _ _)
   | (with_reducible exact spec_IsAdmissible.mono _ _ _ _ _ _)
   | (with_reducible exact spec_ThetaNumber.mono _ _ _ _ _ _)
   | (with_reducible exact LeO.refl _)
   | (with_reducible exact LeO.none _)
   | (with_reducible refine LeO.ite ?_ ?_)
   | (with_reducible refine LeO.bind ?_ (fun _ => ?_))
   | exact ih0 _ _ _ _ _ _ _ _ _
   | exact ih1 _
   | exact ih2 _ _
   | exact ih3 _ _ _ _ _ _
   | exact ih4 _ _ _ _ _
   | exact ih5 _
   | exact impl_ChebyshevNumber.mono _ _ _ _
   | exact impl_CountPaths.mono _ _ _ _
   | exact impl_FirstZero.mono _ _ _
   | exact impl_FusionOf.mono _ _ _ _ _
   | exact impl_IsAdmissible.mono _ _ _ _ _ _
   | exact impl_ThetaNumber.mono _ _ _ _ _ _
   | exact laws_likeInts.mono _ _ _
   | exact spec_ChebyshevNumber.mono _ _ _ _
   | exact spec_CountPaths.mono _ _ _ _
   | exact spec_DrawChebyshevNumber.mono _ _
   | exact spec_DrawCountPaths.mono _ _
   | exact spec_DrawFirstZero.mono _ _
   | exact spec_DrawFusionOf.mono _ _
   | exact spec_DrawIsAdmissible.mono _ _
   | exact spec_DrawThetaNumber.mono _ _
   | exact spec_FirstZero.mono _ _ _
   | exact spec_FusionOf.mono _ _ _ _ _
   | exact spec_IsAdmissible.mono _ _ _ _ _ _
   | exact spec_ThetaNumber.mono _ _ _ _ _ _
   | exact LeO.none _
   | refine LeO.ite ?_ ?_
   | refine LeO.bind ?_ (fun _ => ?_)
  ·intro y0 y1 y2 y3 y4
   unfold laws_FnFusion.j4
   repeat' first
   | (with_reducible exact ih0 _ _ _ _ _ _ _ _ _)
   | (with_reducible exact ih1 _)
   | (with_reducible exact ih2 _ _)
   | (with_reducible exact ih3 _ _ _ _ _ _)
   | (with_reducible exact ih4 _ _ _ _ _)
   | (with_reducible exact ih5 _)
   | (with_reducible exact impl_ChebyshevNumber.mono _ _ _ _)
   | (with_reducible exact impl_CountPaths.mono _ _ _ _)
   | (with_reducible exact impl_FirstZero.mono _ _ _)
   | (with_reducible exact impl_FusionOf.mono _ _ _ _ _)
   | (with_reducible exact impl_IsAdmissible.mono _ _ _ _ _ _)
   | (with_reducible exact impl_ThetaNumber.mono _ _ _ _ _ _)
   | (with_reducible exact laws_likeInts.mono _ _ _)
   | (with_reducible exact spec_ChebyshevNumber.mono _ _ _ _)
   | (with_reducible exact spec_CountPaths.mono _ _ _ _)
   | (with_reducible exact spec_DrawChebyshevNumber.mono _ _)
   | (with_reducible exact spec_DrawCountPaths.mono _ _)
   | (with_reducible exact spec_DrawFirstZero.mono _ _)
   | (with_reducible exact spec_DrawFusionOf.mono _ _)
   | (with_reducible exact spec_DrawIsAdmissible.mono _ _)
   | (with_reducible exact spec_DrawThetaNumber.mono _ _)
   | (with_reducible exact spec_FirstZero.mono _ _ _)
   | (with_reducible exact spec_FusionOf.mono _ _ _ _ _)
   | (with_reducible exact spec_IsAdmissible.mono _ _ _ _ _ _)
   | (with_reducible exact spec_ThetaNumber.mono _ _ _ _ _ _)
   | (with_reducible exact LeO.refl _)
   | (with_reducible exact LeO.none _)
   | (with_reducible refine LeO.ite ?_ ?_)
   | (with_reducible refine LeO.bind ?_ (fun _ => ?_))
   | exact ih0 _ _ _ _ _ _ _ _ _
   | exact ih1 _
   | exact ih2 _ _
   | exact ih3 _ _ _ _ _ _
   | exact ih4 _ _ _ _ _
   | exact ih5 _
   | exact impl_ChebyshevNumber.mono _ _ _ _
   | exact impl_CountPaths.mono _ _ _ _
   | exact impl_FirstZero.mono _ _ _
   | exact impl_FusionOf.mono _ _ _ _ _
   | exact impl_IsAdmissible.mono _ _ _ _ _ _
   | exact impl_ThetaNumber.mono _ _ _ _ _ _
   | exact laws_likeInts.mono _ _ _
   | exact spec_ChebyshevNumber.mono _ _ _ _
   | exact spec_CountPaths.mono _ _ _ _
   | exact spec_DrawChebyshevNumber.mono _ _
   | exact spec_DrawCountPaths.mono _ _
   | exact spec_DrawFirstZero.mono _ _
   | exact spec_DrawFusionOf.mono _ _
   | exact spec_DrawIsAdmissible.mono _ _
   | exact spec_DrawThetaNumber.mono _ _
   | exact spec_FirstZero.mono _ _ _
   | exact spec_FusionOf.mono _ _ _ _ _
   | exact spec_IsAdmissible.mono _ _ _ _ _ _
   | exact spec_ThetaNumber.mono _ _ _ _ _ _
   | exact LeO.none _
   | refine LeO.ite ?_ ?_
   | refine LeO.bind ?_ (fun _ => ?_)
  ·intro y0
   unfold laws_FnFusion.j5
   repeat' first
   | (with_reducible exact ih0 _ _ _ _ _ _ _ _ _)
   | (with_reducible exact ih1 _)
   | (with_reducible exact ih2 _ _)
   | (with_reducible exact ih3 _ _ _ _ _ _)
   | (with_reducible exact ih4 _ _ _ _ _)
   | (with_reducible exact ih5 _)
   | (with_reducible exact impl_ChebyshevNumber.mono _ _ _ _)
   | (with_reducible exact impl_CountPaths.mono _ _ _ _)
   | (with_reducible exact impl_FirstZero.mono _ _ _)
   | (with_reducible exact impl_FusionOf.mono _ _ _ _ _)
   | (with_reducible exact impl_IsAdmissible.mono _ _ _ _ _ _)
   | (with_reducible exact impl_ThetaNumber.mono _ _ _ _ _ _)
   | (with_reducible exact laws_likeInts.mono _ _ _)
   | (with_reducible exact spec_ChebyshevNumber.mono _ _ _ _)
   | (with_reducible exact spec_CountPaths.mono _ _ _ _)
   | (with_reducible exact spec_DrawChebyshevNumber.mono _ _)
   | (with_reducible exact spec_DrawCountPaths.mono _ _)
   | (with_reducible exact spec_DrawFirstZero.mono _ _)
   | (with_reducible exact spec_DrawFusionOf.mono _ _)
   | (with_reducible exact spec_DrawIsAdmissible.mono _ _)
   | (with_reducible exact spec_DrawThetaNumber.mono _ _)
   | (with_reducible exact spec_FirstZero.mono _ _ _)
   | (with_reducible exact spec_FusionOf.mono _ _ _ _ _)
   | (with_reducible exact spec_IsAdmissible.mono _ _ _ _ _ _)
   | (with_reducible exact spec_ThetaNumber.mono _ _ _ _ _ _)
   | (with_reducible exact LeO.refl _)
   | (with_reducible exact LeO.none _)
   | (with_reducible refine LeO.ite ?_ ?_)
   | (with_reducible refine LeO.bind ?_ (fun _ => ?_))
   | exact ih0 _ _ _ _ _ _ _ _ _
   | exact ih1 _
   | exact ih2 _ _
   | exact ih3 _ _ _ _ _ _
   | exact ih4 _ _ _ _ _
   | exact ih5 _
   | exact impl_ChebyshevNumber.mono _ _ _ _
   | exact impl_CountPaths.mono _ _ _ _
   | exact impl_FirstZero.mono _ _ _
   | exact impl_FusionOf.mono _ _ _ _ _
   | exact impl_IsAdmissible.mono _ _ _ _ _ _
   | exact impl_ThetaNumber.mono _ _ _ _ _ _
   | exact laws_likeInts.mono _ _ _
   | exact spec_ChebyshevNumber.mono _ _ _ _
   | exact spec_CountPaths.mono _ _ _ _
   | exact spec_DrawChebyshevNumber.mono _ _
   | exact spec_DrawCountPaths.mono _ _
   | exact spec_DrawFirstZero.mono _ _
   | exact spec_DrawFusionOf.mono _ _
   | exact spec_DrawIsAdmissible.mono _ _
   | exact spec_DrawThetaNumber.mono _ _
   | exact spec_FirstZero.mono _ _ _
   | exact spec_FusionOf.mono _ _ _ _ _
   | exact spec_IsAdmissible.mono _ _ _ _ _ _
   | exact spec_ThetaNumber.mono _ _ _ _ _ _
   | exact LeO.none _
   | refine LeO.ite ?_ ?_
   | refine LeO.bind ?_ (fun _ => ?_)
theorem laws_FnFusion.mono : ∀ a0 k, LeO (laws_FnFusion.f k a0) (laws_FnFusion.f (k + 1) a0) := by
 intro a0 k
 obtain ⟨ih0, ih1, ih2, ih3, ih4, ih5⟩ := laws_FnFusion.mono_l k
 unfold laws_FnFusion.f
 repeat' first
   | (with_reducible exact ih0 _ _ _ _ _ _ _ _ _)
   | (with_reducible exact ih1 _)
   | (with_reducible exact ih2 _ _)
   | (with_reducible exact ih3 _ _ _ _ _ _)
   | (with_reducible exact ih4 _ _ _ _ _)
   | (with_reducible exact ih5 _)
   | (with_reducible exact impl_ChebyshevNumber.mono _ _ _ _)
   | (with_reducible exact impl_CountPaths.mono _ _ _ _)
   | (with_reducible exact impl_FirstZero.mono _ _ _)
   | (with_reducible exact impl_FusionOf.mono _ _ _ _ _)
   | (with_reducible exact impl_IsAdmissible.mono _ _ _ _ _ _)
   | (with_reducible exact impl_ThetaNumber.mono _ _ _ _ _ _)
   | (with_reducible exact laws_likeInts.mono _ _ _)
   | (with_reducible exact spec_ChebyshevNumber.mono _ _ _ _)
   | (with_reducible exact spec_CountPaths.mono _ _ _ _)
   | (with_reducible exact spec_DrawChebyshevNumber.mono _ _)
   | (with_reducible exact spec_DrawCountPaths.mono _ _)
   | (with_reducible exact spec_DrawFirstZero.mono _ _)
   | (with_reducible exact spec_DrawFusionOf.mono _ _)
   | (with_reducible exact spec_DrawIsAdmissible.mono _ _)
   | (with_reducible exact spec_DrawThetaNumber.mono _ _)
   | (with_reducible exact spec_FirstZero.mono _ _ _)
   | (with_reducible exact spec_FusionOf.mono _ _ _ _ _)
   | (with_reducible exact spec_IsAdmissible.mono _ _ _ _ _ _)
   | (with_reducible exact spec_ThetaNumber.mono _ _ _ _ _ _)
   | (with_reducible exact LeO.refl _)
   | (with_reducible exact LeO.none _)
   | (with_reducible refine LeO.ite ?_ ?_)
   | (with_reducible refine LeO.bind ?_ (fun _ => ?_))
   | exact ih0 _ _ _ _ _ _ _ _ _
   | exact ih1 _
   | exact ih2 _ _
   | exact ih3 _ _ _ _ _ _
   | exact ih4 _ _ _ _ _
   | exact ih5 _
   | exact impl_ChebyshevNumber.mono _ _ _ _
   | exact impl_CountPaths.mono _ _ _ _
   | exact impl_FirstZero.mono _ _ _
   | exact impl_FusionOf.mono _ _ _ _ _
   | exact impl_IsAdmissible.mono _ _ _ _ _ _
   | exact impl_ThetaNumber.mono _ _ _ _ _ _
   | exact laws_likeInts.mono _ _ _
   | exact spec_ChebyshevNumber.mono _ _ _ _
   | exact spec_CountPaths.mono _ _ _ _
   | exact spec_DrawChebyshevNumber.mono _ _
   | exact spec_DrawCountPaths.mono _ _
   | exact spec_DrawFirstZero.mono _ _
   | exact spec_DrawFusionOf.mono _ _
   | exact spec_DrawIsAdmissible.mono _ _
   | exact spec_DrawThetaNumber.mono _ _
   | exact spec_FirstZero.mono _ _ _
   | exact spec_FusionOf.mono _ _ _ _ _
   | exact spec_IsAdmissible.mono _ _ _ _ _ _
   | exact spec_ThetaNumber.mono _ _ _ _ _ _
   | exact LeO.none _
   | refine LeO.ite ?_ ?_
   | refine LeO.bind ?_ (fun _ => ?_)
set_option maxHeartbeats 8000000 in
set_option maxRecDepth 100000 in
theorem laws_FnFusion.calls (k : Nat) (A0 : Option Addr) (c0 : Nat) (l0 : List Int) (r : Bool) (w : World) (hr0 : Kd.C (Kd.int .u8) w A0 l0.length l0) (hc0 : l0.length ≤ c0) (h : laws_FnFusion.f k l0 = some r) :
  Calls Try.prog 8 #[.slice A0 l0.length c0] w fun e w' => e = .returned (.bool r) ∧ Below w.heap.size w w' := by
 have HR0 := Aside0.mk hr0
 have HC0 := Aside0.mk hc0
 clear hr0 hc0
 have HB := Aside0.mk (Below.refl w.heap.size w)
 have H : ((laws_big.f l0).bind fun t388 => (if t388 = true then (some true) else ((spec_DrawThetaNumber.f k l0).bind fun bt389 => ((impl_ThetaNumber.f k bt389.1 bt389.2.1 bt389.2.2.1 bt389.2.2.2.1 bt389.2.2.2.2).bind fun bt394 => ((spec_ThetaNumber.f k bt389.1 bt389.2.1 bt389.2.2.1 bt389.2.2.2.1 bt389.2.2.2.2).bind fun bt396 => (if bt394.2 = bt396.2 then (laws_FnFusion.j0 k l0 bt389.1 bt389.2.1 bt389.2.2.1 bt389.2.2.2.1 bt389.2.2.2.2 bt394.1 bt394.2 (bt394.1 != bt396.1)) else (laws_FnFusion.j0 k l0 bt389.1 bt389.2.1 bt389.2.2.1 bt389.2.2.2.1 bt389.2.2.2.2 bt394.1 bt394.2 true))))))) = some r := h
 clear h
 replace H := Option.bind_eq_some_iff.mp H
 obtain ⟨t388, A20, H⟩ := H
 replace H : (if t388 = true then (some true) else ((spec_DrawThetaNumber.f k l0).bind fun bt389 => ((impl_ThetaNumber.f k bt389.1 bt389.2.1 bt389.2.2.1 bt389.2.2.2.1 bt389.2.2.2.2).bind fun bt394 => ((spec_ThetaNumber.f k bt389.1 bt389.2.1 bt389.2.2.1 bt389.2.2.2.1 bt389.2.2.2.2).bind fun bt396 => (if bt394.2 = bt396.2 then (laws_FnFusion.j0 k l0 bt389.1 bt389.2.1 bt389.2.2.1 bt389.2.2.2.1 bt389.2.2.2.2 bt394.1 bt394.2 (bt394.1 != bt396.1)) else (laws_FnFusion.j0 k l0 bt389.1 bt389.2.1 bt389.2.2.1 bt389.2.2.2.1 bt389.2.2.2.2 bt394.1 bt394.2 true)))))) = some r := H
 have A2 := Aside0.mk A20
 clear A20
 by_cases c3 : t388 = true
 ·subst c3
  have H1 : (some true) = some r := by rw [if_pos rfl] at H; exact H
  clear H
  have H := H1
  clear H1
  obtain rfl := Option.some.inj H
  go_enter Try.func8, Try.ntmps8
  go_wp2_with (first | ((with_reducible refine gate_callee (f := 22) rfl ?_); refine goesL_ (some 60) rfl rfl Try.func22 (by kernel_rfl) rfl #[.slice A0 l0.length c0] rfl (by (try simp only [List.map_toArray, List.map_cons, List.map_nil]); first | done | rfl | (simp only [List.length_drop, List.length_take]; rfl)) ?_; (with_reducible refine (laws_big.calls _ _ l0 true _ ?side1 ?side2 A2.out).mono ?_); (case side1 => repeat (first | exact HR0.out | (with_reducible refine Kd.C_alloc ?_ _) | (with_reducible refine Kd.C_drewN ?_ _) | (with_reducible refine Kd.C_drew ?_))); (case side2 => exact HC0.out); rintro e w' ⟨rfl, ⟨nd, rfl⟩⟩; refine ⟨_, rfl, ?_⟩))
  go_ret
  exact ⟨by first | rfl | (simp [errW_none, errW_some] <;> rfl) | (simp [*, errW_none, errW_some] <;> rfl), by repeat (first | (with_reducible first | exact HB.out | apply below_alloc | apply pw_below_drewN | apply below_drew1) | exact HB.out)⟩
 ·replace c3 := Bool.eq_false_iff.mpr c3
  subst c3
  have H1 : ((spec_DrawThetaNumber.f k l0).bind fun bt389 => ((impl_ThetaNumber.f k bt389.1 bt389.2.1 bt389.2.2.1 bt389.2.2.2.1 bt389.2.2.2.2).bind fun bt394 => ((spec_ThetaNumber.f k bt389.1 bt389.2.1 bt389.2.2.1 bt389.2.2.2.1 bt389.2.2.2.2).bind fun bt396 => (if bt394.2 = bt396.2 then (laws_FnFusion.j0 k l0 bt389.1 bt389.2.1 bt389.2.2.1 bt389.2.2.2.1 bt389.2.2.2.2 bt394.1 bt394.2 (bt394.1 != bt396.1)) else (laws_FnFusion.j0 k l0 bt389.1 bt389.2.1 bt389.2.2.1 bt389.2.2.2.1 bt389.2.2.2.2 bt394.1 bt394.2 true))))) = some r := by rw [if_neg (show ¬ (false = true) by decide)] at H; exact H
  clear H
  have H := H1
  clear H1
  replace H := Option.bind_eq_some_iff.mp H
  obtain ⟨⟨t389, t390, t391, t392, t393⟩, A40, H⟩ := H
  replace H : ((impl_ThetaNumber.f k t389 t390 t391 t392 t393).bind fun bt394 => ((spec_ThetaNumber.f k t389 t390 t391 t392 t393).bind fun bt396 => (if bt394.2 = bt396.2 then (laws_FnFusion.j0 k l0 t389 t390 t391 t392 t393 bt394.1 bt394.2 (bt394.1 != bt396.1)) else (laws_FnFusion.j0 k l0 t389 t390 t391 t392 t393 bt394.1 bt394.2 true)))) = some r := H
  have A4 := Aside0.mk A40
  clear A40
  replace H := Option.bind_eq_some_iff.mp H
  obtain ⟨⟨t394, t395⟩, A50, H⟩ := H
  replace H : ((spec_ThetaNumber.f k t389 t390 t391 t392 t393).bind fun bt396 => (if t395 = bt396.2 then (laws_FnFusion.j0 k l0 t389 t390 t391 t392 t393 t394 t395 (t394 != bt396.1)) else (laws_FnFusion.j0 k l0 t389 t390 t391 t392 t393 t394 t395 true))) = some r := H
  have A5 := Aside0.mk A50
  clear A50
  replace H := Option.bind_eq_some_iff.mp H
  obtain ⟨⟨t396, t397⟩, A60, H⟩ := H
  replace H : (if t395 = t397 then (laws_FnFusion.j0 k l0 t389 t390 t391 t392 t393 t394 t395 (t394 != t396)) else (laws_FnFusion.j0 k l0 t389 t390 t391 t392 t393 t394 t395 true)) = some r := H
  have A6 := Aside0.mk A60
  clear A60
  have HC7 := Aside0.mk H
  clear H
  go_enter Try.func8, Try.ntmps8
  go_upto_region 6 with (first | ((with_reducible refine gate_callee (f := 22) rfl ?_); refine goesL_ (some 60) rfl rfl Try.func22 (by kernel_rfl) rfl #[.slice A0 l0.length c0] rfl (by (try simp only [List.map_toArray, List.map_cons, List.map_nil]); first | done | rfl | (simp only [List.length_drop, List.length_take]; rfl)) ?_; (with_reducible refine (laws_big.calls _ _ l0 false _ ?side1 ?side2 A2.out).mono ?_); (case side1 => repeat (first | exact HR0.out | (with_reducible refine Kd.C_alloc ?_ _) | (with_reducible refine Kd.C_drewN ?_ _) | (with_reducible refine Kd.C_drew ?_))); (case side2 => exact HC0.out); rintro e w' ⟨rfl, ⟨nd, rfl⟩⟩; refine ⟨_, rfl, ?_⟩) | ((with_reducible refine gate_callee (f := 23) rfl ?_); refine goesL_ (some 63) rfl rfl Try.func23 (by kernel_rfl) rfl #[.slice A0 l0.length c0] rfl (by (try simp only [List.map_toArray, List.map_cons, List.map_nil]); first | done | rfl | (simp only [List.length_drop, List.length_take]; rfl)) ?_; (with_reducible refine (spec_DrawThetaNumber.calls k _ _ l0 t389 t390 t391 t392 t393 _ ?side1 ?side2 A4.out).mono ?_); (case side1 => repeat (first | exact HR0.out | (with_reducible refine Kd.C_alloc ?_ _) | (with_reducible refine Kd.C_drewN ?_ _) | (with_reducible refine Kd.C_drew ?_))); (case side2 => exact HC0.out); rintro e w8 ⟨rfl, hb⟩; refine ⟨_, rfl, ?_⟩; have n0_ := Aside0.mk (below_step (by repeat (first | (with_reducible first | exact HB.out | apply below_alloc | apply pw_below_drewN | apply below_drew1) | exact HB.out)) hb); clear HB; have HB := n0_; clear n0_; (try clear hb); (try clear hb2); (try clear hk); (try clear hi)) | ((with_reducible refine gate_callee (f := 21) rfl ?_); refine goesL_ (some 75) rfl rfl Try.func21 (by kernel_rfl) rfl #[.int .i64 t389, .int .i64 t390, .int .i64 t391, .int .i64 t392, .int .i64 t393] rfl (by (try simp only [List.map_toArray, List.map_cons, List.map_nil]); first | done | rfl | (simp only [List.length_drop, List.length_take]; rfl)) ?_; (with_reducible refine (impl_ThetaNumber.calls k t389 t390 t391 t392 t393 t394 t395 _ A5.out).mono ?_); rintro e w9 ⟨rfl, hb⟩; refine ⟨_, rfl, ?_⟩; have n0_ := Aside0.mk (below_step (by repeat (first | (with_reducible first | exact HB.out | apply below_alloc | apply pw_below_drewN | apply below_drew1) | exact HB.out)) hb); clear HB; have HB := n0_; clear n0_; (try clear hb); (try clear hb2); (try clear hk); (try clear hi)) | ((with_reducible refine gate_callee (f := 20) rfl ?_); refine goesL_ (some 84) rfl rfl Try.func20 (by kernel_rfl) rfl #[.int .i64 t389, .int .i64 t390, .int .i64 t391, .int .i64 t392, .int .i64 t393] rfl (by (try simp only [List.map_toArray, List.map_cons, List.map_nil]); first | done | rfl | (simp only [List.length_drop, List.length_take]; rfl)) ?_; (with_reducible refine (spec_ThetaNumber.calls k t389 t390 t391 t392 t393 t396 t397 _ A6.out).mono ?_); rintro e w10 ⟨rfl, hb⟩; refine ⟨_, rfl, ?_⟩; have n0_ := Aside0.mk (below_step (by repeat (first | (with_reducible first | exact HB.out | apply below_alloc | apply pw_below_drewN | apply below_drew1) | exact HB.out)) hb); clear HB; have HB := n0_; clear n0_; (try clear hb); (try clear hb2); (try clear hk); (try clear hi)))
  (try simp only [Act.put, List.setIfInBounds_toArray, List.set_cons_zero, List.set_cons_succ])
  go_cut [94] (fun v94 wc => ∃ (kq : Nat) (x94_6 : Bool), v94 = .bool x94_6 ∧ Aside0 (laws_FnFusion.j0 kq l0 t389 t390 t391 t392 t393 t394 t395 x94_6 = some r) ∧ Aside0 (kq ≤ k) ∧ Aside0 (Below w.heap.size w wc))
  case first => as_aux_lemma =>
   have H := HC7.out
   clear HC7
   by_cases c11 : t395 = t397
   ·rw [if_pos c11] at H
    have c11b0 : (t395 == t397) = true := beq_iff_eq.mpr c11
    have c11b1 : (t395 != t397) = false := bne_eq_false_iff_eq.mpr c11
    clear c11
    (first | rw [c11b0] | (simp only [i64_w, i32_w]; rw [c11b0]) | skip)
    have H' := Aside0.mk H
    clear H
    go_wp2
    go_meet
    case rel => exact ⟨_, ((t394 != t396)), (by first | rfl | (simp; done) | (simp [*]; done)), H', ⟨by first | omega | exact Nat.le_refl _⟩, ⟨by repeat (first | (with_reducible first | exact HB.out | apply below_alloc | apply pw_below_drewN | apply below_drew1) | exact HB.out)⟩⟩
   ·rw [if_neg c11] at H
    have c11b0 : (t395 == t397) = false := beq_eq_false_iff_ne.mpr c11
    have c11b1 : (t395 != t397) = true := bne_iff_ne.mpr c11
    (first | rw [c11b0] | (simp only [i64_w, i32_w]; rw [c11b0]) | skip)
    have H' := Aside0.mk H
    clear H
    go_wp2
    go_meet
    case rel => exact ⟨_, (true), (by first | rfl | (simp; done) | (simp [*]; done)), H', ⟨by first | omega | exact Nat.le_refl _⟩, ⟨by repeat (first | (with_reducible first | exact HB.out | apply below_alloc | apply pw_below_drewN | apply below_drew1) | exact HB.out)⟩⟩
  case rest => as_aux_lemma =>
   clear HC7
   try clear c1
   try clear c2
   try clear p2
   try clear c3
   try clear c8
   try clear c11
   try clear c11b0
   try clear c11b1
   obtain ⟨kq, x94_6, rfl, HA, HJ6, HB⟩ := hcut
   cases kq with
   | zero => exact absurd HA.out (by simp [laws_FnFusion.j0])
   | succ kj6 =>
    have H := HA.out
    clear HA
    simp only [laws_FnFusion.j0] at H
    by_cases c12 : x94_6 = true
    ·subst c12
     have H1 : (some false) = some r := by rw [if_pos rfl] at H; exact H
     clear H
     have H := H1
     clear H1
     obtain rfl := Option.some.inj H
     go_wp2
     go_ret
     exact ⟨by first | rfl | (simp [errW_none, errW_some] <;> rfl) | (simp [*, errW_none, errW_some] <;> rfl), by repeat (first | (with_reducible first | exact HB.out | apply below_alloc | apply pw_below_drewN | apply below_drew1) | exact HB.out)⟩
    ·replace c12 := Bool.eq_false_iff.mpr c12
     subst c12
     have H1 : (if t395 = 0 then ((impl_ThetaNumber.f kj6 t389 t390 t392 t393 t391).bind fun bt398 => ((impl_ThetaNumber.f kj6 t389 t390 t392 t391 t393).bind fun bt400 => ((impl_IsAdmissible.f kj6 t389 t390 t393 t392 t391).bind fun bt402 => (if bt398.2 = 0 then (if bt400.2 = 0 then (if bt402.2 = 0 then (if bt398.1 = t394 then (if bt400.1 = t394 then (if bt402.1 = true then (laws_FnFusion.j1 kj6 l0) else (some false)) else (some false)) else (some false)) else (some false)) else (some false)) else (some false))))) else (laws_FnFusion.j1 kj6 l0)) = some r := by rw [if_neg (show ¬ (false = true) by decide)] at H; exact H
     clear H
     have H := H1
     clear H1
     have HC13 := Aside0.mk H
     clear H
     go_upto_if 96 with (fail)
     go_cut [] (fun wc => ∃ (kq : Nat), Aside0 (laws_FnFusion.j1 kq l0 = some r) ∧ Aside0 (kq ≤ kj6) ∧ Aside0 (Below w.heap.size w wc))
     case first => as_aux_lemma =>
      have H := HC13.out
      clear HC13
      by_cases c14 : t395 = 0
      ·rw [if_pos c14] at H
       have c14b0 : (t395 == 0) = true := beq_iff_eq.mpr c14
       have c14b1 : (t395 != 0) = false := bne_eq_false_iff_eq.mpr c14
       clear c14
       (first | rw [c14b0] | (simp only [i64_w, i32_w]; rw [c14b0]) | skip)
       replace H := Option.bind_eq_some_iff.mp H
       obtain ⟨⟨t398, t399⟩, A150, H⟩ := H
       replace H : ((impl_ThetaNumber.f kj6 t389 t390 t392 t391 t393).bind fun bt400 => ((impl_IsAdmissible.f kj6 t389 t390 t393 t392 t391).bind fun bt402 => (if t399 = 0 then (if bt400.2 = 0 then (if bt402.2 = 0 then (if t398 = t394 then (if bt400.1 = t394 then (if bt402.1 = true then (laws_FnFusion.j1 kj6 l0) else (some false)) else (some false)) else (some false)) else (some false)) else (some false)) else (some false)))) = some r := H
       have A15 := Aside0.mk A150
       clear A150
       replace H := Option.bind_eq_some_iff.mp H
       obtain ⟨⟨t400, t401⟩, A160, H⟩ := H
       replace H : ((impl_IsAdmissible.f kj6 t389 t390 t393 t392 t391).bind fun bt402 => (if t399 = 0 then (if t401 = 0 then (if bt402.2 = 0 then (if t398 = t394 then (if t400 = t394 then (if bt402.1 = true then (laws_FnFusion.j1 kj6 l0) else (some false)) else (some false)) else (some false)) else (some false)) else (some false)) else (some false))) = some r := H
       have A16 := Aside0.mk A160
       clear A160
       replace H := Option.bind_eq_some_iff.mp H
       obtain ⟨⟨t402, t403⟩, A170, H⟩ := H
       replace H : (if t399 = 0 then (if t401 = 0 then (if t403 = 0 then (if t398 = t394 then (if t400 = t394 then (if t402 = true then (laws_FnFusion.j1 kj6 l0) else (some false)) else (some false)) else (some false)) else (some false)) else (some false)) else (some false)) = some r := H
       have A17 := Aside0.mk A170
       clear A170
       by_cases c18 : t399 = 0
       ·rw [if_pos c18] at H
        have c18b0 : (t399 == 0) = true := beq_iff_eq.mpr c18
        have c18b1 : (t399 != 0) = false := bne_eq_false_iff_eq.mpr c18
        clear c18
        by_cases c19 : t401 = 0
        ·rw [if_pos c19] at H
         have c19b0 : (t401 == 0) = true := beq_iff_eq.mpr c19
         have c19b1 : (t401 != 0) = false := bne_eq_false_iff_eq.mpr c19
         clear c19
         by_cases c20 : t403 = 0
         ·rw [if_pos c20] at H
          have c20b0 : (t403 == 0) = true := beq_iff_eq.mpr c20
          have c20b1 : (t403 != 0) = false := bne_eq_false_iff_eq.mpr c20
          clear c20
          by_cases c21 : t398 = t394
          ·rw [if_pos c21] at H
           have c21b0 : (t398 == t394) = true := beq_iff_eq.mpr c21
           have c21b1 : (t398 != t394) = false := bne_eq_false_iff_eq.mpr c21
           clear c21
           by_cases c22 : t400 = t394
           ·rw [if_pos c22] at H
            have c22b0 : (t400 == t394) = true := beq_iff_eq.mpr c22
            have c22b1 : (t400 != t394) = false := bne_eq_false_iff_eq.mpr c22
            clear c22
            by_cases c23 : t402 = true
            ·subst c23
             have H1 : (laws_FnFusion.j1 kj6 l0) = some r := by rw [if_pos rfl] at H; exact H
             clear H
             have H := H1
             clear H1
             have H' := Aside0.mk H
             clear H
             go_wp2_with (first | ((with_reducible refine gate_callee (f := 21) rfl ?_); refine goesL_ (some 103) rfl rfl Try.func21 (by kernel_rfl) rfl #[.int .i64 t389, .int .i64 t390, .int .i64 t392, .int .i64 t393, .int .i64 t391] rfl (by (try simp only [List.map_toArray, List.map_cons, List.map_nil]); first | done | rfl | (simp only [List.length_drop, List.length_take]; rfl)) ?_; (with_reducible refine (impl_ThetaNumber.calls kj6 t389 t390 t392 t393 t391 t398 t399 _ A15.out).mono ?_); rintro e w24 ⟨rfl, hb⟩; refine ⟨_, rfl, ?_⟩; have n0_ := Aside0.mk (below_step (by repeat (first | (with_reducible first | exact HB.out | apply below_alloc | apply pw_below_drewN | apply below_drew1) | exact HB.out)) hb); clear HB; have HB := n0_; clear n0_; (try clear hb); (try clear hb2); (try clear hk); (try clear hi)) | ((with_reducible refine gate_callee (f := 21) rfl ?_); refine goesL_ (some 112) rfl rfl Try.func21 (by kernel_rfl) rfl #[.int .i64 t389, .int .i64 t390, .int .i64 t392, .int .i64 t391, .int .i64 t393] rfl (by (try simp only [List.map_toArray, List.map_cons, List.map_nil]); first | done | rfl | (simp only [List.length_drop, List.length_take]; rfl)) ?_; (with_reducible refine (impl_ThetaNumber.calls kj6 t389 t390 t392 t391 t393 t400 t401 _ A16.out).mono ?_); rintro e w25 ⟨rfl, hb⟩; refine ⟨_, rfl, ?_⟩; have n0_ := Aside0.mk (below_step (by repeat (first | (with_reducible first | exact HB.out | apply below_alloc | apply pw_below_drewN | apply below_drew1) | exact HB.out)) hb); clear HB; have HB := n0_; clear n0_; (try clear hb); (try clear hb2); (try clear hk); (try clear hi)) | ((with_reducible refine gate_callee (f := 14) rfl ?_); refine goesL_ (some 121) rfl rfl Try.func14 (by kernel_rfl) rfl #[.int .i64 t389, .int .i64 t390, .int .i64 t393, .int .i64 t392, .int .i64 t391] rfl (by (try simp only [List.map_toArray, List.map_cons, List.map_nil]); first | done | rfl | (simp only [List.length_drop, List.length_take]; rfl)) ?_; (with_reducible refine (impl_IsAdmissible.calls kj6 t389 t390 t393 t392 t391 true t403 _ A17.out).mono ?_); rintro e w26 ⟨rfl, hb⟩; refine ⟨_, rfl, ?_⟩; have n0_ := Aside0.mk (below_step (by repeat (first | (with_reducible first | exact HB.out | apply below_alloc | apply pw_below_drewN | apply below_drew1) | exact HB.out)) hb); clear HB; have HB := n0_; clear n0_; (try clear hb); (try clear hb2); (try clear hk); (try clear hi)))
             go_meet
             case rel => exact ⟨_, H', ⟨by have := HJ6.out; first | omega | exact Nat.le_refl _⟩, ⟨by repeat (first | (with_reducible first | exact HB.out | apply below_alloc | apply pw_below_drewN | apply below_drew1) | exact HB.out)⟩⟩
            ·replace c23 := Bool.eq_false_iff.mpr c23
             subst c23
             have H1 : (some false) = some r := by rw [if_neg (show ¬ (false = true) by decide)] at H; exact H
             clear H
             have H := H1
             clear H1
             obtain rfl := Option.some.inj H
             go_wp2_with (first | ((with_reducible refine gate_callee (f := 21) rfl ?_); refine goesL_ (some 103) rfl rfl Try.func21 (by kernel_rfl) rfl #[.int .i64 t389, .int .i64 t390, .int .i64 t392, .int .i64 t393, .int .i64 t391] rfl (by (try simp only [List.map_toArray, List.map_cons, List.map_nil]); first | done | rfl | (simp only [List.length_drop, List.length_take]; rfl)) ?_; (with_reducible refine (impl_ThetaNumber.calls kj6 t389 t390 t392 t393 t391 t398 t399 _ A15.out).mono ?_); rintro e w27 ⟨rfl, hb⟩; refine ⟨_, rfl, ?_⟩; have n0_ := Aside0.mk (below_step (by repeat (first | (with_reducible first | exact HB.out | apply below_alloc | apply pw_below_drewN | apply below_drew1) | exact HB.out)) hb); clear HB; have HB := n0_; clear n0_; (try clear hb); (try clear hb2); (try clear hk); (try clear hi)) | ((with_reducible refine gate_callee (f := 21) rfl ?_); refine goesL_ (some 112) rfl rfl Try.func21 (by kernel_rfl) rfl #[.int .i64 t389, .int .i64 t390, .int .i64 t392, .int .i64 t391, .int .i64 t393] rfl (by (try simp only [List.map_toArray, List.map_cons, List.map_nil]); first | done | rfl | (simp only [List.length_drop, List.length_take]; rfl)) ?_; (with_reducible refine (impl_ThetaNumber.calls kj6 t389 t390 t392 t391 t393 t400 t401 _ A16.out).mono ?_); rintro e w28 ⟨rfl, hb⟩; refine ⟨_, rfl, ?_⟩; have n0_ := Aside0.mk (below_step (by repeat (first | (with_reducible first | exact HB.out | apply below_alloc | apply pw_below_drewN | apply below_drew1) | exact HB.out)) hb); clear HB; have HB := n0_; clear n0_; (try clear hb); (try clear hb2); (try clear hk); (try clear hi)) | ((with_reducible refine gate_callee (f := 14) rfl ?_); refine goesL_ (some 121) rfl rfl Try.func14 (by kernel_rfl) rfl #[.int .i64 t389, .int .i64 t390, .int .i64 t393, .int .i64 t392, .int .i64 t391] rfl (by (try simp only [List.map_toArray, List.map_cons, List.map_nil]); first | done | rfl | (simp only [List.length_drop, List.length_take]; rfl)) ?_; (with_reducible refine (impl_IsAdmissible.calls kj6 t389 t390 t393 t392 t391 false t403 _ A17.out).mono ?_); rintro e w29 ⟨rfl, hb⟩; refine ⟨_, rfl, ?_⟩; have n0_ := Aside0.mk (below_step (by repeat (first | (with_reducible first | exact HB.out | apply below_alloc | apply pw_below_drewN | apply below_drew1) | exact HB.out)) hb); clear HB; have HB := n0_; clear n0_; (try clear hb); (try clear hb2); (try clear hk); (try clear hi)))
             go_ret
             exact ⟨by first | rfl | (simp [errW_none, errW_some] <;> rfl) | (simp [*, errW_none, errW_some] <;> rfl), by repeat (first | (with_reducible first | exact HB.out | apply below_alloc | apply pw_below_drewN | apply below_drew1) | exact HB.out)⟩
           ·rw [if_neg c22] at H
            have c22b0 : (t400 == t394) = false := beq_eq_false_iff_ne.mpr c22
            have c22b1 : (t400 != t394) = true := bne_iff_ne.mpr c22
            obtain rfl := Option.some.inj H
            go_wp2_with (first | ((with_reducible refine gate_callee (f := 21) rfl ?_); refine goesL_ (some 103) rfl rfl Try.func21 (by kernel_rfl) rfl #[.int .i64 t389, .int .i64 t390, .int .i64 t392, .int .i64 t393, .int .i64 t391] rfl (by (try simp only [List.map_toArray, List.map_cons, List.map_nil]); first | done | rfl | (simp only [List.length_drop, List.length_take]; rfl)) ?_; (with_reducible refine (impl_ThetaNumber.calls kj6 t389 t390 t392 t393 t391 t398 t399 _ A15.out).mono ?_); rintro e w30 ⟨rfl, hb⟩; refine ⟨_, rfl, ?_⟩; have n0_ := Aside0.mk (below_step (by repeat (first | (with_reducible first | exact HB.out | apply below_alloc | apply pw_below_drewN | apply below_drew1) | exact HB.out)) hb); clear HB; have HB := n0_; clear n0_; (try clear hb); (try clear hb2); (try clear hk); (try clear hi)) | ((with_reducible refine gate_callee (f := 21) rfl ?_); refine goesL_ (some 112) rfl rfl Try.func21 (by kernel_rfl) rfl #[.int .i64 t389, .int .i64 t390, .int .i64 t392, .int .i64 t391, .int .i64 t393] rfl (by (try simp only [List.map_toArray, List.map_cons, List.map_nil]); first | done | rfl | (simp only [List.length_drop, List.length_take]; rfl)) ?_; (with_reducible refine (impl_ThetaNumber.calls kj6 t389 t390 t392 t391 t393 t400 t401 _ A16.out).mono ?_); rintro e w31 ⟨rfl, hb⟩; refine ⟨_, rfl, ?_⟩; have n0_ := Aside0.mk (below_step (by repeat (first | (with_reducible first | exact HB.out | apply below_alloc | apply pw_below_drewN | apply below_drew1) | exact HB.out)) hb); clear HB; have HB := n0_; clear n0_; (try clear hb); (try clear hb2); (try clear hk); (try clear hi)) | ((with_reducible refine gate_callee (f := 14) rfl ?_); refine goesL_ (some 121) rfl rfl Try.func14 (by kernel_rfl) rfl #[.int .i64 t389, .int .i64 t390, .int .i64 t393, .int .i64 t392, .int .i64 t391] rfl (by (try simp only [List.map_toArray, List.map_cons, List.map_nil]); first | done | rfl | (simp only [List.length_drop, List.length_take]; rfl)) ?_; (with_reducible refine (impl_IsAdmissible.calls kj6 t389 t390 t393 t392 t391 t402 t403 _ A17.out).mono ?_); rintro e w32 ⟨rfl, hb⟩; refine ⟨_, rfl, ?_⟩; have n0_ := Aside0.mk (below_step (by repeat (first | (with_reducible first | exact HB.out | apply below_alloc | apply pw_below_drewN | apply below_drew1) | exact HB.out)) hb); clear HB; have HB := n0_; clear n0_; (try clear hb); (try clear hb2); (try clear hk); (try clear hi)))
            go_ret
            exact ⟨by first | rfl | (simp [errW_none, errW_some] <;> rfl) | (simp [*, errW_none, errW_some] <;> rfl), by repeat (first | (with_reducible first | exact HB.out | apply below_alloc | apply pw_below_drewN | apply below_drew1) | exact HB.out)⟩
          ·rw [if_neg c21] at H
           have c21b0 : (t398 == t394) = false := beq_eq_false_iff_ne.mpr c21
           have c21b1 : (t398 != t394) = true := bne_iff_ne.mpr c21
           obtain rfl := Option.some.inj H
           go_wp2_with (first | ((with_reducible refine gate_callee (f := 21) rfl ?_); refine goesL_ (some 103) rfl rfl Try.func21 (by kernel_rfl) rfl #[.int .i64 t389, .int .i64 t390, .int .i64 t392, .int .i64 t393, .int .i64 t391] rfl (by (try simp only [List.map_toArray, List.map_cons, List.map_nil]); first | done | rfl | (simp only [List.length_drop, List.length_take]; rfl)) ?_; (with_reducible refine (impl_ThetaNumber.calls kj6 t389 t390 t392 t393 t391 t398 t399 _ A15.out).mono ?_); rintro e w33 ⟨rfl, hb⟩; refine ⟨_, rfl, ?_⟩; have n0_ := Aside0.mk (below_step (by repeat (first | (with_reducible first | exact HB.out | apply below_alloc | apply pw_below_drewN | apply below_drew1) | exact HB.out)) hb); clear HB; have HB := n0_; clear n0_; (try clear hb); (try clear hb2); (try clear hk); (try clear hi)) | ((with_reducible refine gate_callee (f := 21) rfl ?_); refine goesL_ (some 112) rfl rfl Try.func21 (by kernel_rfl) rfl #[.int .i64 t389, .int .i64 t390, .int .i64 t392, .int .i64 t391, .int .i64 t393] rfl (by (try simp only [List.map_toArray, List.map_cons, List.map_nil]); first | done | rfl | (simp only [List.length_drop, List.length_take]; rfl)) ?_; (with_reducible refine (impl_ThetaNumber.calls kj6 t389 t390 t392 t391 t393 t400 t401 _ A16.out).mono ?_); rintro e w34 ⟨rfl, hb⟩; refine ⟨_, rfl, ?_⟩; have n0_ := Aside0.mk (below_step (by repeat (first | (with_reducible first | exact HB.out | apply below_alloc | apply pw_below_drewN | apply below_drew1) | exact HB.out)) hb); clear HB; have HB := n0_; clear n0_; (try clear hb); (try clear hb2); (try clear hk); (try clear hi)) | ((with_reducible refine gate_callee (f := 14) rfl ?_); refine goesL_ (some 121) rfl rfl Try.func14 (by kernel_rfl) rfl #[.int .i64 t389, .int .i64 t390, .int .i64 t393, .int .i64 t392, .int .i64 t391] rfl (by (try simp only [List.map_toArray, List.map_cons, List.map_nil]); first | done | rfl | (simp only [List.length_drop, List.length_take]; rfl)) ?_; (with_reducible refine (impl_IsAdmissible.calls kj6 t389 t390 t393 t392 t391 t402 t403 _ A17.out).mono ?_); rintro e w35 ⟨rfl, hb⟩; refine ⟨_, rfl, ?_⟩; have n0_ := Aside0.mk (below_step (by repeat (first | (with_reducible first | exact HB.out | apply below_alloc | apply pw_below_drewN | apply below_drew1) | exact HB.out)) hb); clear HB; have HB := n0_; clear n0_; (try clear hb); (try clear hb2); (try clear hk); (try clear hi)))
           go_ret
           exact ⟨by first | rfl | (simp [errW_none, errW_some] <;> rfl) | (simp [*, errW_none, errW_some] <;> rfl), by repeat (first | (with_reducible first | exact HB.out | apply below_alloc | apply pw_below_drewN | apply below_drew1) | exact HB.out)⟩
         ·rw [if_neg c20] at H
          have c20b0 : (t403 == 0) = false := beq_eq_false_iff_ne.mpr c20
          have c20b1 : (t403 != 0) = true := bne_iff_ne.mpr c20
          obtain rfl := Option.some.inj H
          go_wp2_with (first | ((with_reducible refine gate_callee (f := 21) rfl ?_); refine goesL_ (some 103) rfl rfl Try.func21 (by kernel_rfl) rfl #[.int .i64 t389, .int .i64 t390, .int .i64 t392, .int .i64 t393, .int .i64 t391] rfl (by (try simp only [List.map_toArray, List.map_cons, List.map_nil]); first | done | rfl | (simp only [List.length_drop, List.length_take]; rfl)) ?_; (with_reducible refine (impl_ThetaNumber.calls kj6 t389 t390 t392 t393 t391 t398 t399 _ A15.out).mono ?_); rintro e w36 ⟨rfl, hb⟩; refine ⟨_, rfl, ?_⟩; have n0_ := Aside0.mk (below_step (by repeat (first | (with_reducible first | exact HB.out | apply below_alloc | apply pw_below_drewN | apply below_drew1) | exact HB.out)) hb); clear HB; have HB := n0_; clear n0_; (try clear hb); (try clear hb2); (try clear hk); (try clear hi)) | ((with_reducible refine gate_callee (f := 21) rfl ?_); refine goesL_ (some 112) rfl rfl Try.func21 (by kernel_rfl) rfl #[.int .i64 t389, .int .i64 t390, .int .i64 t392, .int .i64 t391, .int .i64 t393] rfl (by (try simp only [List.map_toArray, List.map_cons, List.map_nil]); first | done | rfl | (simp only [List.length_drop, List.length_take]; rfl)) ?_; (with_reducible refine (impl_ThetaNumber.calls kj6 t389 t390 t392 t391 t393 t400 t401 _ A16.out).mono ?_); rintro e w37 ⟨rfl, hb⟩; refine ⟨_, rfl, ?_⟩; have n0_ := Aside0.mk (below_step (by repeat (first | (with_reducible first | exact HB.out | apply below_alloc | apply pw_below_drewN | apply below_drew1) | exact HB.out)) hb); clear HB; have HB := n0_; clear n0_; (try clear hb); (try clear hb2); (try clear hk); (try clear hi)) | ((with_reducible refine gate_callee (f := 14) rfl ?_); refine goesL_ (some 121) rfl rfl Try.func14 (by kernel_rfl) rfl #[.int .i64 t389, .int .i64 t390, .int .i64 t393, .int .i64 t392, .int .i64 t391] rfl (by (try simp only [List.map_toArray, List.map_cons, List.map_nil]); first | done | rfl | (simp only [List.length_drop, List.length_take]; rfl)) ?_; (with_reducible refine (impl_IsAdmissible.calls kj6 t389 t390 t393 t392 t391 t402 t403 _ A17.out).mono ?_); rintro e w38 ⟨rfl, hb⟩; refine ⟨_, rfl, ?_⟩; have n0_ := Aside0.mk (below_step (by repeat (first | (with_reducible first | exact HB.out | apply below_alloc | apply pw_below_drewN | apply below_drew1) | exact HB.out)) hb); clear HB; have HB := n0_; clear n0_; (try clear hb); (try clear hb2); (try clear hk); (try clear hi)))
          go_ret
          exact ⟨by first | rfl | (simp [errW_none, errW_some] <;> rfl) | (simp [*, errW_none, errW_some] <;> rfl), by repeat (first | (with_reducible first | exact HB.out | apply below_alloc | apply pw_below_drewN | apply below_drew1) | exact HB.out)⟩
        ·rw [if_neg c19] at H
         have c19b0 : (t401 == 0) = false := beq_eq_false_iff_ne.mpr c19
         have c19b1 : (t401 != 0) = true := bne_iff_ne.mpr c19
         obtain rfl := Option.some.inj H
         go_wp2_with (first | ((with_reducible refine gate_callee (f := 21) rfl ?_); refine goesL_ (some 103) rfl rfl Try.func21 (by kernel_rfl) rfl #[.int .i64 t389, .int .i64 t390, .int .i64 t392, .int .i64 t393, .int .i64 t391] rfl (by (try simp only [List.map_toArray, List.map_cons, List.map_nil]); first | done | rfl | (simp only [List.length_drop, List.length_take]; rfl)) ?_; (with_reducible refine (impl_ThetaNumber.calls kj6 t389 t390 t392 t393 t391 t398 t399 _ A15.out).mono ?_); rintro e w39 ⟨rfl, hb⟩; refine ⟨_, rfl, ?_⟩; have n0_ := Aside0.mk (below_step (by repeat (first | (with_reducible first | exact HB.out | apply below_alloc | apply pw_below_drewN | apply below_drew1) | exact HB.out)) hb); clear HB; have HB := n0_; clear n0_; (try clear hb); (try clear hb2); (try clear hk); (try clear hi)) | ((with_reducible refine gate_callee (f := 21) rfl ?_); refine goesL_ (some 112) rfl rfl Try.func21 (by kernel_rfl) rfl #[.int .i64 t389, .int .i64 t390, .int .i64 t392, .int .i64 t391, .int .i64 t393] rfl (by (try simp only [List.map_toArray, List.map_cons, List.map_nil]); first | done | rfl | (simp only [List.length_drop, List.length_take]; rfl)) ?_; (with_reducible refine (impl_ThetaNumber.calls kj6 t389 t390 t392 t391 t393 t400 t401 _ A16.out).mono ?_); rintro e w40 ⟨rfl, hb⟩; refine ⟨_, rfl, ?_⟩; have n0_ := Aside0.mk (below_step (by repeat (first | (with_reducible first | exact HB.out | apply below_alloc | apply pw_below_drewN | apply below_drew1) | exact HB.out)) hb); clear HB; have HB := n0_; clear n0_; (try clear hb); (try clear hb2); (try clear hk); (try clear hi)) | ((with_reducible refine gate_callee (f := 14) rfl ?_); refine goesL_ (some 121) rfl rfl Try.func14 (by kernel_rfl) rfl #[.int .i64 t389, .int .i64 t390, .int .i64 t393, .int .i64 t392, .int .i64 t391] rfl (by (try simp only [List.map_toArray, List.map_cons, List.map_nil]); first | done | rfl | (simp only [List.length_drop, List.length_take]; rfl)) ?_; (with_reducible refine (impl_IsAdmissible.calls kj6 t389 t390 t393 t392 t391 t402 t403 _ A17.out).mono ?_); rintro e w41 ⟨rfl, hb⟩; refine ⟨_, rfl, ?_⟩; have n0_ := Aside0.mk (below_step (by repeat (first | (with_reducible first | exact HB.out | apply below_alloc | apply pw_below_drewN | apply below_drew1) | exact HB.out)) hb); clear HB; have HB := n0_; clear n0_; (try clear hb); (try clear hb2); (try clear hk); (try clear hi)))
         go_ret
         exact ⟨by first | rfl | (simp [errW_none, errW_some] <;> rfl) | (simp [*, errW_none, errW_some] <;> rfl), by repeat (first | (with_reducible first | exact HB.out | apply below_alloc | apply pw_below_drewN | apply below_drew1) | exact HB.out)⟩
       ·rw [if_neg c18] at H
        have c18b0 : (t399 == 0) = false := beq_eq_false_iff_ne.mpr c18
        have c18b1 : (t399 != 0) = true := bne_iff_ne.mpr c18
        obtain rfl := Option.some.inj H
        go_wp2_with (first | ((with_reducible refine gate_callee (f := 21) rfl ?_); refine goesL_ (some 103) rfl rfl Try.func21 (by kernel_rfl) rfl #[.int .i64 t389, .int .i64 t390, .int .i64 t392, .int .i64 t393, .int .i64 t391] rfl (by (try simp only [List.map_toArray, List.map_cons, List.map_nil]); first | done | rfl | (simp only [List.length_drop, List.length_take]; rfl)) ?_; (with_reducible refine (impl_ThetaNumber.calls kj6 t389 t390 t392 t393 t391 t398 t399 _ A15.out).mono ?_); rintro e w42 ⟨rfl, hb⟩; refine ⟨_, rfl, ?_⟩; have n0_ := Aside0.mk (below_step (by repeat (first | (with_reducible first | exact HB.out | apply below_alloc | apply pw_below_drewN | apply below_drew1) | exact HB.out)) hb); clear HB; have HB := n0_; clear n0_; (try clear hb); (try clear hb2); (try clear hk); (try clear hi)) | ((with_reducible refine gate_callee (f := 21) rfl ?_); refine goesL_ (some 112) rfl rfl Try.func21 (by kernel_rfl) rfl #[.int .i64 t389, .int .i64 t390, .int .i64 t392, .int .i64 t391, .int .i64 t393] rfl (by (try simp only [List.map_toArray, List.map_cons, List.map_nil]); first | done | rfl | (simp only [List.length_drop, List.length_take]; rfl)) ?_; (with_reducible refine (impl_ThetaNumber.calls kj6 t389 t390 t392 t391 t393 t400 t401 _ A16.out).mono ?_); rintro e w43 ⟨rfl, hb⟩; refine ⟨_, rfl, ?_⟩; have n0_ := Aside0.mk (below_step (by repeat (first | (with_reducible first | exact HB.out | apply below_alloc | apply pw_below_drewN | apply below_drew1) | exact HB.out)) hb); clear HB; have HB := n0_; clear n0_; (try clear hb); (try clear hb2); (try clear hk); (try clear hi)) | ((with_reducible refine gate_callee (f := 14) rfl ?_); refine goesL_ (some 121) rfl rfl Try.func14 (by kernel_rfl) rfl #[.int .i64 t389, .int .i64 t390, .int .i64 t393, .int .i64 t392, .int .i64 t391] rfl (by (try simp only [List.map_toArray, List.map_cons, List.map_nil]); first | done | rfl | (simp only [List.length_drop, List.length_take]; rfl)) ?_; (with_reducible refine (impl_IsAdmissible.calls kj6 t389 t390 t393 t392 t391 t402 t403 _ A17.out).mono ?_); rintro e w44 ⟨rfl, hb⟩; refine ⟨_, rfl, ?_⟩; have n0_ := Aside0.mk (below_step (by repeat (first | (with_reducible first | exact HB.out | apply below_alloc | apply pw_below_drewN | apply below_drew1) | exact HB.out)) hb); clear HB; have HB := n0_; clear n0_; (try clear hb); (try clear hb2); (try clear hk); (try clear hi)))
        go_ret
        exact ⟨by first | rfl | (simp [errW_none, errW_some] <;> rfl) | (simp [*, errW_none, errW_some] <;> rfl), by repeat (first | (with_reducible first | exact HB.out | apply below_alloc | apply pw_below_drewN | apply below_drew1) | exact HB.out)⟩
      ·rw [if_neg c14] at H
       have c14b0 : (t395 == 0) = false := beq_eq_false_iff_ne.mpr c14
       have c14b1 : (t395 != 0) = true := bne_iff_ne.mpr c14
       (first | rw [c14b0] | (simp only [i64_w, i32_w]; rw [c14b0]) | skip)
       have H' := Aside0.mk H
       clear H
       go_wp2
       go_meet
       case rel => exact ⟨_, H', ⟨by have := HJ6.out; first | omega | exact Nat.le_refl _⟩, ⟨by repeat (first | (with_reducible first | exact HB.out | apply below_alloc | apply pw_below_drewN | apply below_drew1) | exact HB.out)⟩⟩
     case rest => as_aux_lemma =>
      clear HC13
      try clear c1
      try clear c2
      try clear p2
      try clear c3
      try clear c8
      try clear c11
      try clear c11b0
      try clear c11b1
      try clear c12
      try clear c14
      try clear c14b0
      try clear c14b1
      try clear c18
      try clear c18b0
      try clear c18b1
      try clear c19
      try clear c19b0
      try clear c19b1
      try clear c20
      try clear c20b0
      try clear c20b1
      try clear c21
      try clear c21b0
      try clear c21b1
      try clear c22
      try clear c22b0
      try clear c22b1
      try clear c23
      try clear p2
      obtain ⟨kq, HA, HJ12, HB⟩ := hcut
      cases kq with
      | zero => exact absurd HA.out (by simp [laws_FnFusion.j1])
      | succ kj12 =>
       have H := HA.out
       clear HA
       simp only [laws_FnFusion.j1] at H
       replace H := Option.bind_eq_some_iff.mp H
       obtain ⟨⟨t404, t405, t406, t407⟩, A450, H⟩ := H
       replace H : ((impl_FusionOf.f kj12 t404 t405 t406 t407).bind fun bt408 => ((spec_FusionOf.f kj12 t404 t405 t406 t407).bind fun bt412 => ((impl_FusionOf.f kj12 t404 t405 t407 t406).bind fun bt416 => (if bt408.2 = bt412.2 then ((laws_likeInts.f kj12 bt408.1 bt412.1).bind fun t420 => (if t420 = true then (if bt416.2 = bt408.2 then ((laws_likeInts.f kj12 bt416.1 bt408.1).bind fun t421 => (laws_FnFusion.j2 kj12 l0 (!t421))) else (laws_FnFusion.j2 kj12 l0 true)) else (laws_FnFusion.j2 kj12 l0 true))) else (laws_FnFusion.j2 kj12 l0 true))))) = some r := H
       have A45 := Aside0.mk A450
       clear A450
       replace H := Option.bind_eq_some_iff.mp H
       obtain ⟨⟨t408, t409⟩, A460, H⟩ := H
       replace H : ((spec_FusionOf.f kj12 t404 t405 t406 t407).bind fun bt412 => ((impl_FusionOf.f kj12 t404 t405 t407 t406).bind fun bt416 => (if t409 = bt412.2 then ((laws_likeInts.f kj12 t408 bt412.1).bind fun t420 => (if t420 = true then (if bt416.2 = t409 then ((laws_likeInts.f kj12 bt416.1 t408).bind fun t421 => (laws_FnFusion.j2 kj12 l0 (!t421))) else (laws_FnFusion.j2 kj12 l0 true)) else (laws_FnFusion.j2 kj12 l0 true))) else (laws_FnFusion.j2 kj12 l0 true)))) = some r := H
       have A46 := Aside0.mk A460
       clear A460
       replace H := Option.bind_eq_some_iff.mp H
       obtain ⟨⟨t412, t413⟩, A470, H⟩ := H
       replace H : ((impl_FusionOf.f kj12 t404 t405 t407 t406).bind fun bt416 => (if t409 = t413 then ((laws_likeInts.f kj12 t408 t412).bind fun t420 => (if t420 = true then (if bt416.2 = t409 then ((laws_likeInts.f kj12 bt416.1 t408).bind fun t421 => (laws_FnFusion.j2 kj12 l0 (!t421))) else (laws_FnFusion.j2 kj12 l0 true)) else (laws_FnFusion.j2 kj12 l0 true))) else (laws_FnFusion.j2 kj12 l0 true))) = some r := H
       have A47 := Aside0.mk A470
       clear A470
       replace H := Option.bind_eq_some_iff.mp H
       obtain ⟨⟨t416, t417⟩, A480, H⟩ := H
       replace H : (if t409 = t413 then ((laws_likeInts.f kj12 t408 t412).bind fun t420 => (if t420 = true then (if t417 = t409 then ((laws_likeInts.f kj12 t416 t408).bind fun t421 => (laws_FnFusion.j2 kj12 l0 (!t421))) else (laws_FnFusion.j2 kj12 l0 true)) else (laws_FnFusion.j2 kj12 l0 true))) else (laws_FnFusion.j2 kj12 l0 true)) = some r := H
       have A48 := Aside0.mk A480
       clear A480
       have HC49 := Aside0.mk H
       clear H
       go_upto_region 18 with (first | ((with_reducible refine gate_callee (f := 24) rfl ?_); refine goesL_ (some 150) rfl rfl Try.func24 (by kernel_rfl) rfl #[.slice A0 l0.length c0] rfl (by (try simp only [List.map_toArray, List.map_cons, List.map_nil]); first | done | rfl | (simp only [List.length_drop, List.length_take]; rfl)) ?_; (with_reducible refine (spec_DrawFusionOf.calls kj12 _ _ l0 t404 t405 t406 t407 _ ?side1 ?side2 A45.out).mono ?_); (case side1 => repeat (first | exact (Kd.C_below HR0.out HB.out) | (with_reducible refine Kd.C_alloc ?_ _) | (with_reducible refine Kd.C_drewN ?_ _) | (with_reducible refine Kd.C_drew ?_))); (case side2 => exact HC0.out); rintro e w50 ⟨rfl, hb⟩; refine ⟨_, rfl, ?_⟩; have n0_ := Aside0.mk (below_step (by repeat (first | (with_reducible first | exact HB.out | apply below_alloc | apply pw_below_drewN | apply below_drew1) | exact HB.out)) hb); clear HB; have HB := n0_; clear n0_; (try clear hb); (try clear hb2); (try clear hk); (try clear hi)) | ((with_reducible refine gate_callee (f := 16) rfl ?_); refine goesL_ (some 160) rfl rfl Try.func16 (by kernel_rfl) rfl #[.int .i64 t404, .int .i64 t405, .int .i64 t406, .int .i64 t407] rfl (by (try simp only [List.map_toArray, List.map_cons, List.map_nil]); first | done | rfl | (simp only [List.length_drop, List.length_take]; rfl)) ?_; (with_reducible refine (impl_FusionOf.calls kj12 t404 t405 t406 t407 t408 t409 _ A46.out).mono ?_); rintro e w51 ⟨v410, rfl, ho0, hb⟩; refine ⟨_, rfl, ?_⟩; have n0_ := Aside0.mk (Kd.R_lower ho0 (below_size (by repeat (first | (with_reducible first | exact HB.out | apply below_alloc | apply pw_below_drewN | apply below_drew1) | exact HB.out)))); have n1_ := Aside0.mk (below_step (by repeat (first | (with_reducible first | exact HB.out | apply below_alloc | apply pw_below_drewN | apply below_drew1) | exact HB.out)) hb); clear HB; have HO411 := n0_; have HB := n1_; clear n0_ n1_; (try clear hb); (try clear hb2); (try clear hk); (try clear hi); (try clear ho0)) | ((with_reducible refine gate_callee (f := 15) rfl ?_); refine goesL_ (some 168) rfl rfl Try.func15 (by kernel_rfl) rfl #[.int .i64 t404, .int .i64 t405, .int .i64 t406, .int .i64 t407] rfl (by (try simp only [List.map_toArray, List.map_cons, List.map_nil]); first | done | rfl | (simp only [List.length_drop, List.length_take]; rfl)) ?_; (with_reducible refine (spec_FusionOf.calls kj12 t404 t405 t406 t407 t412 t413 _ A47.out).mono ?_); rintro e w52 ⟨v414, rfl, ho0, hb⟩; refine ⟨_, rfl, ?_⟩; have n0_ := Aside0.mk (Kd.R_elder' (by (with_reducible repeat (first | apply Kd.R_alloc | apply Kd.R_drewN | apply Kd.R_drew)); exact HO411.out) (Kd.R_base ho0) hb); have n1_ := Aside0.mk (Kd.R_lower (Kd.R_new' ho0 (Kd.R_lt (by (with_reducible repeat (first | apply Kd.R_alloc | apply Kd.R_drewN | apply Kd.R_drew)); exact HO411.out))) (below_size (by repeat (first | (with_reducible first | exact HB.out | apply below_alloc | apply pw_below_drewN | apply below_drew1) | exact HB.out)))); have n2_ := Aside0.mk (below_step (by repeat (first | (with_reducible first | exact HB.out | apply below_alloc | apply pw_below_drewN | apply below_drew1) | exact HB.out)) hb); clear HO411; clear HB; have HO411 := n0_; have HO415 := n1_; have HB := n2_; clear n0_ n1_ n2_; (try clear hb); (try clear hb2); (try clear hk); (try clear hi); (try clear ho0)) | ((with_reducible refine gate_callee (f := 16) rfl ?_); refine goesL_ (some 176) rfl rfl Try.func16 (by kernel_rfl) rfl #[.int .i64 t404, .int .i64 t405, .int .i64 t407, .int .i64 t406] rfl (by (try simp only [List.map_toArray, List.map_cons, List.map_nil]); first | done | rfl | (simp only [List.length_drop, List.length_take]; rfl)) ?_; (with_reducible refine (impl_FusionOf.calls kj12 t404 t405 t407 t406 t416 t417 _ A48.out).mono ?_); rintro e w53 ⟨v418, rfl, ho0, hb⟩; refine ⟨_, rfl, ?_⟩; have n0_ := Aside0.mk (Kd.R_elder' (by (with_reducible repeat (first | apply Kd.R_alloc | apply Kd.R_drewN | apply Kd.R_drew)); exact HO411.out) (Kd.R_base ho0) hb); have n1_ := Aside0.mk (Kd.R_elder' (by (with_reducible repeat (first | apply Kd.R_alloc | apply Kd.R_drewN | apply Kd.R_drew)); exact HO415.out) (Kd.R_base ho0) hb); have n2_ := Aside0.mk (Kd.R_lower (Kd.R_new' (Kd.R_new' ho0 (Kd.R_lt (by (with_reducible repeat (first | apply Kd.R_alloc | apply Kd.R_drewN | apply Kd.R_drew)); exact HO411.out))) (Kd.R_lt (by (with_reducible repeat (first | apply Kd.R_alloc | apply Kd.R_drewN | apply Kd.R_drew)); exact HO415.out))) (below_size (by repeat (first | (with_reducible first | exact HB.out | apply below_alloc | apply pw_below_drewN | apply below_drew1) | exact HB.out)))); have n3_ := Aside0.mk (below_step (by repeat (first | (with_reducible first | exact HB.out | apply below_alloc | apply pw_below_drewN | apply below_drew1) | exact HB.out)) hb); clear HO411; clear HO415; clear HB; have HO411 := n0_; have HO415 := n1_; have HO419 := n2_; have HB := n3_; clear n0_ n1_ n2_ n3_; (try clear hb); (try clear hb2); (try clear hk); (try clear hi); (try clear ho0)))
       (try simp only [Act.put, List.setIfInBounds_toArray, List.set_cons_zero, List.set_cons_succ])
       go_cut [198] (fun v198 wc => ∃ (kq : Nat) (x198_48 : Bool), v198 = .bool x198_48 ∧ Aside0 (laws_FnFusion.j2 kq l0 x198_48 = some r) ∧ Aside0 (kq ≤ kj12) ∧ Aside0 (Below w.heap.size w wc))
       case first => as_aux_lemma =>
        have H := HC49.out
        clear HC49
        by_cases c54 : t409 = t413
        ·rw [if_pos c54] at H
         have c54b0 : (t409 == t413) = true := beq_iff_eq.mpr c54
         have c54b1 : (t409 != t413) = false := bne_eq_false_iff_eq.mpr c54
         clear c54
         (first | rw [c54b0] | (simp only [i64_w, i32_w]; rw [c54b0]) | skip)
         replace H := Option.bind_eq_some_iff.mp H
         obtain ⟨t420, A550, H⟩ := H
         replace H : (if t420 = true then (if t417 = t409 then ((laws_likeInts.f kj12 t416 t408).bind fun t421 => (laws_FnFusion.j2 kj12 l0 (!t421))) else (laws_FnFusion.j2 kj12 l0 true)) else (laws_FnFusion.j2 kj12 l0 true)) = some r := H
         have A55 := Aside0.mk A550
         clear A550
         by_cases c56 : t420 = true
         ·subst c56
          have H1 : (if t417 = t409 then ((laws_likeInts.f kj12 t416 t408).bind fun t421 => (laws_FnFusion.j2 kj12 l0 (!t421))) else (laws_FnFusion.j2 kj12 l0 true)) = some r := by rw [if_pos rfl] at H; exact H
          clear H
          have H := H1
          clear H1
          by_cases c57 : t417 = t409
          ·rw [if_pos c57] at H
           have c57b0 : (t417 == t409) = true := beq_iff_eq.mpr c57
           have c57b1 : (t417 != t409) = false := bne_eq_false_iff_eq.mpr c57
           clear c57
           replace H := Option.bind_eq_some_iff.mp H
           obtain ⟨t421, A580, H⟩ := H
           replace H : (laws_FnFusion.j2 kj12 l0 (!t421)) = some r := H
           have A58 := Aside0.mk A580
           clear A580
           have H' := Aside0.mk H
           clear H
           obtain ⟨Ao59, co59, eo59⟩ := Kd.R_slice HO411.out
           subst eo59
           obtain ⟨Ao60, co60, eo60⟩ := Kd.R_slice HO415.out
           subst eo60
           go_wp2_with (first | (go_at_call 25; (with_reducible refine (laws_likeInts.calls kj12 _ _ t408 _ _ t412 true _ ?side1 ?side2 ?side3 ?side4 A55.out).mono ?_); (case side1 => repeat (first | exact (Kd.R_reads' HO411.out).2.2 | (with_reducible refine Kd.C_alloc ?_ _) | (with_reducible refine Kd.C_drewN ?_ _) | (with_reducible refine Kd.C_drew ?_))); (case side2 => exact (Kd.R_reads' HO411.out).2.1); (case side3 => repeat (first | exact (Kd.R_reads' HO415.out).2.2 | (with_reducible refine Kd.C_alloc ?_ _) | (with_reducible refine Kd.C_drewN ?_ _) | (with_reducible refine Kd.C_drew ?_))); (case side4 => exact (Kd.R_reads' HO415.out).2.1); rintro e w' ⟨rfl, ⟨nd, rfl⟩⟩; obtain ⟨Ao61, co61, eo61⟩ := Kd.R_slice HO419.out; subst eo61) | (go_at_call 25; (with_reducible refine (laws_likeInts.calls kj12 _ _ t416 _ _ t408 t421 _ ?side1 ?side2 ?side3 ?side4 A58.out).mono ?_); (case side1 => repeat (first | exact (Kd.R_reads' HO419.out).2.2 | (with_reducible refine Kd.C_alloc ?_ _) | (with_reducible refine Kd.C_drewN ?_ _) | (with_reducible refine Kd.C_drew ?_))); (case side2 => exact (Kd.R_reads' HO419.out).2.1); (case side3 => repeat (first | exact (Kd.R_reads' HO411.out).2.2 | (with_reducible refine Kd.C_alloc ?_ _) | (with_reducible refine Kd.C_drewN ?_ _) | (with_reducible refine Kd.C_drew ?_))); (case side4 => exact (Kd.R_reads' HO411.out).2.1); rintro e w' ⟨rfl, ⟨nd, rfl⟩⟩))
           go_meet
           case rel => exact ⟨_, (!t421), (by first | rfl | (simp; done) | (simp [*]; done)), H', ⟨by have := HJ6.out; have := HJ12.out; first | omega | exact Nat.le_refl _⟩, ⟨by repeat (first | (with_reducible first | exact HB.out | apply below_alloc | apply pw_below_drewN | apply below_drew1) | exact HB.out)⟩⟩
          ·rw [if_neg c57] at H
           have c57b0 : (t417 == t409) = false := beq_eq_false_iff_ne.mpr c57
           have c57b1 : (t417 != t409) = true := bne_iff_ne.mpr c57
           have H' := Aside0.mk H
           clear H
           obtain ⟨Ao62, co62, eo62⟩ := Kd.R_slice HO411.out
           subst eo62
           obtain ⟨Ao63, co63, eo63⟩ := Kd.R_slice HO415.out
           subst eo63
           go_wp2_with (first | (go_at_call 25; (with_reducible refine (laws_likeInts.calls kj12 _ _ t408 _ _ t412 true _ ?side1 ?side2 ?side3 ?side4 A55.out).mono ?_); (case side1 => repeat (first | exact (Kd.R_reads' HO411.out).2.2 | (with_reducible refine Kd.C_alloc ?_ _) | (with_reducible refine Kd.C_drewN ?_ _) | (with_reducible refine Kd.C_drew ?_))); (case side2 => exact (Kd.R_reads' HO411.out).2.1); (case side3 => repeat (first | exact (Kd.R_reads' HO415.out).2.2 | (with_reducible refine Kd.C_alloc ?_ _) | (with_reducible refine Kd.C_drewN ?_ _) | (with_reducible refine Kd.C_drew ?_))); (case side4 => exact (Kd.R_reads' HO415.out).2.1); rintro e w' ⟨rfl, ⟨nd, rfl⟩⟩))
           go_meet
           case rel => exact ⟨_, (true), (by first | rfl | (simp; done) | (simp [*]; done)), H', ⟨by have := HJ6.out; have := HJ12.out; first | omega | exact Nat.le_refl _⟩, ⟨by repeat (first | (with_reducible first | exact HB.out | apply below_alloc | apply pw_below_drewN | apply below_drew1) | exact HB.out)⟩⟩
         ·replace c56 := Bool.eq_false_iff.mpr c56
          subst c56
          have H1 : (laws_FnFusion.j2 kj12 l0 true) = some r := by rw [if_neg (show ¬ (false = true) by decide)] at H; exact H
          clear H
          have H := H1
          clear H1
          have H' := Aside0.mk H
          clear H
          obtain ⟨Ao64, co64, eo64⟩ := Kd.R_slice HO411.out
          subst eo64
          obtain ⟨Ao65, co65, eo65⟩ := Kd.R_slice HO415.out
          subst eo65
          go_wp2_with (first | (go_at_call 25; (with_reducible refine (laws_likeInts.calls kj12 _ _ t408 _ _ t412 false _ ?side1 ?side2 ?side3 ?side4 A55.out).mono ?_); (case side1 => repeat (first | exact (Kd.R_reads' HO411.out).2.2 | (with_reducible refine Kd.C_alloc ?_ _) | (with_reducible refine Kd.C_drewN ?_ _) | (with_reducible refine Kd.C_drew ?_))); (case side2 => exact (Kd.R_reads' HO411.out).2.1); (case side3 => repeat (first | exact (Kd.R_reads' HO415.out).2.2 | (with_reducible refine Kd.C_alloc ?_ _) | (with_reducible refine Kd.C_drewN ?_ _) | (with_reducible refine Kd.C_drew ?_))); (case side4 => exact (Kd.R_reads' HO415.out).2.1); rintro e w' ⟨rfl, ⟨nd, rfl⟩⟩))
          go_meet
          case rel => exact ⟨_, (true), (by first | rfl | (simp; done) | (simp [*]; done)), H', ⟨by have := HJ6.out; have := HJ12.out; first | omega | exact Nat.le_refl _⟩, ⟨by repeat (first | (with_reducible first | exact HB.out | apply below_alloc | apply pw_below_drewN | apply below_drew1) | exact HB.out)⟩⟩
        ·rw [if_neg c54] at H
         have c54b0 : (t409 == t413) = false := beq_eq_false_iff_ne.mpr c54
         have c54b1 : (t409 != t413) = true := bne_iff_ne.mpr c54
         (first | rw [c54b0] | (simp only [i64_w, i32_w]; rw [c54b0]) | skip)
         have H' := Aside0.mk H
         clear H
         go_wp2
         go_meet
         case rel => exact ⟨_, (true), (by first | rfl | (simp; done) | (simp [*]; done)), H', ⟨by have := HJ6.out; have := HJ12.out; first | omega | exact Nat.le_refl _⟩, ⟨by repeat (first | (with_reducible first | exact HB.out | apply below_alloc | apply pw_below_drewN | apply below_drew1) | exact HB.out)⟩⟩
       case rest => as_aux_lemma =>
        clear HC49
        try clear c1
        try clear c2
        try clear p2
        try clear c3
        try clear c5
        try clear c8
        try clear c11
        try clear c11b0
        try clear c11b1
        try clear c12
        try clear c14
        try clear c14b0
        try clear c14b1
        try clear c15
        try clear c16
        try clear c18
        try clear c18b0
        try clear c18b1
        try clear c19
        try clear c19b0
        try clear c19b1
        try clear c20
        try clear c20b0
        try clear c20b1
        try clear c21
        try clear c21b0
        try clear c21b1
        try clear c22
        try clear c22b0
        try clear c22b1
        try clear c23
        try clear c24
        try clear c54
        try clear c54b0
        try clear c54b1
        try clear c56
        try clear c57
        try clear c57b0
        try clear c57b1
        try clear p2
        obtain ⟨kq, x198_48, rfl, HA, HJ48, HB⟩ := hcut
        cases kq with
        | zero => exact absurd HA.out (by simp [laws_FnFusion.j2])
        | succ kj48 =>
         have H := HA.out
         clear HA
         simp only [laws_FnFusion.j2] at H
         by_cases c66 : x198_48 = true
         ·subst c66
          have H1 : (some false) = some r := by rw [if_pos rfl] at H; exact H
          clear H
          have H := H1
          clear H1
          obtain rfl := Option.some.inj H
          go_wp2
          go_ret
          exact ⟨by first | rfl | (simp [errW_none, errW_some] <;> rfl) | (simp [*, errW_none, errW_some] <;> rfl), by repeat (first | (with_reducible first | exact HB.out | apply below_alloc | apply pw_below_drewN | apply below_drew1) | exact HB.out)⟩
         ·replace c66 := Bool.eq_false_iff.mpr c66
          subst c66
          have H1 : ((spec_DrawFirstZero.f kj48 l0).bind fun bt422 => ((impl_FirstZero.f kj48 bt422.1 bt422.2).bind fun bt424 => ((spec_FirstZero.f kj48 bt422.1 bt422.2).bind fun bt426 => (if bt424.2 = bt426.2 then (laws_FnFusion.j3 kj48 l0 bt422.1 bt422.2 bt424.1 bt424.2 (bt424.1 != bt426.1)) else (laws_FnFusion.j3 kj48 l0 bt422.1 bt422.2 bt424.1 bt424.2 true))))) = some r := by rw [if_neg (show ¬ (false = true) by decide)] at H; exact H
          clear H
          have H := H1
          clear H1
          replace H := Option.bind_eq_some_iff.mp H
          obtain ⟨⟨t422, t423⟩, A670, H⟩ := H
          replace H : ((impl_FirstZero.f kj48 t422 t423).bind fun bt424 => ((spec_FirstZero.f kj48 t422 t423).bind fun bt426 => (if bt424.2 = bt426.2 then (laws_FnFusion.j3 kj48 l0 t422 t423 bt424.1 bt424.2 (bt424.1 != bt426.1)) else (laws_FnFusion.j3 kj48 l0 t422 t423 bt424.1 bt424.2 true)))) = some r := H
          have A67 := Aside0.mk A670
          clear A670
          replace H := Option.bind_eq_some_iff.mp H
          obtain ⟨⟨t424, t425⟩, A680, H⟩ := H
          replace H : ((spec_FirstZero.f kj48 t422 t423).bind fun bt426 => (if t425 = bt426.2 then (laws_FnFusion.j3 kj48 l0 t422 t423 t424 t425 (t424 != bt426.1)) else (laws_FnFusion.j3 kj48 l0 t422 t423 t424 t425 true))) = some r := H
          have A68 := Aside0.mk A680
          clear A680
          replace H := Option.bind_eq_some_iff.mp H
          obtain ⟨⟨t426, t427⟩, A690, H⟩ := H
          replace H : (if t425 = t427 then (laws_FnFusion.j3 kj48 l0 t422 t423 t424 t425 (t424 != t426)) else (laws_FnFusion.j3 kj48 l0 t422 t423 t424 t425 true)) = some r := H
          have A69 := Aside0.mk A690
          clear A690
          have HC70 := Aside0.mk H
          clear H
          go_upto_region 23 with (first | ((with_reducible refine gate_callee (f := 26) rfl ?_); refine goesL_ (some 201) rfl rfl Try.func26 (by kernel_rfl) rfl #[.slice A0 l0.length c0] rfl (by (try simp only [List.map_toArray, List.map_cons, List.map_nil]); first | done | rfl | (simp only [List.length_drop, List.length_take]; rfl)) ?_; (with_reducible refine (spec_DrawFirstZero.calls kj48 _ _ l0 t422 t423 _ ?side1 ?side2 A67.out).mono ?_); (case side1 => repeat (first | exact (Kd.C_below HR0.out HB.out) | (with_reducible refine Kd.C_alloc ?_ _) | (with_reducible refine Kd.C_drewN ?_ _) | (with_reducible refine Kd.C_drew ?_))); (case side2 => exact HC0.out); rintro e w71 ⟨rfl, hb⟩; refine ⟨_, rfl, ?_⟩; have n0_ := Aside0.mk (below_step (by repeat (first | (with_reducible first | exact HB.out | apply below_alloc | apply pw_below_drewN | apply below_drew1) | exact HB.out)) hb); clear HB; have HB := n0_; clear n0_; (try clear hb); (try clear hb2); (try clear hk); (try clear hi)) | ((with_reducible refine gate_callee (f := 10) rfl ?_); refine goesL_ (some 207) rfl rfl Try.func10 (by kernel_rfl) rfl #[.int .i64 t422, .int .i64 t423] rfl (by (try simp only [List.map_toArray, List.map_cons, List.map_nil]); first | done | rfl | (simp only [List.length_drop, List.length_take]; rfl)) ?_; (with_reducible refine (impl_FirstZero.calls kj48 t422 t423 t424 t425 _ A68.out).mono ?_); rintro e w72 ⟨rfl, hb⟩; refine ⟨_, rfl, ?_⟩; have n0_ := Aside0.mk (below_step (by repeat (first | (with_reducible first | exact HB.out | apply below_alloc | apply pw_below_drewN | apply below_drew1) | exact HB.out)) hb); clear HB; have HB := n0_; clear n0_; (try clear hb); (try clear hb2); (try clear hk); (try clear hi)) | ((with_reducible refine gate_callee (f := 9) rfl ?_); refine goesL_ (some 213) rfl rfl Try.func9 (by kernel_rfl) rfl #[.int .i64 t422, .int .i64 t423] rfl (by (try simp only [List.map_toArray, List.map_cons, List.map_nil]); first | done | rfl | (simp only [List.length_drop, List.length_take]; rfl)) ?_; (with_reducible refine (spec_FirstZero.calls kj48 t422 t423 t426 t427 _ A69.out).mono ?_); rintro e w' ⟨rfl, ⟨nd, rfl⟩⟩; refine ⟨_, rfl, ?_⟩))
          (try simp only [Act.put, List.setIfInBounds_toArray, List.set_cons_zero, List.set_cons_succ])
          go_cut [223] (fun v223 wc => ∃ (kq : Nat) (x223_69 : Bool), v223 = .bool x223_69 ∧ Aside0 (laws_FnFusion.j3 kq l0 t422 t423 t424 t425 x223_69 = some r) ∧ Aside0 (kq ≤ kj48) ∧ Aside0 (Below w.heap.size w wc))
          case first => as_aux_lemma =>
           have H := HC70.out
           clear HC70
           by_cases c73 : t425 = t427
           ·rw [if_pos c73] at H
            have c73b0 : (t425 == t427) = true := beq_iff_eq.mpr c73
            have c73b1 : (t425 != t427) = false := bne_eq_false_iff_eq.mpr c73
            clear c73
            (first | rw [c73b0] | (simp only [i64_w, i32_w]; rw [c73b0]) | skip)
            have H' := Aside0.mk H
            clear H
            go_wp2
            go_meet
            case rel => exact ⟨_, ((t424 != t426)), (by first | rfl | (simp; done) | (simp [*]; done)), H', ⟨by have := HJ6.out; have := HJ12.out; have := HJ48.out; first | omega | exact Nat.le_refl _⟩, ⟨by repeat (first | (with_reducible first | exact HB.out | apply below_alloc | apply pw_below_drewN | apply below_drew1) | exact HB.out)⟩⟩
           ·rw [if_neg c73] at H
            have c73b0 : (t425 == t427) = false := beq_eq_false_iff_ne.mpr c73
            have c73b1 : (t425 != t427) = true := bne_iff_ne.mpr c73
            (first | rw [c73b0] | (simp only [i64_w, i32_w]; rw [c73b0]) | skip)
            have H' := Aside0.mk H
            clear H
            go_wp2
            go_meet
            case rel => exact ⟨_, (true), (by first | rfl | (simp; done) | (simp [*]; done)), H', ⟨by have := HJ6.out; have := HJ12.out; have := HJ48.out; first | omega | exact Nat.le_refl _⟩, ⟨by repeat (first | (with_reducible first | exact HB.out | apply below_alloc | apply pw_below_drewN | apply below_drew1) | exact HB.out)⟩⟩
          case rest => as_aux_lemma =>
           clear HC70
           try clear c1
           try clear c2
           try clear p2
           try clear c3
           try clear c5
           try clear c6
           try clear c7
           try clear c8
           try clear c9
           try clear c10
           try clear c11
           try clear c11b0
           try clear c11b1
           try clear c12
           try clear c14
           try clear c14b0
           try clear c14b1
           try clear c15
           try clear c16
           try clear c18
           try clear c18b0
           try clear c18b1
           try clear c19
           try clear c19b0
           try clear c19b1
           try clear c20
           try clear c20b0
           try clear c20b1
           try clear c21
           try clear c21b0
           try clear c21b1
           try clear c22
           try clear c22b0
           try clear c22b1
           try clear c23
           try clear c24
           try clear c26
           try clear c54
           try clear c54b0
           try clear c54b1
           try clear c56
           try clear c57
           try clear c57b0
           try clear c57b1
           try clear c66
           try clear c73
           try clear c73b0
           try clear c73b1
           try clear p2
           obtain ⟨kq, x223_69, rfl, HA, HJ69, HB⟩ := hcut
           cases kq with
           | zero => exact absurd HA.out (by simp [laws_FnFusion.j3])
           | succ kj69 =>
            have H := HA.out
            clear HA
            simp only [laws_FnFusion.j3] at H
            by_cases c74 : x223_69 = true
            ·subst c74
             have H1 : (some false) = some r := by rw [if_pos rfl] at H; exact H
             clear H
             have H := H1
             clear H1
             obtain rfl := Option.some.inj H
             go_wp2
             go_ret
             exact ⟨by first | rfl | (simp [errW_none, errW_some] <;> rfl) | (simp [*, errW_none, errW_some] <;> rfl), by repeat (first | (with_reducible first | exact HB.out | apply below_alloc | apply pw_below_drewN | apply below_drew1) | exact HB.out)⟩
            ·replace c74 := Bool.eq_false_iff.mpr c74
             subst c74
             have H1 : (if t425 = 0 then (laws_FnFusion.j4 kj69 l0 t422 t423 t424 (decide (t424 ≤ 1000))) else (laws_FnFusion.j4 kj69 l0 t422 t423 t424 false)) = some r := by rw [if_neg (show ¬ (false = true) by decide)] at H; exact H
             clear H
             have H := H1
             clear H1
             have HC75 := Aside0.mk H
             clear H
             go_upto_region 25 with (fail)
             go_cut [229] (fun v229 wc => ∃ (kq : Nat) (x229_74 : Bool), v229 = .bool x229_74 ∧ Aside0 (laws_FnFusion.j4 kq l0 t422 t423 t424 x229_74 = some r) ∧ Aside0 (kq ≤ kj69) ∧ Aside0 (Below w.heap.size w wc))
             case first => as_aux_lemma =>
              have H := HC75.out
              clear HC75
              by_cases c76 : t425 = 0
              ·rw [if_pos c76] at H
               have c76b0 : (t425 == 0) = true := beq_iff_eq.mpr c76
               have c76b1 : (t425 != 0) = false := bne_eq_false_iff_eq.mpr c76
               clear c76
               (first | rw [c76b0] | (simp only [i64_w, i32_w]; rw [c76b0]) | skip)
               have H' := Aside0.mk H
               clear H
               go_wp2
               go_meet
               case rel => exact ⟨_, (decide (t424 ≤ 1000)), (by first | rfl | (simp; done) | (simp [*]; done)), H', ⟨by have := HJ6.out; have := HJ12.out; have := HJ48.out; have := HJ69.out; first | omega | exact Nat.le_refl _⟩, ⟨by repeat (first | (with_reducible first | exact HB.out | apply below_alloc | apply pw_below_drewN | apply below_drew1) | exact HB.out)⟩⟩
              ·rw [if_neg c76] at H
               have c76b0 : (t425 == 0) = false := beq_eq_false_iff_ne.mpr c76
               have c76b1 : (t425 != 0) = true := bne_iff_ne.mpr c76
               (first | rw [c76b0] | (simp only [i64_w, i32_w]; rw [c76b0]) | skip)
               have H' := Aside0.mk H
               clear H
               go_wp2
               go_meet
               case rel => exact ⟨_, (false), (by first | rfl | (simp; done) | (simp [*]; done)), H', ⟨by have := HJ6.out; have := HJ12.out; have := HJ48.out; have := HJ69.out; first | omega | exact Nat.le_refl _⟩, ⟨by repeat (first | (with_reducible first | exact HB.out | apply below_alloc | apply pw_below_drewN | apply below_drew1) | exact HB.out)⟩⟩
             case rest => as_aux_lemma =>
              clear HC75
              try clear c1
              try clear c2
              try clear p2
              try clear c3
              try clear c5
              try clear c6
              try clear c7
              try clear c8
              try clear c9
              try clear c10
              try clear c11
              try clear c11b0
              try clear c11b1
              try clear c12
              try clear c14
              try clear c14b0
              try clear c14b1
              try clear c15
              try clear c16
              try clear c18
              try clear c18b0
              try clear c18b1
              try clear c19
              try clear c19b0
              try clear c19b1
              try clear c20
              try clear c20b0
              try clear c20b1
              try clear c21
              try clear c21b0
              try clear c21b1
              try clear c22
              try clear c22b0
              try clear c22b1
              try clear c23
              try clear c24
              try clear c26
              try clear c54
              try clear c54b0
              try clear c54b1
              try clear c56
              try clear c57
              try clear c57b0
              try clear c57b1
              try clear c66
              try clear c73
              try clear c73b0
              try clear c73b1
              try clear c74
              try clear c76
              try clear c76b0
              try clear c76b1
              try clear p2
              obtain ⟨kq, x229_74, rfl, HA, HJ74, HB⟩ := hcut
              cases kq with
              | zero => exact absurd HA.out (by simp [laws_FnFusion.j4])
              | succ kj74 =>
               have H := HA.out
               clear HA
               simp only [laws_FnFusion.j4] at H
               have HC77 := Aside0.mk H
               clear H
               go_upto_if 229 with (fail)
               go_cut [] (fun wc => ∃ (kq : Nat), Aside0 (laws_FnFusion.j5 kq l0 = some r) ∧ Aside0 (kq ≤ kj74) ∧ Aside0 (Below w.heap.size w wc))
               case first => as_aux_lemma =>
                have H := HC77.out
                clear HC77
                by_cases c78 : x229_74 = true
                ·subst c78
                 have H1 : ((impl_ChebyshevNumber.f kj74 t422 t423 t424).bind fun bt428 => (if bt428.2 = 0 then (if bt428.1 = 0 then (if t424 < 1 then (some false) else (laws_FnFusion.j5 kj74 l0)) else (some false)) else (some false))) = some r := by rw [if_pos rfl] at H; exact H
                 clear H
                 have H := H1
                 clear H1
                 replace H := Option.bind_eq_some_iff.mp H
                 obtain ⟨⟨t428, t429⟩, A790, H⟩ := H
                 replace H : (if t429 = 0 then (if t428 = 0 then (if t424 < 1 then (some false) else (laws_FnFusion.j5 kj74 l0)) else (some false)) else (some false)) = some r := H
                 have A79 := Aside0.mk A790
                 clear A790
                 by_cases c80 : t429 = 0
                 ·rw [if_pos c80] at H
                  have c80b0 : (t429 == 0) = true := beq_iff_eq.mpr c80
                  have c80b1 : (t429 != 0) = false := bne_eq_false_iff_eq.mpr c80
                  clear c80
                  (first | rw [c80b0] | (simp only [i64_w, i32_w]; rw [c80b0]) | skip)
                  by_cases c81 : t428 = 0
                  ·rw [if_pos c81] at H
                   have c81b0 : (t428 == 0) = true := beq_iff_eq.mpr c81
                   have c81b1 : (t428 != 0) = false := bne_eq_false_iff_eq.mpr c81
                   clear c81
                   by_cases c82 : t424 < 1
                   ·rw [if_pos c82] at H
                    have c82b0 : decide (t424 < 1) = true := decide_eq_true c82
                    clear c82
                    obtain rfl := Option.some.inj H
                    go_wp2_with (first | ((with_reducible refine gate_callee (f := 27) rfl ?_); refine goesL_ (some 234) rfl rfl Try.func27 (by kernel_rfl) rfl #[.int .i64 t422, .int .i64 t423, .int .i64 t424] rfl (by (try simp only [List.map_toArray, List.map_cons, List.map_nil]); first | done | rfl | (simp only [List.length_drop, List.length_take]; rfl)) ?_; (with_reducible refine (impl_ChebyshevNumber.calls kj74 t422 t423 t424 t428 t429 _ A79.out).mono ?_); rintro e w83 ⟨rfl, hb⟩; refine ⟨_, rfl, ?_⟩; have n0_ := Aside0.mk (below_step (by repeat (first | (with_reducible first | exact HB.out | apply below_alloc | apply pw_below_drewN | apply below_drew1) | exact HB.out)) hb); clear HB; have HB := n0_; clear n0_; (try clear hb); (try clear hb2); (try clear hk); (try clear hi)))
                    go_ret
                    exact ⟨by first | rfl | (simp [errW_none, errW_some] <;> rfl) | (simp [*, errW_none, errW_some] <;> rfl), by repeat (first | (with_reducible first | exact HB.out | apply below_alloc | apply pw_below_drewN | apply below_drew1) | exact HB.out)⟩
                   ·rw [if_neg c82] at H
                    have c82b0 : decide (t424 < 1) = false := decide_eq_false c82
                    clear c82
                    have H' := Aside0.mk H
                    clear H
                    go_wp2_with (first | ((with_reducible refine gate_callee (f := 27) rfl ?_); refine goesL_ (some 234) rfl rfl Try.func27 (by kernel_rfl) rfl #[.int .i64 t422, .int .i64 t423, .int .i64 t424] rfl (by (try simp only [List.map_toArray, List.map_cons, List.map_nil]); first | done | rfl | (simp only [List.length_drop, List.length_take]; rfl)) ?_; (with_reducible refine (impl_ChebyshevNumber.calls kj74 t422 t423 t424 t428 t429 _ A79.out).mono ?_); rintro e w84 ⟨rfl, hb⟩; refine ⟨_, rfl, ?_⟩; have n0_ := Aside0.mk (below_step (by repeat (first | (with_reducible first | exact HB.out | apply below_alloc | apply pw_below_drewN | apply below_drew1) | exact HB.out)) hb); clear HB; have HB := n0_; clear n0_; (try clear hb); (try clear hb2); (try clear hk); (try clear hi)))
                    go_meet
                    case rel => exact ⟨_, H', ⟨by have := HJ6.out; have := HJ12.out; have := HJ48.out; have := HJ69.out; have := HJ74.out; first | omega | exact Nat.le_refl _⟩, ⟨by repeat (first | (with_reducible first | exact HB.out | apply below_alloc | apply pw_below_drewN | apply below_drew1) | exact HB.out)⟩⟩
                  ·rw [if_neg c81] at H
                   have c81b0 : (t428 == 0) = false := beq_eq_false_iff_ne.mpr c81
                   have c81b1 : (t428 != 0) = true := bne_iff_ne.mpr c81
                   obtain rfl := Option.some.inj H
                   go_wp2_with (first | ((with_reducible refine gate_callee (f := 27) rfl ?_); refine goesL_ (some 234) rfl rfl Try.func27 (by kernel_rfl) rfl #[.int .i64 t422, .int .i64 t423, .int .i64 t424] rfl (by (try simp only [List.map_toArray, List.map_cons, List.map_nil]); first | done | rfl | (simp only [List.length_drop, List.length_take]; rfl)) ?_; (with_reducible refine (impl_ChebyshevNumber.calls kj74 t422 t423 t424 t428 t429 _ A79.out).mono ?_); rintro e w85 ⟨rfl, hb⟩; refine ⟨_, rfl, ?_⟩; have n0_ := Aside0.mk (below_step (by repeat (first | (with_reducible first | exact HB.out | apply below_alloc | apply pw_below_drewN | apply below_drew1) | exact HB.out)) hb); clear HB; have HB := n0_; clear n0_; (try clear hb); (try clear hb2); (try clear hk); (try clear hi)))
                   go_ret
                   exact ⟨by first | rfl | (simp [errW_none, errW_some] <;> rfl) | (simp [*, errW_none, errW_some] <;> rfl), by repeat (first | (with_reducible first | exact HB.out | apply below_alloc | apply pw_below_drewN | apply below_drew1) | exact HB.out)⟩
                 ·rw [if_neg c80] at H
                  have c80b0 : (t429 == 0) = false := beq_eq_false_iff_ne.mpr c80
                  have c80b1 : (t429 != 0) = true := bne_iff_ne.mpr c80
                  (first | rw [c80b0] | (simp only [i64_w, i32_w]; rw [c80b0]) | skip)
                  obtain rfl := Option.some.inj H
                  go_wp2_with (first | ((with_reducible refine gate_callee (f := 27) rfl ?_); refine goesL_ (some 234) rfl rfl Try.func27 (by kernel_rfl) rfl #[.int .i64 t422, .int .i64 t423, .int .i64 t424] rfl (by (try simp only [List.map_toArray, List.map_cons, List.map_nil]); first | done | rfl | (simp only [List.length_drop, List.length_take]; rfl)) ?_; (with_reducible refine (impl_ChebyshevNumber.calls kj74 t422 t423 t424 t428 t429 _ A79.out).mono ?_); rintro e w86 ⟨rfl, hb⟩; refine ⟨_, rfl, ?_⟩; have n0_ := Aside0.mk (below_step (by repeat (first | (with_reducible first | exact HB.out | apply below_alloc | apply pw_below_drewN | apply below_drew1) | exact HB.out)) hb); clear HB; have HB := n0_; clear n0_; (try clear hb); (try clear hb2); (try clear hk); (try clear hi)))
                  go_ret
                  exact ⟨by first | rfl | (simp [errW_none, errW_some] <;> rfl) | (simp [*, errW_none, errW_some] <;> rfl), by repeat (first | (with_reducible first | exact HB.out | apply below_alloc | apply pw_below_drewN | apply below_drew1) | exact HB.out)⟩
                ·replace c78 := Bool.eq_false_iff.mpr c78
                 subst c78
                 have H1 : (laws_FnFusion.j5 kj74 l0) = some r := by rw [if_neg (show ¬ (false = true) by decide)] at H; exact H
                 clear H
                 have H := H1
                 clear H1
                 have H' := Aside0.mk H
                 clear H
                 go_wp2
                 go_meet
                 case rel => exact ⟨_, H', ⟨by have := HJ6.out; have := HJ12.out; have := HJ48.out; have := HJ69.out; have := HJ74.out; first | omega | exact Nat.le_refl _⟩, ⟨by repeat (first | (with_reducible first | exact HB.out | apply below_alloc | apply pw_below_drewN | apply below_drew1) | exact HB.out)⟩⟩
               case rest => as_aux_lemma =>
                clear HC77
                try clear c1
                try clear c2
                try clear p2
                try clear c3
                try clear c5
                try clear c6
                try clear c7
                try clear c8
                try clear c9
                try clear c10
                try clear c11
                try clear c11b0
                try clear c11b1
                try clear c12
                try clear c14
                try clear c14b0
                try clear c14b1
                try clear c15
                try clear c16
                try clear c18
                try clear c18b0
                try clear c18b1
                try clear c19
                try clear c19b0
                try clear c19b1
                try clear c20
                try clear c20b0
                try clear c20b1
                try clear c21
                try clear c21b0
                try clear c21b1
                try clear c22
                try clear c22b0
                try clear c22b1
                try clear c23
                try clear c24
                try clear c26
                try clear c27
                try clear c54
                try clear c54b0
                try clear c54b1
                try clear c56
                try clear c57
                try clear c57b0
                try clear c57b1
                try clear c66
                try clear c73
                try clear c73b0
                try clear c73b1
                try clear c74
                try clear c76
                try clear c76b0
                try clear c76b1
                try clear c78
                try clear c80
                try clear c80b0
                try clear c80b1
                try clear c81
                try clear c81b0
                try clear c81b1
                try clear c82
                try clear c82b0
                try clear p2
                obtain ⟨kq, HA, HJ76, HB⟩ := hcut
                cases kq with
                | zero => exact absurd HA.out (by simp [laws_FnFusion.j5])
                | succ kj76 =>
                 have H := HA.out
                 clear HA
                 simp only [laws_FnFusion.j5] at H
                 replace H := Option.bind_eq_some_iff.mp H
                 obtain ⟨⟨t430, t431, t432⟩, A870, H⟩ := H
                 replace H : ((impl_ChebyshevNumber.f kj76 t430 t431 t432).bind fun bt433 => ((spec_ChebyshevNumber.f kj76 t430 t431 t432).bind fun bt435 => ((spec_DrawCountPaths.f kj76 l0).bind fun bt437 => ((impl_CountPaths.f kj76 bt437.1 bt437.2.1 bt437.2.2).bind fun bt440 => ((spec_CountPaths.f kj76 bt437.1 bt437.2.1 bt437.2.2).bind fun bt442 => ((spec_DrawIsAdmissible.f kj76 l0).bind fun bt444 => ((impl_IsAdmissible.f kj76 bt444.1 bt444.2.1 bt444.2.2.1 bt444.2.2.2.1 bt444.2.2.2.2).bind fun bt449 => ((spec_IsAdmissible.f kj76 bt444.1 bt444.2.1 bt444.2.2.1 bt444.2.2.2.1 bt444.2.2.2.2).bind fun bt451 => (if bt433.2 = bt435.2 then (if bt433.1 = bt435.1 then (if bt440.2 = bt442.2 then (if bt440.1 = bt442.1 then (if bt449.2 = bt451.2 then (some (bt449.1 == bt451.1)) else (some false)) else (some false)) else (some false)) else (some false)) else (some false)))))))))) = some r := H
                 have A87 := Aside0.mk A870
                 clear A870
                 replace H := Option.bind_eq_some_iff.mp H
                 obtain ⟨⟨t433, t434⟩, A880, H⟩ := H
                 replace H : ((spec_ChebyshevNumber.f kj76 t430 t431 t432).bind fun bt435 => ((spec_DrawCountPaths.f kj76 l0).bind fun bt437 => ((impl_CountPaths.f kj76 bt437.1 bt437.2.1 bt437.2.2).bind fun bt440 => ((spec_CountPaths.f kj76 bt437.1 bt437.2.1 bt437.2.2).bind fun bt442 => ((spec_DrawIsAdmissible.f kj76 l0).bind fun bt444 => ((impl_IsAdmissible.f kj76 bt444.1 bt444.2.1 bt444.2.2.1 bt444.2.2.2.1 bt444.2.2.2.2).bind fun bt449 => ((spec_IsAdmissible.f kj76 bt444.1 bt444.2.1 bt444.2.2.1 bt444.2.2.2.1 bt444.2.2.2.2).bind fun bt451 => (if t434 = bt435.2 then (if t433 = bt435.1 then (if bt440.2 = bt442.2 then (if bt440.1 = bt442.1 then (if bt449.2 = bt451.2 then (some (bt449.1 == bt451.1)) else (some false)) else (some false)) else (some false)) else (some false)) else (some false))))))))) = some r := H
                 have A88 := Aside0.mk A880
                 clear A880
                 replace H := Option.bind_eq_some_iff.mp H
                 obtain ⟨⟨t435, t436⟩, A890, H⟩ := H
                 replace H : ((spec_DrawCountPaths.f kj76 l0).bind fun bt437 => ((impl_CountPaths.f kj76 bt437.1 bt437.2.1 bt437.2.2).bind fun bt440 => ((spec_CountPaths.f kj76 bt437.1 bt437.2.1 bt437.2.2).bind fun bt442 => ((spec_DrawIsAdmissible.f kj76 l0).bind fun bt444 => ((impl_IsAdmissible.f kj76 bt444.1 bt444.2.1 bt444.2.2.1 bt444.2.2.2.1 bt444.2.2.2.2).bind fun bt449 => ((spec_IsAdmissible.f kj76 bt444.1 bt444.2.1 bt444.2.2.1 bt444.2.2.2.1 bt444.2.2.2.2).bind fun bt451 => (if t434 = t436 then (if t433 = t435 then (if bt440.2 = bt442.2 then (if bt440.1 = bt442.1 then (if bt449.2 = bt451.2 then (some (bt449.1 == bt451.1)) else (some false)) else (some false)) else (some false)) else (some false)) else (some false)))))))) = some r := H
                 have A89 := Aside0.mk A890
                 clear A890
                 replace H := Option.bind_eq_some_iff.mp H
                 obtain ⟨⟨t437, t438, t439⟩, A900, H⟩ := H
                 replace H : ((impl_CountPaths.f kj76 t437 t438 t439).bind fun bt440 => ((spec_CountPaths.f kj76 t437 t438 t439).bind fun bt442 => ((spec_DrawIsAdmissible.f kj76 l0).bind fun bt444 => ((impl_IsAdmissible.f kj76 bt444.1 bt444.2.1 bt444.2.2.1 bt444.2.2.2.1 bt444.2.2.2.2).bind fun bt449 => ((spec_IsAdmissible.f kj76 bt444.1 bt444.2.1 bt444.2.2.1 bt444.2.2.2.1 bt444.2.2.2.2).bind fun bt451 => (if t434 = t436 then (if t433 = t435 then (if bt440.2 = bt442.2 then (if bt440.1 = bt442.1 then (if bt449.2 = bt451.2 then (some (bt449.1 == bt451.1)) else (some false)) else (some false)) else (some false)) else (some false)) else (some false))))))) = some r := H
                 have A90 := Aside0.mk A900
                 clear A900
                 replace H := Option.bind_eq_some_iff.mp H
                 obtain ⟨⟨t440, t441⟩, A910, H⟩ := H
                 replace H : ((spec_CountPaths.f kj76 t437 t438 t439).bind fun bt442 => ((spec_DrawIsAdmissible.f kj76 l0).bind fun bt444 => ((impl_IsAdmissible.f kj76 bt444.1 bt444.2.1 bt444.2.2.1 bt444.2.2.2.1 bt444.2.2.2.2).bind fun bt449 => ((spec_IsAdmissible.f kj76 bt444.1 bt444.2.1 bt444.2.2.1 bt444.2.2.2.1 bt444.2.2.2.2).bind fun bt451 => (if t434 = t436 then (if t433 = t435 then (if t441 = bt442.2 then (if t440 = bt442.1 then (if bt449.2 = bt451.2 then (some (bt449.1 == bt451.1)) else (some false)) else (some false)) else (some false)) else (some false)) else (some false)))))) = some r := H
                 have A91 := Aside0.mk A910
                 clear A910
                 replace H := Option.bind_eq_some_iff.mp H
                 obtain ⟨⟨t442, t443⟩, A920, H⟩ := H
                 replace H : ((spec_DrawIsAdmissible.f kj76 l0).bind fun bt444 => ((impl_IsAdmissible.f kj76 bt444.1 bt444.2.1 bt444.2.2.1 bt444.2.2.2.1 bt444.2.2.2.2).bind fun bt449 => ((spec_IsAdmissible.f kj76 bt444.1 bt444.2.1 bt444.2.2.1 bt444.2.2.2.1 bt444.2.2.2.2).bind fun bt451 => (if t434 = t436 then (if t433 = t435 then (if t441 = t443 then (if t440 = t442 then (if bt449.2 = bt451.2 then (some (bt449.1 == bt451.1)) else (some false)) else (some false)) else (some false)) else (some false)) else (some false))))) = some r := H
                 have A92 := Aside0.mk A920
                 clear A920
                 replace H := Option.bind_eq_some_iff.mp H
                 obtain ⟨⟨t444, t445, t446, t447, t448⟩, A930, H⟩ := H
                 replace H : ((impl_IsAdmissible.f kj76 t444 t445 t446 t447 t448).bind fun bt449 => ((spec_IsAdmissible.f kj76 t444 t445 t446 t447 t448).bind fun bt451 => (if t434 = t436 then (if t433 = t435 then (if t441 = t443 then (if t440 = t442 then (if bt449.2 = bt451.2 then (some (bt449.1 == bt451.1)) else (some false)) else (some false)) else (some false)) else (some false)) else (some false)))) = some r := H
                 have A93 := Aside0.mk A930
                 clear A930
                 replace H := Option.bind_eq_some_iff.mp H
                 obtain ⟨⟨t449, t450⟩, A940, H⟩ := H
                 replace H : ((spec_IsAdmissible.f kj76 t444 t445 t446 t447 t448).bind fun bt451 => (if t434 = t436 then (if t433 = t435 then (if t441 = t443 then (if t440 = t442 then (if t450 = bt451.2 then (some (t449 == bt451.1)) else (some false)) else (some false)) else (some false)) else (some false)) else (some false))) = some r := H
                 have A94 := Aside0.mk A940
                 clear A940
                 replace H := Option.bind_eq_some_iff.mp H
                 obtain ⟨⟨t451, t452⟩, A950, H⟩ := H
                 replace H : (if t434 = t436 then (if t433 = t435 then (if t441 = t443 then (if t440 = t442 then (if t450 = t452 then (some (t449 == t451)) else (some false)) else (some false)) else (some false)) else (some false)) else (some false)) = some r := H
                 have A95 := Aside0.mk A950
                 clear A950
                 by_cases c96 : t434 = t436
                 ·rw [if_pos c96] at H
                  have c96b0 : (t434 == t436) = true := beq_iff_eq.mpr c96
                  have c96b1 : (t434 != t436) = false := bne_eq_false_iff_eq.mpr c96
                  clear c96
                  by_cases c97 : t433 = t435
                  ·rw [if_pos c97] at H
                   have c97b0 : (t433 == t435) = true := beq_iff_eq.mpr c97
                   have c97b1 : (t433 != t435) = false := bne_eq_false_iff_eq.mpr c97
                   clear c97
                   by_cases c98 : t441 = t443
                   ·rw [if_pos c98] at H
                    have c98b0 : (t441 == t443) = true := beq_iff_eq.mpr c98
                    have c98b1 : (t441 != t443) = false := bne_eq_false_iff_eq.mpr c98
                    clear c98
                    by_cases c99 : t440 = t442
                    ·rw [if_pos c99] at H
                     have c99b0 : (t440 == t442) = true := beq_iff_eq.mpr c99
                     have c99b1 : (t440 != t442) = false := bne_eq_false_iff_eq.mpr c99
                     clear c99
                     by_cases c100 : t450 = t452
                     ·rw [if_pos c100] at H
                      have c100b0 : (t450 == t452) = true := beq_iff_eq.mpr c100
                      have c100b1 : (t450 != t452) = false := bne_eq_false_iff_eq.mpr c100
                      clear c100
                      obtain rfl := Option.some.inj H
                      go_wp2_with (first | ((with_reducible refine gate_callee (f := 28) rfl ?_); refine goesL_ (some 249) rfl rfl Try.func28 (by kernel_rfl) rfl #[.slice A0 l0.length c0] rfl (by (try simp only [List.map_toArray, List.map_cons, List.map_nil]); first | done | rfl | (simp only [List.length_drop, List.length_take]; rfl)) ?_; (with_reducible refine (spec_DrawChebyshevNumber.calls kj76 _ _ l0 t430 t431 t432 _ ?side1 ?side2 A87.out).mono ?_); (case side1 => repeat (first | exact (Kd.C_below HR0.out HB.out) | (with_reducible refine Kd.C_alloc ?_ _) | (with_reducible refine Kd.C_drewN ?_ _) | (with_reducible refine Kd.C_drew ?_))); (case side2 => exact HC0.out); rintro e w101 ⟨rfl, hb⟩; refine ⟨_, rfl, ?_⟩; have n0_ := Aside0.mk (below_step (by repeat (first | (with_reducible first | exact HB.out | apply below_alloc | apply pw_below_drewN | apply below_drew1) | exact HB.out)) hb); clear HB; have HB := n0_; clear n0_; (try clear hb); (try clear hb2); (try clear hk); (try clear hi)) | ((with_reducible refine gate_callee (f := 27) rfl ?_); refine goesL_ (some 257) rfl rfl Try.func27 (by kernel_rfl) rfl #[.int .i64 t430, .int .i64 t431, .int .i64 t432] rfl (by (try simp only [List.map_toArray, List.map_cons, List.map_nil]); first | done | rfl | (simp only [List.length_drop, List.length_take]; rfl)) ?_; (with_reducible refine (impl_ChebyshevNumber.calls kj76 t430 t431 t432 t433 t434 _ A88.out).mono ?_); rintro e w102 ⟨rfl, hb⟩; refine ⟨_, rfl, ?_⟩; have n0_ := Aside0.mk (below_step (by repeat (first | (with_reducible first | exact HB.out | apply below_alloc | apply pw_below_drewN | apply below_drew1) | exact HB.out)) hb); clear HB; have HB := n0_; clear n0_; (try clear hb); (try clear hb2); (try clear hk); (try clear hi)) | ((with_reducible refine gate_callee (f := 29) rfl ?_); refine goesL_ (some 264) rfl rfl Try.func29 (by kernel_rfl) rfl #[.int .i64 t430, .int .i64 t431, .int .i64 t432] rfl (by (try simp only [List.map_toArray, List.map_cons, List.map_nil]); first | done | rfl | (simp only [List.length_drop, List.length_take]; rfl)) ?_; (with_reducible refine (spec_ChebyshevNumber.calls kj76 t430 t431 t432 t435 t436 _ A89.out).mono ?_); rintro e w' ⟨rfl, ⟨nd, rfl⟩⟩; refine ⟨_, rfl, ?_⟩) | ((with_reducible refine gate_callee (f := 30) rfl ?_); refine goesL_ (some 269) rfl rfl Try.func30 (by kernel_rfl) rfl #[.slice A0 l0.length c0] rfl (by (try simp only [List.map_toArray, List.map_cons, List.map_nil]); first | done | rfl | (simp only [List.length_drop, List.length_take]; rfl)) ?_; (with_reducible refine (spec_DrawCountPaths.calls kj76 _ _ l0 t437 t438 t439 _ ?side1 ?side2 A90.out).mono ?_); (case side1 => repeat (first | exact (Kd.C_below HR0.out (by repeat (first | (with_reducible first | exact HB.out | apply below_alloc | apply pw_below_drewN | apply below_drew1) | exact HB.out))) | (with_reducible refine Kd.C_alloc ?_ _) | (with_reducible refine Kd.C_drewN ?_ _) | (with_reducible refine Kd.C_drew ?_))); (case side2 => exact HC0.out); rintro e w103 ⟨rfl, hb⟩; refine ⟨_, rfl, ?_⟩; have n0_ := Aside0.mk (below_step (by repeat (first | (with_reducible first | exact HB.out | apply below_alloc | apply pw_below_drewN | apply below_drew1) | exact HB.out)) hb); clear HB; have HB := n0_; clear n0_; (try clear hb); (try clear hb2); (try clear hk); (try clear hi)) | ((with_reducible refine gate_callee (f := 31) rfl ?_); refine goesL_ (some 277) rfl rfl Try.func31 (by kernel_rfl) rfl #[.int .i64 t437, .int .i64 t438, .int .i64 t439] rfl (by (try simp only [List.map_toArray, List.map_cons, List.map_nil]); first | done | rfl | (simp only [List.length_drop, List.length_take]; rfl)) ?_; (with_reducible refine (impl_CountPaths.calls kj76 t437 t438 t439 t440 t441 _ A91.out).mono ?_); rintro e w104 ⟨rfl, hb⟩; refine ⟨_, rfl, ?_⟩; have n0_ := Aside0.mk (below_step (by repeat (first | (with_reducible first | exact HB.out | apply below_alloc | apply pw_below_drewN | apply below_drew1) | exact HB.out)) hb); clear HB; have HB := n0_; clear n0_; (try clear hb); (try clear hb2); (try clear hk); (try clear hi)) | ((with_reducible refine gate_callee (f := 32) rfl ?_); refine goesL_ (some 284) rfl rfl Try.func32 (by kernel_rfl) rfl #[.int .i64 t437, .int .i64 t438, .int .i64 t439] rfl (by (try simp only [List.map_toArray, List.map_cons, List.map_nil]); first | done | rfl | (simp only [List.length_drop, List.length_take]; rfl)) ?_; (with_reducible refine (spec_CountPaths.calls kj76 t437 t438 t439 t442 t443 _ A92.out).mono ?_); rintro e w105 ⟨rfl, hb⟩; refine ⟨_, rfl, ?_⟩; have n0_ := Aside0.mk (below_step (by repeat (first | (with_reducible first | exact HB.out | apply below_alloc | apply pw_below_drewN | apply below_drew1) | exact HB.out)) hb); clear HB; have HB := n0_; clear n0_; (try clear hb); (try clear hb2); (try clear hk); (try clear hi)) | ((with_reducible refine gate_callee (f := 33) rfl ?_); refine goesL_ (some 289) rfl rfl Try.func33 (by kernel_rfl) rfl #[.slice A0 l0.length c0] rfl (by (try simp only [List.map_toArray, List.map_cons, List.map_nil]); first | done | rfl | (simp only [List.length_drop, List.length_take]; rfl)) ?_; (with_reducible refine (spec_DrawIsAdmissible.calls kj76 _ _ l0 t444 t445 t446 t447 t448 _ ?side1 ?side2 A93.out).mono ?_); (case side1 => repeat (first | exact (Kd.C_below HR0.out HB.out) | (with_reducible refine Kd.C_alloc ?_ _) | (with_reducible refine Kd.C_drewN ?_ _) | (with_reducible refine Kd.C_drew ?_))); (case side2 => exact HC0.out); rintro e w106 ⟨rfl, hb⟩; refine ⟨_, rfl, ?_⟩; have n0_ := Aside0.mk (below_step (by repeat (first | (with_reducible first | exact HB.out | apply below_alloc | apply pw_below_drewN | apply below_drew1) | exact HB.out)) hb); clear HB; have HB := n0_; clear n0_; (try clear hb); (try clear hb2); (try clear hk); (try clear hi)) | ((with_reducible refine gate_callee (f := 14) rfl ?_); refine goesL_ (some 301) rfl rfl Try.func14 (by kernel_rfl) rfl #[.int .i64 t444, .int .i64 t445, .int .i64 t446, .int .i64 t447, .int .i64 t448] rfl (by (try simp only [List.map_toArray, List.map_cons, List.map_nil]); first | done | rfl | (simp only [List.length_drop, List.length_take]; rfl)) ?_; (with_reducible refine (impl_IsAdmissible.calls kj76 t444 t445 t446 t447 t448 t449 t450 _ A94.out).mono ?_); rintro e w107 ⟨rfl, hb⟩; refine ⟨_, rfl, ?_⟩; have n0_ := Aside0.mk (below_step (by repeat (first | (with_reducible first | exact HB.out | apply below_alloc | apply pw_below_drewN | apply below_drew1) | exact HB.out)) hb); clear HB; have HB := n0_; clear n0_; (try clear hb); (try clear hb2); (try clear hk); (try clear hi)) | ((with_reducible refine gate_callee (f := 13) rfl ?_); refine goesL_ (some 310) rfl rfl Try.func13 (by kernel_rfl) rfl #[.int .i64 t444, .int .i64 t445, .int .i64 t446, .int .i64 t447, .int .i64 t448] rfl (by (try simp only [List.map_toArray, List.map_cons, List.map_nil]); first | done | rfl | (simp only [List.length_drop, List.length_take]; rfl)) ?_; (with_reducible refine (spec_IsAdmissible.calls kj76 t444 t445 t446 t447 t448 t451 t452 _ A95.out).mono ?_); rintro e w108 ⟨rfl, hb⟩; refine ⟨_, rfl, ?_⟩; have n0_ := Aside0.mk (below_step (by repeat (first | (with_reducible first | exact HB.out | apply below_alloc | apply pw_below_drewN | apply below_drew1) | exact HB.out)) hb); clear HB; have HB := n0_; clear n0_; (try clear hb); (try clear hb2); (try clear hk); (try clear hi)))
                      go_ret
                      exact ⟨by first | rfl | (simp [errW_none, errW_some] <;> rfl) | (simp [*, errW_none, errW_some] <;> rfl), by repeat (first | (with_reducible first | exact HB.out | apply below_alloc | apply pw_below_drewN | apply below_drew1) | exact HB.out)⟩
                     ·rw [if_neg c100] at H
                      have c100b0 : (t450 == t452) = false := beq_eq_false_iff_ne.mpr c100
                      have c100b1 : (t450 != t452) = true := bne_iff_ne.mpr c100
                      obtain rfl := Option.some.inj H
                      go_wp2_with (first | ((with_reducible refine gate_callee (f := 28) rfl ?_); refine goesL_ (some 249) rfl rfl Try.func28 (by kernel_rfl) rfl #[.slice A0 l0.length c0] rfl (by (try simp only [List.map_toArray, List.map_cons, List.map_nil]); first | done | rfl | (simp only [List.length_drop, List.length_take]; rfl)) ?_; (with_reducible refine (spec_DrawChebyshevNumber.calls kj76 _ _ l0 t430 t431 t432 _ ?side1 ?side2 A87.out).mono ?_); (case side1 => repeat (first | exact (Kd.C_below HR0.out HB.out) | (with_reducible refine Kd.C_alloc ?_ _) | (with_reducible refine Kd.C_drewN ?_ _) | (with_reducible refine Kd.C_drew ?_))); (case side2 => exact HC0.out); rintro e w109 ⟨rfl, hb⟩; refine ⟨_, rfl, ?_⟩; have n0_ := Aside0.mk (below_step (by repeat (first | (with_reducible first | exact HB.out | apply below_alloc | apply pw_below_drewN | apply below_drew1) | exact HB.out)) hb); clear HB; have HB := n0_; clear n0_; (try clear hb); (try clear hb2); (try clear hk); (try clear hi)) | ((with_reducible refine gate_callee (f := 27) rfl ?_); refine goesL_ (some 257) rfl rfl Try.func27 (by kernel_rfl) rfl #[.int .i64 t430, .int .i64 t431, .int .i64 t432] rfl (by (try simp only [List.map_toArray, List.map_cons, List.map_nil]); first | done | rfl | (simp only [List.length_drop, List.length_take]; rfl)) ?_; (with_reducible refine (impl_ChebyshevNumber.calls kj76 t430 t431 t432 t433 t434 _ A88.out).mono ?_); rintro e w110 ⟨rfl, hb⟩; refine ⟨_, rfl, ?_⟩; have n0_ := Aside0.mk (below_step (by repeat (first | (with_reducible first | exact HB.out | apply below_alloc | apply pw_below_drewN | apply below_drew1) | exact HB.out)) hb); clear HB; have HB := n0_; clear n0_; (try clear hb); (try clear hb2); (try clear hk); (try clear hi)) | ((with_reducible refine gate_callee (f := 29) rfl ?_); refine goesL_ (some 264) rfl rfl Try.func29 (by kernel_rfl) rfl #[.int .i64 t430, .int .i64 t431, .int .i64 t432] rfl (by (try simp only [List.map_toArray, List.map_cons, List.map_nil]); first | done | rfl | (simp only [List.length_drop, List.length_take]; rfl)) ?_; (with_reducible refine (spec_ChebyshevNumber.calls kj76 t430 t431 t432 t435 t436 _ A89.out).mono ?_); rintro e w' ⟨rfl, ⟨nd, rfl⟩⟩; refine ⟨_, rfl, ?_⟩) | ((with_reducible refine gate_callee (f := 30) rfl ?_); refine goesL_ (some 269) rfl rfl Try.func30 (by kernel_rfl) rfl #[.slice A0 l0.length c0] rfl (by (try simp only [List.map_toArray, List.map_cons, List.map_nil]); first | done | rfl | (simp only [List.length_drop, List.length_take]; rfl)) ?_; (with_reducible refine (spec_DrawCountPaths.calls kj76 _ _ l0 t437 t438 t439 _ ?side1 ?side2 A90.out).mono ?_); (case side1 => repeat (first | exact (Kd.C_below HR0.out (by repeat (first | (with_reducible first | exact HB.out | apply below_alloc | apply pw_below_drewN | apply below_drew1) | exact HB.out))) | (with_reducible refine Kd.C_alloc ?_ _) | (with_reducible refine Kd.C_drewN ?_ _) | (with_reducible refine Kd.C_drew ?_))); (case side2 => exact HC0.out); rintro e w111 ⟨rfl, hb⟩; refine ⟨_, rfl, ?_⟩; have n0_ := Aside0.mk (below_step (by repeat (first | (with_reducible first | exact HB.out | apply below_alloc | apply pw_below_drewN | apply below_drew1) | exact HB.out)) hb); clear HB; have HB := n0_; clear n0_; (try clear hb); (try clear hb2); (try clear hk); (try clear hi)) | ((with_reducible refine gate_callee (f := 31) rfl ?_); refine goesL_ (some 277) rfl rfl Try.func31 (by kernel_rfl) rfl #[.int .i64 t437, .int .i64 t438, .int .i64 t439] rfl (by (try simp only [List.map_toArray, List.map_cons, List.map_nil]); first | done | rfl | (simp only [List.length_drop, List.length_take]; rfl)) ?_; (with_reducible refine (impl_CountPaths.calls kj76 t437 t438 t439 t440 t441 _ A91.out).mono ?_); rintro e w112 ⟨rfl, hb⟩; refine ⟨_, rfl, ?_⟩; have n0_ := Aside0.mk (below_step (by repeat (first | (with_reducible first | exact HB.out | apply below_alloc | apply pw_below_drewN | apply below_drew1) | exact HB.out)) hb); clear HB; have HB := n0_; clear n0_; (try clear hb); (try clear hb2); (try clear hk); (try clear hi)) | ((with_reducible refine gate_callee (f := 32) rfl ?_); refine goesL_ (some 284) rfl rfl Try.func32 (by kernel_rfl) rfl #[.int .i64 t437, .int .i64 t438, .int .i64 t439] rfl (by (try simp only [List.map_toArray, List.map_cons, List.map_nil]); first | done | rfl | (simp only [List.length_drop, List.length_take]; rfl)) ?_; (with_reducible refine (spec_CountPaths.calls kj76 t437 t438 t439 t442 t443 _ A92.out).mono ?_); rintro e w113 ⟨rfl, hb⟩; refine ⟨_, rfl, ?_⟩; have n0_ := Aside0.mk (below_step (by repeat (first | (with_reducible first | exact HB.out | apply below_alloc | apply pw_below_drewN | apply below_drew1) | exact HB.out)) hb); clear HB; have HB := n0_; clear n0_; (try clear hb); (try clear hb2); (try clear hk); (try clear hi)) | ((with_reducible refine gate_callee (f := 33) rfl ?_); refine goesL_ (some 289) rfl rfl Try.func33 (by kernel_rfl) rfl #[.slice A0 l0.length c0] rfl (by (try simp only [List.map_toArray, List.map_cons, List.map_nil]); first | done | rfl | (simp only [List.length_drop, List.length_take]; rfl)) ?_; (with_reducible refine (spec_DrawIsAdmissible.calls kj76 _ _ l0 t444 t445 t446 t447 t448 _ ?side1 ?side2 A93.out).mono ?_); (case side1 => repeat (first | exact (Kd.C_below HR0.out HB.out) | (with_reducible refine Kd.C_alloc ?_ _) | (with_reducible refine Kd.C_drewN ?_ _) | (with_reducible refine Kd.C_drew ?_))); (case side2 => exact HC0.out); rintro e w114 ⟨rfl, hb⟩; refine ⟨_, rfl, ?_⟩; have n0_ := Aside0.mk (below_step (by repeat (first | (with_reducible first | exact HB.out | apply below_alloc | apply pw_below_drewN | apply below_drew1) | exact HB.out)) hb); clear HB; have HB := n0_; clear n0_; (try clear hb); (try clear hb2); (try clear hk); (try clear hi)) | ((with_reducible refine gate_callee (f := 14) rfl ?_); refine goesL_ (some 301) rfl rfl Try.func14 (by kernel_rfl) rfl #[.int .i64 t444, .int .i64 t445, .int .i64 t446, .int .i64 t447, .int .i64 t448] rfl (by (try simp only [List.map_toArray, List.map_cons, List.map_nil]); first | done | rfl | (simp only [List.length_drop, List.length_take]; rfl)) ?_; (with_reducible refine (impl_IsAdmissible.calls kj76 t444 t445 t446 t447 t448 t449 t450 _ A94.out).mono ?_); rintro e w115 ⟨rfl, hb⟩; refine ⟨_, rfl, ?_⟩; have n0_ := Aside0.mk (below_step (by repeat (first | (with_reducible first | exact HB.out | apply below_alloc | apply pw_below_drewN | apply below_drew1) | exact HB.out)) hb); clear HB; have HB := n0_; clear n0_; (try clear hb); (try clear hb2); (try clear hk); (try clear hi)) | ((with_reducible refine gate_callee (f := 13) rfl ?_); refine goesL_ (some 310) rfl rfl Try.func13 (by kernel_rfl) rfl #[.int .i64 t444, .int .i64 t445, .int .i64 t446, .int .i64 t447, .int .i64 t448] rfl (by (try simp only [List.map_toArray, List.map_cons, List.map_nil]); first | done | rfl | (simp only [List.length_drop, List.length_take]; rfl)) ?_; (with_reducible refine (spec_IsAdmissible.calls kj76 t444 t445 t446 t447 t448 t451 t452 _ A95.out).mono ?_); rintro e w116 ⟨rfl, hb⟩; refine ⟨_, rfl, ?_⟩; have n0_ := Aside0.mk (below_step (by repeat (first | (with_reducible first | exact HB.out | apply below_alloc | apply pw_below_drewN | apply below_drew1) | exact HB.out)) hb); clear HB; have HB := n0_; clear n0_; (try clear hb); (try clear hb2); (try clear hk); (try clear hi)))
                      go_ret
                      exact ⟨by first | rfl | (simp [errW_none, errW_some] <;> rfl) | (simp [*, errW_none, errW_some] <;> rfl), by repeat (first | (with_reducible first | exact HB.out | apply below_alloc | apply pw_below_drewN | apply below_drew1) | exact HB.out)⟩
                    ·rw [if_neg c99] at H
                     have c99b0 : (t440 == t442) = false := beq_eq_false_iff_ne.mpr c99
                     have c99b1 : (t440 != t442) = true := bne_iff_ne.mpr c99
                     obtain rfl := Option.some.inj H
                     go_wp2_with (first | ((with_reducible refine gate_callee (f := 28) rfl ?_); refine goesL_ (some 249) rfl rfl Try.func28 (by kernel_rfl) rfl #[.slice A0 l0.length c0] rfl (by (try simp only [List.map_toArray, List.map_cons, List.map_nil]); first | done | rfl | (simp only [List.length_drop, List.length_take]; rfl)) ?_; (with_reducible refine (spec_DrawChebyshevNumber.calls kj76 _ _ l0 t430 t431 t432 _ ?side1 ?side2 A87.out).mono ?_); (case side1 => repeat (first | exact (Kd.C_below HR0.out HB.out) | (with_reducible refine Kd.C_alloc ?_ _) | (with_reducible refine Kd.C_drewN ?_ _) | (with_reducible refine Kd.C_drew ?_))); (case side2 => exact HC0.out); rintro e w117 ⟨rfl, hb⟩; refine ⟨_, rfl, ?_⟩; have n0_ := Aside0.mk (below_step (by repeat (first | (with_reducible first | exact HB.out | apply below_alloc | apply pw_below_drewN | apply below_drew1) | exact HB.out)) hb); clear HB; have HB := n0_; clear n0_; (try clear hb); (try clear hb2); (try clear hk); (try clear hi)) | ((with_reducible refine gate_callee (f := 27) rfl ?_); refine goesL_ (some 257) rfl rfl Try.func27 (by kernel_rfl) rfl #[.int .i64 t430, .int .i64 t431, .int .i64 t432] rfl (by (try simp only [List.map_toArray, List.map_cons, List.map_nil]); first | done | rfl | (simp only [List.length_drop, List.length_take]; rfl)) ?_; (with_reducible refine (impl_ChebyshevNumber.calls kj76 t430 t431 t432 t433 t434 _ A88.out).mono ?_); rintro e w118 ⟨rfl, hb⟩; refine ⟨_, rfl, ?_⟩; have n0_ := Aside0.mk (below_step (by repeat (first | (with_reducible first | exact HB.out | apply below_alloc | apply pw_below_drewN | apply below_drew1) | exact HB.out)) hb); clear HB; have HB := n0_; clear n0_; (try clear hb); (try clear hb2); (try clear hk); (try clear hi)) | ((with_reducible refine gate_callee (f := 29) rfl ?_); refine goesL_ (some 264) rfl rfl Try.func29 (by kernel_rfl) rfl #[.int .i64 t430, .int .i64 t431, .int .i64 t432] rfl (by (try simp only [List.map_toArray, List.map_cons, List.map_nil]); first | done | rfl | (simp only [List.length_drop, List.length_take]; rfl)) ?_; (with_reducible refine (spec_ChebyshevNumber.calls kj76 t430 t431 t432 t435 t436 _ A89.out).mono ?_); rintro e w' ⟨rfl, ⟨nd, rfl⟩⟩; refine ⟨_, rfl, ?_⟩) | ((with_reducible refine gate_callee (f := 30) rfl ?_); refine goesL_ (some 269) rfl rfl Try.func30 (by kernel_rfl) rfl #[.slice A0 l0.length c0] rfl (by (try simp only [List.map_toArray, List.map_cons, List.map_nil]); first | done | rfl | (simp only [List.length_drop, List.length_take]; rfl)) ?_; (with_reducible refine (spec_DrawCountPaths.calls kj76 _ _ l0 t437 t438 t439 _ ?side1 ?side2 A90.out).mono ?_); (case side1 => repeat (first | exact (Kd.C_below HR0.out (by repeat (first | (with_reducible first | exact HB.out | apply below_alloc | apply pw_below_drewN | apply below_drew1) | exact HB.out))) | (with_reducible refine Kd.C_alloc ?_ _) | (with_reducible refine Kd.C_drewN ?_ _) | (with_reducible refine Kd.C_drew ?_))); (case side2 => exact HC0.out); rintro e w119 ⟨rfl, hb⟩; refine ⟨_, rfl, ?_⟩; have n0_ := Aside0.mk (below_step (by repeat (first | (with_reducible first | exact HB.out | apply below_alloc | apply pw_below_drewN | apply below_drew1) | exact HB.out)) hb); clear HB; have HB := n0_; clear n0_; (try clear hb); (try clear hb2); (try clear hk); (try clear hi)) | ((with_reducible refine gate_callee (f := 31) rfl ?_); refine goesL_ (some 277) rfl rfl Try.func31 (by kernel_rfl) rfl #[.int .i64 t437, .int .i64 t438, .int .i64 t439] rfl (by (try simp only [List.map_toArray, List.map_cons, List.map_nil]); first | done | rfl | (simp only [List.length_drop, List.length_take]; rfl)) ?_; (with_reducible refine (impl_CountPaths.calls kj76 t437 t438 t439 t440 t441 _ A91.out).mono ?_); rintro e w120 ⟨rfl, hb⟩; refine ⟨_, rfl, ?_⟩; have n0_ := Aside0.mk (below_step (by repeat (first | (with_reducible first | exact HB.out | apply below_alloc | apply pw_below_drewN | apply below_drew1) | exact HB.out)) hb); clear HB; have HB := n0_; clear n0_; (try clear hb); (try clear hb2); (try clear hk); (try clear hi)) | ((with_reducible refine gate_callee (f := 32) rfl ?_); refine goesL_ (some 284) rfl rfl Try.func32 (by kernel_rfl) rfl #[.int .i64 t437, .int .i64 t438, .int .i64 t439] rfl (by (try simp only [List.map_toArray, List.map_cons, List.map_nil]); first | done | rfl | (simp only [List.length_drop, List.length_take]; rfl)) ?_; (with_reducible refine (spec_CountPaths.calls kj76 t437 t438 t439 t442 t443 _ A92.out).mono ?_); rintro e w121 ⟨rfl, hb⟩; refine ⟨_, rfl, ?_⟩; have n0_ := Aside0.mk (below_step (by repeat (first | (with_reducible first | exact HB.out | apply below_alloc | apply pw_below_drewN | apply below_drew1) | exact HB.out)) hb); clear HB; have HB := n0_; clear n0_; (try clear hb); (try clear hb2); (try clear hk); (try clear hi)) | ((with_reducible refine gate_callee (f := 33) rfl ?_); refine goesL_ (some 289) rfl rfl Try.func33 (by kernel_rfl) rfl #[.slice A0 l0.length c0] rfl (by (try simp only [List.map_toArray, List.map_cons, List.map_nil]); first | done | rfl | (simp only [List.length_drop, List.length_take]; rfl)) ?_; (with_reducible refine (spec_DrawIsAdmissible.calls kj76 _ _ l0 t444 t445 t446 t447 t448 _ ?side1 ?side2 A93.out).mono ?_); (case side1 => repeat (first | exact (Kd.C_below HR0.out HB.out) | (with_reducible refine Kd.C_alloc ?_ _) | (with_reducible refine Kd.C_drewN ?_ _) | (with_reducible refine Kd.C_drew ?_))); (case side2 => exact HC0.out); rintro e w122 ⟨rfl, hb⟩; refine ⟨_, rfl, ?_⟩; have n0_ := Aside0.mk (below_step (by repeat (first | (with_reducible first | exact HB.out | apply below_alloc | apply pw_below_drewN | apply below_drew1) | exact HB.out)) hb); clear HB; have HB := n0_; clear n0_; (try clear hb); (try clear hb2); (try clear hk); (try clear hi)) | ((with_reducible refine gate_callee (f := 14) rfl ?_); refine goesL_ (some 301) rfl rfl Try.func14 (by kernel_rfl) rfl #[.int .i64 t444, .int .i64 t445, .int .i64 t446, .int .i64 t447, .int .i64 t448] rfl (by (try simp only [List.map_toArray, List.map_cons, List.map_nil]); first | done | rfl | (simp only [List.length_drop, List.length_take]; rfl)) ?_; (with_reducible refine (impl_IsAdmissible.calls kj76 t444 t445 t446 t447 t448 t449 t450 _ A94.out).mono ?_); rintro e w123 ⟨rfl, hb⟩; refine ⟨_, rfl, ?_⟩; have n0_ := Aside0.mk (below_step (by repeat (first | (with_reducible first | exact HB.out | apply below_alloc | apply pw_below_drewN | apply below_drew1) | exact HB.out)) hb); clear HB; have HB := n0_; clear n0_; (try clear hb); (try clear hb2); (try clear hk); (try clear hi)) | ((with_reducible refine gate_callee (f := 13) rfl ?_); refine goesL_ (some 310) rfl rfl Try.func13 (by kernel_rfl) rfl #[.int .i64 t444, .int .i64 t445, .int .i64 t446, .int .i64 t447, .int .i64 t448] rfl (by (try simp only [List.map_toArray, List.map_cons, List.map_nil]); first | done | rfl | (simp only [List.length_drop, List.length_take]; rfl)) ?_; (with_reducible refine (spec_IsAdmissible.calls kj76 t444 t445 t446 t447 t448 t451 t452 _ A95.out).mono ?_); rintro e w124 ⟨rfl, hb⟩; refine ⟨_, rfl, ?_⟩; have n0_ := Aside0.mk (below_step (by repeat (first | (with_reducible first | exact HB.out | apply below_alloc | apply pw_below_drewN | apply below_drew1) | exact HB.out)) hb); clear HB; have HB := n0_; clear n0_; (try clear hb); (try clear hb2); (try clear hk); (try clear hi)))
                     go_ret
                     exact ⟨by first | rfl | (simp [errW_none, errW_some] <;> rfl) | (simp [*, errW_none, errW_some] <;> rfl), by repeat (first | (with_reducible first | exact HB.out | apply below_alloc | apply pw_below_drewN | apply below_drew1) | exact HB.out)⟩
                   ·rw [if_neg c98] at H
                    have c98b0 : (t441 == t443) = false := beq_eq_false_iff_ne.mpr c98
                    have c98b1 : (t441 != t443) = true := bne_iff_ne.mpr c98
                    obtain rfl := Option.some.inj H
                    go_wp2_with (first | ((with_reducible refine gate_callee (f := 28) rfl ?_); refine goesL_ (some 249) rfl rfl Try.func28 (by kernel_rfl) rfl #[.slice A0 l0.length c0] rfl (by (try simp only [List.map_toArray, List.map_cons, List.map_nil]); first | done | rfl | (simp only [List.length_drop, List.length_take]; rfl)) ?_; (with_reducible refine (spec_DrawChebyshevNumber.calls kj76 _ _ l0 t430 t431 t432 _ ?side1 ?side2 A87.out).mono ?_); (case side1 => repeat (first | exact (Kd.C_below HR0.out HB.out) | (with_reducible refine Kd.C_alloc ?_ _) | (with_reducible refine Kd.C_drewN ?_ _) | (with_reducible refine Kd.C_drew ?_))); (case side2 => exact HC0.out); rintro e w125 ⟨rfl, hb⟩; refine ⟨_, rfl, ?_⟩; have n0_ := Aside0.mk (below_step (by repeat (first | (with_reducible first | exact HB.out | apply below_alloc | apply pw_below_drewN | apply below_drew1) | exact HB.out)) hb); clear HB; have HB := n0_; clear n0_; (try clear hb); (try clear hb2); (try clear hk); (try clear hi)) | ((with_reducible refine gate_callee (f := 27) rfl ?_); refine goesL_ (some 257) rfl rfl Try.func27 (by kernel_rfl) rfl #[.int .i64 t430, .int .i64 t431, .int .i64 t432] rfl (by (try simp only [List.map_toArray, List.map_cons, List.map_nil]); first | done | rfl | (simp only [List.length_drop, List.length_take]; rfl)) ?_; (with_reducible refine (impl_ChebyshevNumber.calls kj76 t430 t431 t432 t433 t434 _ A88.out).mono ?_); rintro e w126 ⟨rfl, hb⟩; refine ⟨_, rfl, ?_⟩; have n0_ := Aside0.mk (below_step (by repeat (first | (with_reducible first | exact HB.out | apply below_alloc | apply pw_below_drewN | apply below_drew1) | exact HB.out)) hb); clear HB; have HB := n0_; clear n0_; (try clear hb); (try clear hb2); (try clear hk); (try clear hi)) | ((with_reducible refine gate_callee (f := 29) rfl ?_); refine goesL_ (some 264) rfl rfl Try.func29 (by kernel_rfl) rfl #[.int .i64 t430, .int .i64 t431, .int .i64 t432] rfl (by (try simp only [List.map_toArray, List.map_cons, List.map_nil]); first | done | rfl | (simp only [List.length_drop, List.length_take]; rfl)) ?_; (with_reducible refine (spec_ChebyshevNumber.calls kj76 t430 t431 t432 t435 t436 _ A89.out).mono ?_); rintro e w' ⟨rfl, ⟨nd, rfl⟩⟩; refine ⟨_, rfl, ?_⟩) | ((with_reducible refine gate_callee (f := 30) rfl ?_); refine goesL_ (some 269) rfl rfl Try.func30 (by kernel_rfl) rfl #[.slice A0 l0.length c0] rfl (by (try simp only [List.map_toArray, List.map_cons, List.map_nil]); first | done | rfl | (simp only [List.length_drop, List.length_take]; rfl)) ?_; (with_reducible refine (spec_DrawCountPaths.calls kj76 _ _ l0 t437 t438 t439 _ ?side1 ?side2 A90.out).mono ?_); (case side1 => repeat (first | exact (Kd.C_below HR0.out (by repeat (first | (with_reducible first | exact HB.out | apply below_alloc | apply pw_below_drewN | apply below_drew1) | exact HB.out))) | (with_reducible refine Kd.C_alloc ?_ _) | (with_reducible refine Kd.C_drewN ?_ _) | (with_reducible refine Kd.C_drew ?_))); (case side2 => exact HC0.out); rintro e w127 ⟨rfl, hb⟩; refine ⟨_, rfl, ?_⟩; have n0_ := Aside0.mk (below_step (by repeat (first | (with_reducible first | exact HB.out | apply below_alloc | apply pw_below_drewN | apply below_drew1) | exact HB.out)) hb); clear HB; have HB := n0_; clear n0_; (try clear hb); (try clear hb2); (try clear hk); (try clear hi)) | ((with_reducible refine gate_callee (f := 31) rfl ?_); refine goesL_ (some 277) rfl rfl Try.func31 (by kernel_rfl) rfl #[.int .i64 t437, .int .i64 t438, .int .i64 t439] rfl (by (try simp only [List.map_toArray, List.map_cons, List.map_nil]); first | done | rfl | (simp only [List.length_drop, List.length_take]; rfl)) ?_; (with_reducible refine (impl_CountPaths.calls kj76 t437 t438 t439 t440 t441 _ A91.out).mono ?_); rintro e w128 ⟨rfl, hb⟩; refine ⟨_, rfl, ?_⟩; have n0_ := Aside0.mk (below_step (by repeat (first | (with_reducible first | exact HB.out | apply below_alloc | apply pw_below_drewN | apply below_drew1) | exact HB.out)) hb); clear HB; have HB := n0_; clear n0_; (try clear hb); (try clear hb2); (try clear hk); (try clear hi)) | ((with_reducible refine gate_callee (f := 32) rfl ?_); refine goesL_ (some 284) rfl rfl Try.func32 (by kernel_rfl) rfl #[.int .i64 t437, .int .i64 t438, .int .i64 t439] rfl (by (try simp only [List.map_toArray, List.map_cons, List.map_nil]); first | done | rfl | (simp only [List.length_drop, List.length_take]; rfl)) ?_; (with_reducible refine (spec_CountPaths.calls kj76 t437 t438 t439 t442 t443 _ A92.out).mono ?_); rintro e w129 ⟨rfl, hb⟩; refine ⟨_, rfl, ?_⟩; have n0_ := Aside0.mk (below_step (by repeat (first | (with_reducible first | exact HB.out | apply below_alloc | apply pw_below_drewN | apply below_drew1) | exact HB.out)) hb); clear HB; have HB := n0_; clear n0_; (try clear hb); (try clear hb2); (try clear hk); (try clear hi)) | ((with_reducible refine gate_callee (f := 33) rfl ?_); refine goesL_ (some 289) rfl rfl Try.func33 (by kernel_rfl) rfl #[.slice A0 l0.length c0] rfl (by (try simp only [List.map_toArray, List.map_cons, List.map_nil]); first | done | rfl | (simp only [List.length_drop, List.length_take]; rfl)) ?_; (with_reducible refine (spec_DrawIsAdmissible.calls kj76 _ _ l0 t444 t445 t446 t447 t448 _ ?side1 ?side2 A93.out).mono ?_); (case side1 => repeat (first | exact (Kd.C_below HR0.out HB.out) | (with_reducible refine Kd.C_alloc ?_ _) | (with_reducible refine Kd.C_drewN ?_ _) | (with_reducible refine Kd.C_drew ?_))); (case side2 => exact HC0.out); rintro e w130 ⟨rfl, hb⟩; refine ⟨_, rfl, ?_⟩; have n0_ := Aside0.mk (below_step (by repeat (first | (with_reducible first | exact HB.out | apply below_alloc | apply pw_below_drewN | apply below_drew1) | exact HB.out)) hb); clear HB; have HB := n0_; clear n0_; (try clear hb); (try clear hb2); (try clear hk); (try clear hi)) | ((with_reducible refine gate_callee (f := 14) rfl ?_); refine goesL_ (some 301) rfl rfl Try.func14 (by kernel_rfl) rfl #[.int .i64 t444, .int .i64 t445, .int .i64 t446, .int .i64 t447, .int .i64 t448] rfl (by (try simp only [List.map_toArray, List.map_cons, List.map_nil]); first | done | rfl | (simp only [List.length_drop, List.length_take]; rfl)) ?_; (with_reducible refine (impl_IsAdmissible.calls kj76 t444 t445 t446 t447 t448 t449 t450 _ A94.out).mono ?_); rintro e w131 ⟨rfl, hb⟩; refine ⟨_, rfl, ?_⟩; have n0_ := Aside0.mk (below_step (by repeat (first | (with_reducible first | exact HB.out | apply below_alloc | apply pw_below_drewN | apply below_drew1) | exact HB.out)) hb); clear HB; have HB := n0_; clear n0_; (try clear hb); (try clear hb2); (try clear hk); (try clear hi)) | ((with_reducible refine gate_callee (f := 13) rfl ?_); refine goesL_ (some 310) rfl rfl Try.func13 (by kernel_rfl) rfl #[.int .i64 t444, .int .i64 t445, .int .i64 t446, .int .i64 t447, .int .i64 t448] rfl (by (try simp only [List.map_toArray, List.map_cons, List.map_nil]); first | done | rfl | (simp only [List.length_drop, List.length_take]; rfl)) ?_; (with_reducible refine (spec_IsAdmissible.calls kj76 t444 t445 t446 t447 t448 t451 t452 _ A95.out).mono ?_); rintro e w132 ⟨rfl, hb⟩; refine ⟨_, rfl, ?_⟩; have n0_ := Aside0.mk (below_step (by repeat (first | (with_reducible first | exact HB.out | apply below_alloc | apply pw_below_drewN | apply below_drew1) | exact HB.out)) hb); clear HB; have HB := n0_; clear n0_; (try clear hb); (try clear hb2); (try clear hk); (try clear hi)))
                    go_ret
                    exact ⟨by first | rfl | (simp [errW_none, errW_some] <;> rfl) | (simp [*, errW_none, errW_some] <;> rfl), by repeat (first | (with_reducible first | exact HB.out | apply below_alloc | apply pw_below_drewN | apply below_drew1) | exact HB.out)⟩
                  ·rw [if_neg c97] at H
                   have c97b0 : (t433 == t435) = false := beq_eq_false_iff_ne.mpr c97
                   have c97b1 : (t433 != t435) = true := bne_iff_ne.mpr c97
                   obtain rfl := Option.some.inj H
                   go_wp2_with (first | ((with_reducible refine gate_callee (f := 28) rfl ?_); refine goesL_ (some 249) rfl rfl Try.func28 (by kernel_rfl) rfl #[.slice A0 l0.length c0] rfl (by (try simp only [List.map_toArray, List.map_cons, List.map_nil]); first | done | rfl | (simp only [List.length_drop, List.length_take]; rfl)) ?_; (with_reducible refine (spec_DrawChebyshevNumber.calls kj76 _ _ l0 t430 t431 t432 _ ?side1 ?side2 A87.out).mono ?_); (case side1 => repeat (first | exact (Kd.C_below HR0.out HB.out) | (with_reducible refine Kd.C_alloc ?_ _) | (with_reducible refine Kd.C_drewN ?_ _) | (with_reducible refine Kd.C_drew ?_))); (case side2 => exact HC0.out); rintro e w133 ⟨rfl, hb⟩; refine ⟨_, rfl, ?_⟩; have n0_ := Aside0.mk (below_step (by repeat (first | (with_reducible first | exact HB.out | apply below_alloc | apply pw_below_drewN | apply below_drew1) | exact HB.out)) hb); clear HB; have HB := n0_; clear n0_; (try clear hb); (try clear hb2); (try clear hk); (try clear hi)) | ((with_reducible refine gate_callee (f := 27) rfl ?_); refine goesL_ (some 257) rfl rfl Try.func27 (by kernel_rfl) rfl #[.int .i64 t430, .int .i64 t431, .int .i64 t432] rfl (by (try simp only [List.map_toArray, List.map_cons, List.map_nil]); first | done | rfl | (simp only [List.length_drop, List.length_take]; rfl)) ?_; (with_reducible refine (impl_ChebyshevNumber.calls kj76 t430 t431 t432 t433 t434 _ A88.out).mono ?_); rintro e w134 ⟨rfl, hb⟩; refine ⟨_, rfl, ?_⟩; have n0_ := Aside0.mk (below_step (by repeat (first | (with_reducible first | exact HB.out | apply below_alloc | apply pw_below_drewN | apply below_drew1) | exact HB.out)) hb); clear HB; have HB := n0_; clear n0_; (try clear hb); (try clear hb2); (try clear hk); (try clear hi)) | ((with_reducible refine gate_callee (f := 29) rfl ?_); refine goesL_ (some 264) rfl rfl Try.func29 (by kernel_rfl) rfl #[.int .i64 t430, .int .i64 t431, .int .i64 t432] rfl (by (try simp only [List.map_toArray, List.map_cons, List.map_nil]); first | done | rfl | (simp only [List.length_drop, List.length_take]; rfl)) ?_; (with_reducible refine (spec_ChebyshevNumber.calls kj76 t430 t431 t432 t435 t436 _ A89.out).mono ?_); rintro e w' ⟨rfl, ⟨nd, rfl⟩⟩; refine ⟨_, rfl, ?_⟩) | ((with_reducible refine gate_callee (f := 30) rfl ?_); refine goesL_ (some 269) rfl rfl Try.func30 (by kernel_rfl) rfl #[.slice A0 l0.length c0] rfl (by (try simp only [List.map_toArray, List.map_cons, List.map_nil]); first | done | rfl | (simp only [List.length_drop, List.length_take]; rfl)) ?_; (with_reducible refine (spec_DrawCountPaths.calls kj76 _ _ l0 t437 t438 t439 _ ?side1 ?side2 A90.out).mono ?_); (case side1 => repeat (first | exact (Kd.C_below HR0.out (by repeat (first | (with_reducible first | exact HB.out | apply below_alloc | apply pw_below_drewN | apply below_drew1) | exact HB.out))) | (with_reducible refine Kd.C_alloc ?_ _) | (with_reducible refine Kd.C_drewN ?_ _) | (with_reducible refine Kd.C_drew ?_))); (case side2 => exact HC0.out); rintro e w135 ⟨rfl, hb⟩; refine ⟨_, rfl, ?_⟩; have n0_ := Aside0.mk (below_step (by repeat (first | (with_reducible first | exact HB.out | apply below_alloc | apply pw_below_drewN | apply below_drew1) | exact HB.out)) hb); clear HB; have HB := n0_; clear n0_; (try clear hb); (try clear hb2); (try clear hk); (try clear hi)) | ((with_reducible refine gate_callee (f := 31) rfl ?_); refine goesL_ (some 277) rfl rfl Try.func31 (by kernel_rfl) rfl #[.int .i64 t437, .int .i64 t438, .int .i64 t439] rfl (by (try simp only [List.map_toArray, List.map_cons, List.map_nil]); first | done | rfl | (simp only [List.length_drop, List.length_take]; rfl)) ?_; (with_reducible refine (impl_CountPaths.calls kj76 t437 t438 t439 t440 t441 _ A91.out).mono ?_); rintro e w136 ⟨rfl, hb⟩; refine ⟨_, rfl, ?_⟩; have n0_ := Aside0.mk (below_step (by repeat (first | (with_reducible first | exact HB.out | apply below_alloc | apply pw_below_drewN | apply below_drew1) | exact HB.out)) hb); clear HB; have HB := n0_; clear n0_; (try clear hb); (try clear hb2); (try clear hk); (try clear hi)) | ((with_reducible refine gate_callee (f := 32) rfl ?_); refine goesL_ (some 284) rfl rfl Try.func32 (by kernel_rfl) rfl #[.int .i64 t437, .int .i64 t438, .int .i64 t439] rfl (by (try simp only [List.map_toArray, List.map_cons, List.map_nil]); first | done | rfl | (simp only [List.length_drop, List.length_take]; rfl)) ?_; (with_reducible refine (spec_CountPaths.calls kj76 t437 t438 t439 t442 t443 _ A92.out).mono ?_); rintro e w137 ⟨rfl, hb⟩; refine ⟨_, rfl, ?_⟩; have n0_ := Aside0.mk (below_step (by repeat (first | (with_reducible first | exact HB.out | apply below_alloc | apply pw_below_drewN | apply below_drew1) | exact HB.out)) hb); clear HB; have HB := n0_; clear n0_; (try clear hb); (try clear hb2); (try clear hk); (try clear hi)) | ((with_reducible refine gate_callee (f := 33) rfl ?_); refine goesL_ (some 289) rfl rfl Try.func33 (by kernel_rfl) rfl #[.slice A0 l0.length c0] rfl (by (try simp only [List.map_toArray, List.map_cons, List.map_nil]); first | done | rfl | (simp only [List.length_drop, List.length_take]; rfl)) ?_; (with_reducible refine (spec_DrawIsAdmissible.calls kj76 _ _ l0 t444 t445 t446 t447 t448 _ ?side1 ?side2 A93.out).mono ?_); (case side1 => repeat (first | exact (Kd.C_below HR0.out HB.out) | (with_reducible refine Kd.C_alloc ?_ _) | (with_reducible refine Kd.C_drewN ?_ _) | (with_reducible refine Kd.C_drew ?_))); (case side2 => exact HC0.out); rintro e w138 ⟨rfl, hb⟩; refine ⟨_, rfl, ?_⟩; have n0_ := Aside0.mk (below_step (by repeat (first | (with_reducible first | exact HB.out | apply below_alloc | apply pw_below_drewN | apply below_drew1) | exact HB.out)) hb); clear HB; have HB := n0_; clear n0_; (try clear hb); (try clear hb2); (try clear hk); (try clear hi)) | ((with_reducible refine gate_callee (f := 14) rfl ?_); refine goesL_ (some 301) rfl rfl Try.func14 (by kernel_rfl) rfl #[.int .i64 t444, .int .i64 t445, .int .i64 t446, .int .i64 t447, .int .i64 t448] rfl (by (try simp only [List.map_toArray, List.map_cons, List.map_nil]); first | done | rfl | (simp only [List.length_drop, List.length_take]; rfl)) ?_; (with_reducible refine (impl_IsAdmissible.calls kj76 t444 t445 t446 t447 t448 t449 t450 _ A94.out).mono ?_); rintro e w139 ⟨rfl, hb⟩; refine ⟨_, rfl, ?_⟩; have n0_ := Aside0.mk (below_step (by repeat (first | (with_reducible first | exact HB.out | apply below_alloc | apply pw_below_drewN | apply below_drew1) | exact HB.out)) hb); clear HB; have HB := n0_; clear n0_; (try clear hb); (try clear hb2); (try clear hk); (try clear hi)) | ((with_reducible refine gate_callee (f := 13) rfl ?_); refine goesL_ (some 310) rfl rfl Try.func13 (by kernel_rfl) rfl #[.int .i64 t444, .int .i64 t445, .int .i64 t446, .int .i64 t447, .int .i64 t448] rfl (by (try simp only [List.map_toArray, List.map_cons, List.map_nil]); first | done | rfl | (simp only [List.length_drop, List.length_take]; rfl)) ?_; (with_reducible refine (spec_IsAdmissible.calls kj76 t444 t445 t446 t447 t448 t451 t452 _ A95.out).mono ?_); rintro e w140 ⟨rfl, hb⟩; refine ⟨_, rfl, ?_⟩; have n0_ := Aside0.mk (below_step (by repeat (first | (with_reducible first | exact HB.out | apply below_alloc | apply pw_below_drewN | apply below_drew1) | exact HB.out)) hb); clear HB; have HB := n0_; clear n0_; (try clear hb); (try clear hb2); (try clear hk); (try clear hi)))
                   go_ret
                   exact ⟨by first | rfl | (simp [errW_none, errW_some] <;> rfl) | (simp [*, errW_none, errW_some] <;> rfl), by repeat (first | (with_reducible first | exact HB.out | apply below_alloc | apply pw_below_drewN | apply below_drew1) | exact HB.out)⟩
                 ·rw [if_neg c96] at H
                  have c96b0 : (t434 == t436) = false := beq_eq_false_iff_ne.mpr c96
                  have c96b1 : (t434 != t436) = true := bne_iff_ne.mpr c96
                  obtain rfl := Option.some.inj H
                  go_wp2_with (first | ((with_reducible refine gate_callee (f := 28) rfl ?_); refine goesL_ (some 249) rfl rfl Try.func28 (by kernel_rfl) rfl #[.slice A0 l0.length c0] rfl (by (try simp only [List.map_toArray, List.map_cons, List.map_nil]); first | done | rfl | (simp only [List.length_drop, List.length_take]; rfl)) ?_; (with_reducible refine (spec_DrawChebyshevNumber.calls kj76 _ _ l0 t430 t431 t432 _ ?side1 ?side2 A87.out).mono ?_); (case side1 => repeat (first | exact (Kd.C_below HR0.out HB.out) | (with_reducible refine Kd.C_alloc ?_ _) | (with_reducible refine Kd.C_drewN ?_ _) | (with_reducible refine Kd.C_drew ?_))); (case side2 => exact HC0.out); rintro e w141 ⟨rfl, hb⟩; refine ⟨_, rfl, ?_⟩; have n0_ := Aside0.mk (below_step (by repeat (first | (with_reducible first | exact HB.out | apply below_alloc | apply pw_below_drewN | apply below_drew1) | exact HB.out)) hb); clear HB; have HB := n0_; clear n0_; (try clear hb); (try clear hb2); (try clear hk); (try clear hi)) | ((with_reducible refine gate_callee (f := 27) rfl ?_); refine goesL_ (some 257) rfl rfl Try.func27 (by kernel_rfl) rfl #[.int .i64 t430, .int .i64 t431, .int .i64 t432] rfl (by (try simp only [List.map_toArray, List.map_cons, List.map_nil]); first | done | rfl | (simp only [List.length_drop, List.length_take]; rfl)) ?_; (with_reducible refine (impl_ChebyshevNumber.calls kj76 t430 t431 t432 t433 t434 _ A88.out).mono ?_); rintro e w142 ⟨rfl, hb⟩; refine ⟨_, rfl, ?_⟩; have n0_ := Aside0.mk (below_step (by repeat (first | (with_reducible first | exact HB.out | apply below_alloc | apply pw_below_drewN | apply below_drew1) | exact HB.out)) hb); clear HB; have HB := n0_; clear n0_; (try clear hb); (try clear hb2); (try clear hk); (try clear hi)) | ((with_reducible refine gate_callee (f := 29) rfl ?_); refine goesL_ (some 264) rfl rfl Try.func29 (by kernel_rfl) rfl #[.int .i64 t430, .int .i64 t431, .int .i64 t432] rfl (by (try simp only [List.map_toArray, List.map_cons, List.map_nil]); first | done | rfl | (simp only [List.length_drop, List.length_take]; rfl)) ?_; (with_reducible refine (spec_ChebyshevNumber.calls kj76 t430 t431 t432 t435 t436 _ A89.out).mono ?_); rintro e w' ⟨rfl, ⟨nd, rfl⟩⟩; refine ⟨_, rfl, ?_⟩) | ((with_reducible refine gate_callee (f := 30) rfl ?_); refine goesL_ (some 269) rfl rfl Try.func30 (by kernel_rfl) rfl #[.slice A0 l0.length c0] rfl (by (try simp only [List.map_toArray, List.map_cons, List.map_nil]); first | done | rfl | (simp only [List.length_drop, List.length_take]; rfl)) ?_; (with_reducible refine (spec_DrawCountPaths.calls kj76 _ _ l0 t437 t438 t439 _ ?side1 ?side2 A90.out).mono ?_); (case side1 => repeat (first | exact (Kd.C_below HR0.out (by repeat (first | (with_reducible first | exact HB.out | apply below_alloc | apply pw_below_drewN | apply below_drew1) | exact HB.out))) | (with_reducible refine Kd.C_alloc ?_ _) | (with_reducible refine Kd.C_drewN ?_ _) | (with_reducible refine Kd.C_drew ?_))); (case side2 => exact HC0.out); rintro e w143 ⟨rfl, hb⟩; refine ⟨_, rfl, ?_⟩; have n0_ := Aside0.mk (below_step (by repeat (first | (with_reducible first | exact HB.out | apply below_alloc | apply pw_below_drewN | apply below_drew1) | exact HB.out)) hb); clear HB; have HB := n0_; clear n0_; (try clear hb); (try clear hb2); (try clear hk); (try clear hi)) | ((with_reducible refine gate_callee (f := 31) rfl ?_); refine goesL_ (some 277) rfl rfl Try.func31 (by kernel_rfl) rfl #[.int .i64 t437, .int .i64 t438, .int .i64 t439] rfl (by (try simp only [List.map_toArray, List.map_cons, List.map_nil]); first | done | rfl | (simp only [List.length_drop, List.length_take]; rfl)) ?_; (with_reducible refine (impl_CountPaths.calls kj76 t437 t438 t439 t440 t441 _ A91.out).mono ?_); rintro e w144 ⟨rfl, hb⟩; refine ⟨_, rfl, ?_⟩; have n0_ := Aside0.mk (below_step (by repeat (first | (with_reducible first | exact HB.out | apply below_alloc | apply pw_below_drewN | apply below_drew1) | exact HB.out)) hb); clear HB; have HB := n0_; clear n0_; (try clear hb); (try clear hb2); (try clear hk); (try clear hi)) | ((with_reducible refine gate_callee (f := 32) rfl ?_); refine goesL_ (some 284) rfl rfl Try.func32 (by kernel_rfl) rfl #[.int .i64 t437, .int .i64 t438, .int .i64 t439] rfl (by (try simp only [List.map_toArray, List.map_cons, List.map_nil]); first | done | rfl | (simp only [List.length_drop, List.length_take]; rfl)) ?_; (with_reducible refine (spec_CountPaths.calls kj76 t437 t438 t439 t442 t443 _ A92.out).mono ?_); rintro e w145 ⟨rfl, hb⟩; refine ⟨_, rfl, ?_⟩; have n0_ := Aside0.mk (below_step (by repeat (first | (with_reducible first | exact HB.out | apply below_alloc | apply pw_below_drewN | apply below_drew1) | exact HB.out)) hb); clear HB; have HB := n0_; clear n0_; (try clear hb); (try clear hb2); (try clear hk); (try clear hi)) | ((with_reducible refine gate_callee (f := 33) rfl ?_); refine goesL_ (some 289) rfl rfl Try.func33 (by kernel_rfl) rfl #[.slice A0 l0.length c0] rfl (by (try simp only [List.map_toArray, List.map_cons, List.map_nil]); first | done | rfl | (simp only [List.length_drop, List.length_take]; rfl)) ?_; (with_reducible refine (spec_DrawIsAdmissible.calls kj76 _ _ l0 t444 t445 t446 t447 t448 _ ?side1 ?side2 A93.out).mono ?_); (case side1 => repeat (first | exact (Kd.C_below HR0.out HB.out) | (with_reducible refine Kd.C_alloc ?_ _) | (with_reducible refine Kd.C_drewN ?_ _) | (with_reducible refine Kd.C_drew ?_))); (case side2 => exact HC0.out); rintro e w146 ⟨rfl, hb⟩; refine ⟨_, rfl, ?_⟩; have n0_ := Aside0.mk (below_step (by repeat (first | (with_reducible first | exact HB.out | apply below_alloc | apply pw_below_drewN | apply below_drew1) | exact HB.out)) hb); clear HB; have HB := n0_; clear n0_; (try clear hb); (try clear hb2); (try clear hk); (try clear hi)) | ((with_reducible refine gate_callee (f := 14) rfl ?_); refine goesL_ (some 301) rfl rfl Try.func14 (by kernel_rfl) rfl #[.int .i64 t444, .int .i64 t445, .int .i64 t446, .int .i64 t447, .int .i64 t448] rfl (by (try simp only [List.map_toArray, List.map_cons, List.map_nil]); first | done | rfl | (simp only [List.length_drop, List.length_take]; rfl)) ?_; (with_reducible refine (impl_IsAdmissible.calls kj76 t444 t445 t446 t447 t448 t449 t450 _ A94.out).mono ?_); rintro e w147 ⟨rfl, hb⟩; refine ⟨_, rfl, ?_⟩; have n0_ := Aside0.mk (below_step (by repeat (first | (with_reducible first | exact HB.out | apply below_alloc | apply pw_below_drewN | apply below_drew1) | exact HB.out)) hb); clear HB; have HB := n0_; clear n0_; (try clear hb); (try clear hb2); (try clear hk); (try clear hi)) | ((with_reducible refine gate_callee (f := 13) rfl ?_); refine goesL_ (some 310) rfl rfl Try.func13 (by kernel_rfl) rfl #[.int .i64 t444, .int .i64 t445, .int .i64 t446, .int .i64 t447, .int .i64 t448] rfl (by (try simp only [List.map_toArray, List.map_cons, List.map_nil]); first | done | rfl | (simp only [List.length_drop, List.length_take]; rfl)) ?_; (with_reducible refine (spec_IsAdmissible.calls kj76 t444 t445 t446 t447 t448 t451 t452 _ A95.out).mono ?_); rintro e w148 ⟨rfl, hb⟩; refine ⟨_, rfl, ?_⟩; have n0_ := Aside0.mk (below_step (by repeat (first | (with_reducible first | exact HB.out | apply below_alloc | apply pw_below_drewN | apply below_drew1) | exact HB.out)) hb); clear HB; have HB := n0_; clear n0_; (try clear hb); (try clear hb2); (try clear hk); (try clear hi)))
                  go_ret
                  exact ⟨by first | rfl | (simp [errW_none, errW_some] <;> rfl) | (simp [*, errW_none, errW_some] <;> rfl), by repeat (first | (with_reducible first | exact HB.out | apply below_alloc | apply pw_below_drewN | apply below_drew1) | exact HB.out)⟩

/-- THE ONE PURE STATEMENT of laws_FnFusion: yours. -/
def laws_FnFusion.Pure : Prop := ∀ (l0 : List Int), l0.length ≤ maxLen → l0.length * 1 ≤ 140737488351232 → (∀ x ∈ l0, (Lit.int .u8 x).wf = true) → ∃ k, laws_FnFusion.f k l0 = some true
theorem laws_FnFusion.walk (P : laws_FnFusion.Pure) (a0 : Option Addr) (len0 cap0 : Nat) (z0 : List Int) (w : World) (w0 : (a0 = none ∧ len0 = 0 ∧ cap0 = 0 ∧ z0 = []) ∨ ∃ x, a0 = some x ∧ len0 ≤ cap0 ∧ cap0 ≤ maxLen ∧ z0.length = cap0 ∧ (∀ i, i < z0.length → w.cell? (x.add i) = some (.int .u8 (z0.getD i 0))) ∧ ∀ n ∈ z0, (Lit.int .u8 n).wf = true) (y0 : len0 * 1 ≤ 140737488351232) :
  Calls Try.prog 8 #[.slice a0 len0 cap0] w fun e w' => e = .returned (.bool true) ∧ Below w.heap.size w w' := by
 obtain ⟨l0, rfl, hr0, hm0, hw0, hc0⟩ := ReadsInt.ofRowC w0
 obtain ⟨k, h⟩ := P l0 hm0 y0 hw0
 refine (laws_FnFusion.calls k _ _ l0 true w (Kd.C_of_reads (d := (0 : Int)) (h1 := fun _ => rfl) hr0) hc0 h).mono ?_
 rintro e w' ⟨rfl, hd⟩
 exact ⟨rfl, hd⟩

end Go.Proofs.Ytbkokdpginghoaa.Q
