/- Contracts, walks and rows for laws of the seat Ytaaemhjdnncgdaa, written by a program of this session out of the translation: plain Lean, checked by Lean. No condition. -/
import Derived.Test.YtaaemhjdnncgdaaQx0
import Derived.Test.YtaaemhjdnncgdaaQx1
import Derived.Test.YtaaemhjdnncgdaaQx2
import Derived.Test.YtaaemhjdnncgdaaQx3
import Derived.Test.YtaaemhjdnncgdaaQx4
import Derived.Test.YtaaemhjdnncgdaaQx5
import Derived.Test.YtaaemhjdnncgdaaQx6
namespace Go.Proofs.Ytaaemhjdnncgdaa.Q
open Go.Proofs.Ytaaemhjdnncgdaa.Hand
open Go.RowKit Go.Proofs.YtaaemhjdnncgdaaW.PrintWords Go.Proofs.YtaaemhjdnncgdaaW.PrintLast Go.Proofs.YtaaemhjdnncgdaaW.PrintMore
attribute [local go_sem] max2_int min2_int max_two min_two max_three min_three max_four min_four   -- for this text's walks alone
set_option linter.unusedVariables false
set_option linter.unusedSimpArgs false

/-! ### laws_FnMeanderCounts: function 4 -/
mutual
def laws_FnMeanderCounts.j0 : Nat → List Int → Bool → Option (Bool)
 | 0, _, _ => none
 | k + 1, x0, x61 => if x61 = true then (some false) else ((spec_DrawRainbowOf.f k x0).bind fun t256 => ((impl_RainbowOf.f t256).bind fun bt257 => ((spec_RainbowOf.f k t256).bind fun bt259 => (if bt257.2 = bt259.2 then (laws_FnMeanderCounts.j1 k x0 (bt257.1.toList != bt259.1.toList)) else (laws_FnMeanderCounts.j1 k x0 true)))))
def laws_FnMeanderCounts.j1 : Nat → List Int → Bool → Option (Bool)
 | 0, _, _ => none
 | k + 1, x0, x81 => if x81 = true then (some false) else ((spec_DrawComponentTable.f k x0).bind fun t261 => ((impl_ComponentTable.f k t261).bind fun bt262 => ((spec_ComponentTable.f k t261).bind fun bt266 => (if bt262.2 = bt266.2 then ((laws_lists9.f k bt262.1 bt266.1).bind fun t270 => (laws_FnMeanderCounts.j2 k x0 t261 bt262.1 (!t270))) else (laws_FnMeanderCounts.j2 k x0 t261 bt262.1 true)))))
def laws_FnMeanderCounts.j2 : Nat → List Int → Int → List (List Int) → Bool → Option (Bool)
 | 0, _, _, _, _ => none
 | k + 1, x0, x13, x14, x102 => if x102 = true then (some false) else ((spec_DrawComponentDeterminant.f k x0).bind fun bt271 => ((impl_ComponentDeterminant.f bt271.1 bt271.2.1 bt271.2.2).bind fun bt274 => ((spec_ComponentDeterminant.f bt271.1 bt271.2.1 bt271.2.2).bind fun bt276 => (if bt274.2 = bt276.2 then (laws_FnMeanderCounts.j3 k x0 x13 x14 (bt274.1 != bt276.1)) else (laws_FnMeanderCounts.j3 k x0 x13 x14 true)))))
def laws_FnMeanderCounts.j3 : Nat → List Int → Int → List (List Int) → Bool → Option (Bool)
 | 0, _, _, _, _ => none
 | k + 1, x0, x13, x14, x130 => if x130 = true then (some false) else ((spec_DrawCountByComponents.f k x0).bind fun t278 => ((impl_CountByComponents.f k t278).bind fun bt279 => ((spec_CountByComponents.f k t278).bind fun bt283 => (if bt279.2 = bt283.2 then ((laws_likeInts.f k bt279.1 bt283.1).bind fun t287 => (laws_FnMeanderCounts.j4 k x0 x13 x14 t278 bt279.1 bt279.2 (!t287))) else (laws_FnMeanderCounts.j4 k x0 x13 x14 t278 bt279.1 bt279.2 true)))))
def laws_FnMeanderCounts.j4 : Nat → List Int → Int → List (List Int) → Int → List Int → Int → Bool → Option (Bool)
 | 0, _, _, _, _, _, _, _ => none
 | k + 1, x0, x13, x14, x25, x26, x27, x151 => if x151 = true then (some false) else ((spec_DrawCountWithRainbow.f k x0).bind fun t288 => ((impl_CountWithRainbow.f k t288).bind fun bt289 => ((spec_CountWithRainbow.f k t288).bind fun bt291 => (if bt289.2 = bt291.2 then (laws_FnMeanderCounts.j5 k x13 x14 x25 x26 x27 (bt289.1 != bt291.1)) else (laws_FnMeanderCounts.j5 k x13 x14 x25 x26 x27 true)))))
def laws_FnMeanderCounts.j5 : Nat → Int → List (List Int) → Int → List Int → Int → Bool → Option (Bool)
 | 0, _, _, _, _, _, _ => none
 | k + 1, x13, x14, x25, x26, x27, x171 => if x171 = true then (some false) else (if x27 = 0 then ((impl_SystemsOf.f x25).bind fun bt293 => (if bt293.2 = 0 then ((laws_sum.f k x26).bind fun t297 => (if t297 = (wrap64 ((bt293.1.length : Int) * (bt293.1.length : Int))) then (if 0 ≤ (wrap64 (x25 - 1)) then (if (wrap64 (x25 - 1)) < (x26.length : Int) then (if (rd x26 (wrap64 (x25 - 1))) = (bt293.1.length : Int) then (laws_FnMeanderCounts.j6 k x13 x14) else (some false)) else (none)) else (none)) else (some false))) else (some false))) else (laws_FnMeanderCounts.j6 k x13 x14))
def laws_FnMeanderCounts.j6 : Nat → Int → List (List Int) → Option (Bool)
 | 0, _, _ => none
 | k + 1, x13, x14 => laws_FnMeanderCounts.l0 k x13 x14 0
def laws_FnMeanderCounts.l0 : Nat → Int → List (List Int) → Int → Option (Bool)
 | 0, _, _, _ => none
 | k + 1, x13, x14, x37 => if x37 < (x14.length : Int) then (laws_FnMeanderCounts.l1 k x13 x14 x37 0) else (some true)
def laws_FnMeanderCounts.l1 : Nat → Int → List (List Int) → Int → Int → Option (Bool)
 | 0, _, _, _, _ => none
 | k + 1, x13, x14, x37, x38 => if x38 ≤ x37 then (if 0 ≤ x37 then (if x37 < (x14.length : Int) then (if 0 ≤ x38 then (if x38 < ((rd_L3 x14 x37).length : Int) then (if x38 < (x14.length : Int) then (if x37 < ((rd_L3 x14 x38).length : Int) then (if (rd (rd_L3 x14 x37) x38) = (rd (rd_L3 x14 x38) x37) then (if (((rd (rd_L3 x14 x37) x38) == x13) != (x37 == x38)) = true then (some false) else (laws_FnMeanderCounts.l1 k x13 x14 x37 (wrap64 (x38 + 1)))) else (some false)) else (none)) else (none)) else (none)) else (none)) else (none)) else (none)) else (laws_FnMeanderCounts.l0 k x13 x14 (wrap64 (x37 + 1)))
end
def laws_FnMeanderCounts.f (k : Nat) (l0 : List Int) : Option (Bool) := (laws_big.f l0).bind fun t245 => (if t245 = true then (some true) else ((spec_DrawSystemsOf.f k l0).bind fun t246 => ((impl_SystemsOf.f t246).bind fun bt247 => ((spec_SystemsOf.f k t246).bind fun bt251 => (if bt247.2 = bt251.2 then ((laws_texts9.f k bt247.1 bt251.1).bind fun t255 => (laws_FnMeanderCounts.j0 k l0 (!t255))) else (laws_FnMeanderCounts.j0 k l0 true))))))
theorem laws_FnMeanderCounts.mono_l : ∀ k, (∀ y0 y1, LeO (laws_FnMeanderCounts.j0 k y0 y1) (laws_FnMeanderCounts.j0 (k + 1) y0 y1)) ∧ (∀ y0 y1, LeO (laws_FnMeanderCounts.j1 k y0 y1) (laws_FnMeanderCounts.j1 (k + 1) y0 y1)) ∧ (∀ y0 y1 y2 y3, LeO (laws_FnMeanderCounts.j2 k y0 y1 y2 y3) (laws_FnMeanderCounts.j2 (k + 1) y0 y1 y2 y3)) ∧ (∀ y0 y1 y2 y3, LeO (laws_FnMeanderCounts.j3 k y0 y1 y2 y3) (laws_FnMeanderCounts.j3 (k + 1) y0 y1 y2 y3)) ∧ (∀ y0 y1 y2 y3 y4 y5 y6, LeO (laws_FnMeanderCounts.j4 k y0 y1 y2 y3 y4 y5 y6) (laws_FnMeanderCounts.j4 (k + 1) y0 y1 y2 y3 y4 y5 y6)) ∧ (∀ y0 y1 y2 y3 y4 y5, LeO (laws_FnMeanderCounts.j5 k y0 y1 y2 y3 y4 y5) (laws_FnMeanderCounts.j5 (k + 1) y0 y1 y2 y3 y4 y5)) ∧ (∀ y0 y1, LeO (laws_FnMeanderCounts.j6 k y0 y1) (laws_FnMeanderCounts.j6 (k + 1) y0 y1)) ∧ (∀ y0 y1 y2, LeO (laws_FnMeanderCounts.l0 k y0 y1 y2) (laws_FnMeanderCounts.l0 (k + 1) y0 y1 y2)) ∧ (∀ y0 y1 y2 y3, LeO (laws_FnMeanderCounts.l1 k y0 y1 y2 y3) (laws_FnMeanderCounts.l1 (k + 1) y0 y1 y2 y3))
 | 0 => ⟨fun _ _ r h => by simp [laws_FnMeanderCounts.j0] at h, fun _ _ r h => by simp [laws_FnMeanderCounts.j1] at h, fun _ _ _ _ r h => by simp [laws_FnMeanderCounts.j2] at h, fun _ _ _ _ r h => by simp [laws_FnMeanderCounts.j3] at h, fun _ _ _ _ _ _ _ r h => by simp [laws_FnMeanderCounts.j4] at h, fun _ _ _ _ _ _ r h => by simp [laws_FnMeanderCounts.j5] at h, fun _ _ r h => by simp [laws_FnMeanderCounts.j6] at h, fun _ _ _ r h => by simp [laws_FnMeanderCounts.l0] at h, fun _ _ _ _ r h => by simp [laws_FnMeanderCounts.l1] at h⟩
 | k + 1 => by
  obtain ⟨ih0, ih1, ih2, ih3, ih4, ih5, ih6, ih7, ih8⟩ := laws_FnMeanderCounts.mono_l k
  refine ⟨?_, ?_, ?_, ?_, ?_, ?_, ?_, ?_, ?_⟩
  ·intro y0 y1
   unfold laws_FnMeanderCounts.j0
   repeat' first
   | (with_reducible exact ih0 _ _)
   | (with_reducible exact ih1 _ _)
   | (with_reducible exact ih2 _ _ _ _)
   | (with_reducible exact ih3 _ _ _ _)
   | (with_reducible exact ih4 _ _ _ _ _ _ _)
   | (with_reducible exact ih5 _ _ _ _ _ _)
   | (with_reducible exact ih6 _ _)
   | (with_reducible exact ih7 _ _ _)
   | (with_reducible exact ih8 _ _ _ _)
   | (with_reducible exact impl_ComponentTable.mono _ _)
   | (with_reducible exact impl_CountByComponents.mono _ _)
   | (with_reducible exact impl_CountWithRainbow.mono _ _)
   | (with_reducible exact laws_likeInts.mono _ _ _)
   | (with_reducible exact laws_lists9.mono _ _ _)
   | (with_reducible exact laws_sum.mono _ _)
   | (with_reducible exact laws_texts9.mono _ _ _)
   | (with_reducible exact spec_ComponentTable.mono _ _)
   | (with_reducible exact spec_CountByComponents.mono _ _)
   | (with_reducible exact spec_CountWithRainbow.mono _ _)
   | (with_reducible exact spec_DrawComponentDeterminant.mono _ _)
   | (with_reducible exact spec_DrawComponentTable.mono _ _)
   | (with_reducible exact spec_DrawCountByComponents.mono _ _)
   | (with_reducible exact spec_DrawCountWithRainbow.mono _ _)
   | (with_reducible exact spec_DrawRainbowOf.mono _ _)
   | (with_reducible exact spec_DrawSystemsOf.mono _ _)
   | (with_reducible exact spec_RainbowOf.mono _ _)
   | (with_reducible exact spec_SystemsOf.mono _ _)
   | (with_reducible exact LeO.refl _)
   | (with_reducible exact LeO.none _)
   | (with_reducible refine LeO.ite ?_ ?_)
   | (with_reducible refine LeO.bind ?_ (fun _ => ?_))
   | exact ih0 _ _
   | exact ih1 _ _
   | exact ih2 _ _ _ _
   | exact ih3 _ _ _ _
   | exact ih4 _ _ _ _ _ _ _
   | exact ih5 _ _ _ _ _ _
   | exact ih6 _ _
   | exact ih7 _ _ _
   | exact ih8 _ _ _ _
   | exact impl_ComponentTable.mono _ _
   | exact impl_CountByComponents.mono _ _
   | exact impl_CountWithRainbow.mono _ _
   | exact laws_likeInts.mono _ _ _
   | exact laws_lists9.mono _ _ _
   | exact laws_sum.mono _ _
   | exact laws_texts9.mono _ _ _
   | exact spec_ComponentTable.mono _ _
   | exact spec_CountByComponents.mono _ _
   | exact spec_CountWithRainbow.mono _ _
   | exact spec_DrawComponentDeterminant.mono _ _
   | exact spec_DrawComponentTable.mono _ _
   | exact spec_DrawCountByComponents.mono _ _
   | exact spec_DrawCountWithRainbow.mono _ _
   | exact spec_DrawRainbowOf.mono _ _
   | exact spec_DrawSystemsOf.mono _ _
   | exact spec_RainbowOf.mono _ _
   | exact spec_SystemsOf.mono _ _
   | exact LeO.none _
   | refine LeO.ite ?_ ?_
   | refine LeO.bind ?_ (fun _ => ?_)
  ·intro y0 y1
   unfold laws_FnMeanderCounts.j1
   repeat' first
   | (with_reducible exact ih0 _ _)
   | (with_reducible exact ih1 _ _)
   | (with_reducible exact ih2 _ _ _ _)
   | (with_reducible exact ih3 _ _ _ _)
   | (with_reducible exact ih4 _ _ _ _ _ _ _)
   | (with_reducible exact ih5 _ _ _ _ _ _)
   | (with_reducible exact ih6 _ _)
   | (with_reducible exact ih7 _ _ _)
   | (with_reducible exact ih8 _ _ _ _)
   | (with_reducible exact impl_ComponentTable.mono _ _)
   | (with_reducible exact impl_CountByComponents.mono _ _)
   | (with_reducible exact impl_CountWithRainbow.mono _ _)
   | (with_reducible exact laws_likeInts.mono _ _ _)
   | (with_reducible exact laws_lists9.mono _ _ _)
   | (with_reducible exact laws_sum.mono _ _)
   | (with_reducible exact laws_texts9.mono _ _ _)
   | (with_reducible exact spec_ComponentTable.mono _ _)
   | (with_reducible exact spec_CountByComponents.mono _ _)
   | (with_reducible exact spec_CountWithRainbow.mono _ _)
   | (with_reducible exact spec_DrawComponentDeterminant.mono _ _)
   | (with_reducible exact spec_DrawComponentTable.mono _ _)
   | (with_reducible exact spec_DrawCountByComponents.mono _ _)
   | (with_reducible exact spec_DrawCountWithRainbow.mono _ _)
   | (with_reducible exact spec_DrawRainbowOf.mono _ _)
   | (with_reducible exact spec_DrawSystemsOf.mono _ _)
   | (with_reducible exact spec_RainbowOf.mono _ _)
   | (with_reducible exact spec_SystemsOf.mono _ _)
   | (with_reducible exact LeO.refl _)
   | (with_reducible exact LeO.none _)
   | (with_reducible refine LeO.ite ?_ ?_)
   | (with_reducible refine LeO.bind ?_ (fun _ => ?_))
   | exact ih0 _ _
   | exact ih1 _ _
   | exact ih2 _ _ _ _
   | exact ih3 _ _ _ _
   | exact ih4 _ _ _ _ _ _ _
   | exact ih5 _ _ _ _ _ _
   | exact ih6 _ _
   | exact ih7 _ _ _
   | exact ih8 _ _ _ _
   | exact impl_ComponentTable.mono _ _
   | exact impl_CountByComponents.mono _ _
   | exact impl_CountWithRainbow.mono _ _
   | exact laws_likeInts.mono _ _ _
   | exact laws_lists9.mono _ _ _
   | exact laws_sum.mono _ _
   | exact laws_texts9.mono _ _ _
   | exact spec_ComponentTable.mono _ _
   | exact spec_CountByComponents.mono _ _
   | exact spec_CountWithRainbow.mono _ _
   | exact spec_DrawComponentDeterminant.mono _ _
   | exact spec_DrawComponentTable.mono _ _
   | exact spec_DrawCountByComponents.mono _ _
   | exact spec_DrawCountWithRainbow.mono _ _
   | exact spec_DrawRainbowOf.mono _ _
   | exact spec_DrawSystemsOf.mono _ _
   | exact spec_RainbowOf.mono _ _
   | exact spec_SystemsOf.mono _ _
   | exact LeO.none _
   | refine LeO.ite ?_ ?_
   | refine LeO.bind ?_ (fun _ => ?_)
  ·intro y0 y1 y2 y3
   unfold laws_FnMeanderCounts.j2
   repeat' first
   | (with_reducible exact ih0 _ _)
   | (with_reducible exact ih1 _ _)
   | (with_reducible exact ih2 _ _ _ _)
   | (with_reducible exact ih3 _ _ _ _)
   | (with_reducible exact ih4 _ _ _ _ _ _ _)
   | (with_reducible exact ih5 _ _ _ _ _ _)
   | (with_reducible exact ih6 _ _)
   | (with_reducible exact ih7 _ _ _)
   | (with_reducible exact ih8 _ _ _ _)
   | (with_reducible exact impl_ComponentTable.mono _ _)
   | (with_reducible exact impl_CountByComponents.mono _ _)
   | (with_reducible exact impl_CountWithRainbow.mono _ _)
   | (with_reducible exact laws_likeInts.mono _ _ _)
   | (with_reducible exact laws_lists9.mono _ _ _)
   | (with_reducible exact laws_sum.mono _ _)
   | (with_reducible exact laws_texts9.mono _ _ _)
   | (with_reducible exact spec_ComponentTable.mono _ _)
   | (with_reducible exact spec_CountByComponents.mono _ _)
   | (with_reducible exact spec_CountWithRainbow.mono _ _)
   | (with_reducible exact spec_DrawComponentDeterminant.mono _ _)
   | (with_reducible exact spec_DrawComponentTable.mono _ _)
   | (with_reducible exact spec_DrawCountByComponents.mono _ _)
   | (with_reducible exact spec_DrawCountWithRainbow.mono _ _)
   | (with_reducible exact spec_DrawRainbowOf.mono _ _)
   | (with_reducible exact spec_DrawSystemsOf.mono _ _)
   | (with_reducible exact spec_RainbowOf.mono _ _)
   | (with_reducible exact spec_SystemsOf.mono _ _)
   | (with_reducible exact LeO.refl _)
   | (with_reducible exact LeO.none _)
   | (with_reducible refine LeO.ite ?_ ?_)
   | (with_reducible refine LeO.bind ?_ (fun _ => ?_))
   | exact ih0 _ _
   | exact ih1 _ _
   | exact ih2 _ _ _ _
   | exact ih3 _ _ _ _
   | exact ih4 _ _ _ _ _ _ _
   | exact ih5 _ _ _ _ _ _
   | exact ih6 _ _
   | exact ih7 _ _ _
   | exact ih8 _ _ _ _
   | exact impl_ComponentTable.mono _ _
   | exact impl_CountByComponents.mono _ _
   | exact impl_CountWithRainbow.mono _ _
   | exact laws_likeInts.mono _ _ _
   | exact laws_lists9.mono _ _ _
   | exact laws_sum.mono _ _
   | exact laws_texts9.mono _ _ _
   | exact spec_ComponentTable.mono _ _
   | exact spec_CountByComponents.mono _ _
   | exact spec_CountWithRainbow.mono _ _
   | exact spec_DrawComponentDeterminant.mono _ _
   | exact spec_DrawComponentTable.mono _ _
   | exact spec_DrawCountByComponents.mono _ _
   | exact spec_DrawCountWithRainbow.mono _ _
   | exact spec_DrawRainbowOf.mono _ _
   | exact spec_DrawSystemsOf.mono _ _
   | exact spec_RainbowOf.mono _ _
   | exact spec_SystemsOf.mono _ _
   | exact LeO.none _
   | refine LeO.ite ?_ ?_
   | refine LeO.bind ?_ (fun _ => ?_)
  ·intro y0 y1 y2 y3
   unfold laws_FnMeanderCounts.j3
   repeat' first
   | (with_reducible exact ih0 _ _)
   | (with_reducible exact ih1 _ _)
   | (with_reducible exact ih2 _ _ _ _)
   | (with_reducible exact ih3 _ _ _ _)
   | (with_reducible exact ih4 _ _ _ _ _ _ _)
   | (with_reducible exact ih5 _ _ _ _ _ _)
   | (with_reducible exact ih6 _ _)
   | (with_reducible exact ih7 _ _ _)
   | (with_reducible exact ih8 _ _ _ _)
   | (with_reducible exact impl_ComponentTable.mono _ _)
   | (with_reducible exact impl_CountByComponents.mono _ _)
   | (with_reducible exact impl_CountWithRainbow.mono _ _)
   | (with_reducible exact laws_likeInts.mono _ _ _)
   | (with_reducible exact laws_lists9.mono _ _ _)
   | (with_reducible exact laws_sum.mono _ _)
   | (with_reducible exact laws_texts9.mono _ _ _)
   | (with_reducible exact spec_ComponentTable.mono _ _)
   | (with_reducible exact spec_CountByComponents.mono _ _)
   | (with_reducible exact spec_CountWithRainbow.mono _ _)
   | (with_reducible exact spec_DrawComponentDeterminant.mono _ _)
   | (with_reducible exact spec_DrawComponentTable.mono _ _)
   | (with_reducible exact spec_DrawCountByComponents.mono _ _)
   | (with_reducible exact spec_DrawCountWithRainbow.mono _ _)
   | (with_reducible exact spec_DrawRainbowOf.mono _ _)
   | (with_reducible exact spec_DrawSystemsOf.mono _ _)
   | (with_reducible exact spec_RainbowOf.mono _ _)
   | (with_reducible exact spec_SystemsOf.mono _ _)
   | (with_reducible exact LeO.refl _)
   | (with_reducible exact LeO.none _)
   | (with_reducible refine LeO.ite ?_ ?_)
   | (with_reducible refine LeO.bind ?_ (fun _ => ?_))
   | exact ih0 _ _
   | exact ih1 _ _
   | exact ih2 _ _ _ _
   | exact ih3 _ _ _ _
   | exact ih4 _ _ _ _ _ _ _
   | exact ih5 _ _ _ _ _ _
   | exact ih6 _ _
   | exact ih7 _ _ _
   | exact ih8 _ _ _ _
   | exact impl_ComponentTable.mono _ _
   | exact impl_CountByComponents.mono _ _
   | exact impl_CountWithRainbow.mono _ _
   | exact laws_likeInts.mono _ _ _
   | exact laws_lists9.mono _ _ _
   | exact laws_sum.mono _ _
   | exact laws_texts9.mono _ _ _
   | exact spec_ComponentTable.mono _ _
   | exact spec_CountByComponents.mono _ _
   | exact spec_CountWithRainbow.mono _ _
   | exact spec_DrawComponentDeterminant.mono _ _
   | exact spec_DrawComponentTable.mono _ _
   | exact spec_DrawCountByComponents.mono _ _
   | exact spec_DrawCountWithRainbow.mono _ _
   | exact spec_DrawRainbowOf.mono _ _
   | exact spec_DrawSystemsOf.mono _ _
   | exact spec_RainbowOf.mono _ _
   | exact spec_SystemsOf.mono _ _
   | exact LeO.none _
   | refine LeO.ite ?_ ?_
   | refine LeO.bind ?_ (fun _ => ?_)
  ·intro y0 y1 y2 y3 y4 y5 y6
   unfold laws_FnMeanderCounts.j4
   repeat' first
   | (with_reducible exact ih0 _ _)
   | (with_reducible exact ih1 _ _)
   | (with_reducible exact ih2 _ _ _ _)
   | (with_reducible exact ih3 _ _ _ _)
   | (with_reducible exact ih4 _ _ _ _ _ _ _)
   | (with_reducible exact ih5 _ _ _ _ _ _)
   | (with_reducible exact ih6 _ _)
   | (with_reducible exact ih7 _ _ _)
   | (with_reducible exact ih8 _ _ _ _)
   | (with_reducible exact impl_ComponentTable.mono _ _)
   | (with_reducible exact impl_CountByComponents.mono _ _)
   | (with_reducible exact impl_CountWithRainbow.mono _ _)
   | (with_reducible exact laws_likeInts.mono _ _ _)
   | (with_reducible exact laws_lists9.mono _ _ _)
   | (with_reducible exact laws_sum.mono _ _)
   | (with_reducible exact laws_texts9.mono _ _ _)
   | (with_reducible exact spec_ComponentTable.mono _ _)
   | (with_reducible exact spec_CountByComponents.mono _ _)
   | (with_reducible exact spec_CountWithRainbow.mono _ _)
   | (with_reducible exact spec_DrawComponentDeterminant.mono _ _)
   | (with_reducible exact spec_DrawComponentTable.mono _ _)
   | (with_reducible exact spec_DrawCountByComponents.mono _ _)
   | (with_reducible exact spec_DrawCountWithRainbow.mono _ _)
   | (with_reducible exact spec_DrawRainbowOf.mono _ _)
   | (with_reducible exact spec_DrawSystemsOf.mono _ _)
   | (with_reducible exact spec_RainbowOf.mono _ _)
   | (with_reducible exact spec_SystemsOf.mono _ _)
   | (with_reducible exact LeO.refl _)
   | (with_reducible exact LeO.none _)
   | (with_reducible refine LeO.ite ?_ ?_)
   | (with_reducible refine LeO.bind ?_ (fun _ => ?_))
   | exact ih0 _ _
   | exact ih1 _ _
   | exact ih2 _ _ _ _
   | exact ih3 _ _ _ _
   | exact ih4 _ _ _ _ _ _ _
   | exact ih5 _ _ _ _ _ _
   | exact ih6 _ _
   | exact ih7 _ _ _
   | exact ih8 _ _ _ _
   | exact impl_ComponentTable.mono _ _
   | exact impl_CountByComponents.mono _ _
   | exact impl_CountWithRainbow.mono _ _
   | exact laws_likeInts.mono _ _ _
   | exact laws_lists9.mono _ _ _
   | exact laws_sum.mono _ _
   | exact laws_texts9.mono _ _ _
   | exact spec_ComponentTable.mono _ _
   | exact spec_CountByComponents.mono _ _
   | exact spec_CountWithRainbow.mono _ _
   | exact spec_DrawComponentDeterminant.mono _ _
   | exact spec_DrawComponentTable.mono _ _
   | exact spec_DrawCountByComponents.mono _ _
   | exact spec_DrawCountWithRainbow.mono _ _
   | exact spec_DrawRainbowOf.mono _ _
   | exact spec_DrawSystemsOf.mono _ _
   | exact spec_RainbowOf.mono _ _
   | exact spec_SystemsOf.mono _ _
   | exact LeO.none _
   | refine LeO.ite ?_ ?_
   | refine LeO.bind ?_ (fun _ => ?_)
  ·intro y0 y1 y2 y3 y4 y5
   unfold laws_FnMeanderCounts.j5
   repeat' first
   | (with_reducible exact ih0 _ _)
   | (with_reducible exact ih1 _ _)
   | (with_reducible exact ih2 _ _ _ _)
   | (with_reducible exact ih3 _ _ _ _)
   | (with_reducible exact ih4 _ _ _ _ _ _ _)
   | (with_reducible exact ih5 _ _ _ _ _ _)
   | (with_reducible exact ih6 _ _)
   | (with_reducible exact ih7 _ _ _)
   | (with_reducible exact ih8 _ _ _ _)
   | (with_reducible exact impl_ComponentTable.mono _ _)
   | (with_reducible exact impl_CountByComponents.mono _ _)
   | (with_reducible exact impl_CountWithRainbow.mono _ _)
   | (with_reducible exact laws_likeInts.mono _ _ _)
   | (with_reducible exact laws_lists9.mono _ _ _)
   | (with_reducible exact laws_sum.mono _ _)
   | (with_reducible exact laws_texts9.mono _ _ _)
   | (with_reducible exact spec_ComponentTable.mono _ _)
   | (with_reducible exact spec_CountByComponents.mono _ _)
   | (with_reducible exact spec_CountWithRainbow.mono _ _)
   | (with_reducible exact spec_DrawComponentDeterminant.mono _ _)
   | (with_reducible exact spec_DrawComponentTable.mono _ _)
   | (with_reducible exact spec_DrawCountByComponents.mono _ _)
   | (with_reducible exact spec_DrawCountWithRainbow.mono _ _)
   | (with_reducible exact spec_DrawRainbowOf.mono _ _)
   | (with_reducible exact spec_DrawSystemsOf.mono _ _)
   | (with_reducible exact spec_RainbowOf.mono _ _)
   | (with_reducible exact spec_SystemsOf.mono _ _)
   | (with_reducible exact LeO.refl _)
   | (with_reducible exact LeO.none _)
   | (with_reducible refine LeO.ite ?_ ?_)
   | (with_reducible refine LeO.bind ?_ (fun _ => ?_))
   | exact ih0 _ _
   | exact ih1 _ _
   | exact ih2 _ _ _ _
   | exact ih3 _ _ _ _
   | exact ih4 _ _ _ _ _ _ _
   | exact ih5 _ _ _ _ _ _
   | exact ih6 _ _
   | exact ih7 _ _ _
   | exact ih8 _ _ _ _
   | exact impl_ComponentTable.mono _ _
   | exact impl_CountByComponents.mono _ _
   | exact impl_CountWithRainbow.mono _ _
   | exact laws_likeInts.mono _ _ _
   | exact laws_lists9.mono _ _ _
   | exact laws_sum.mono _ _
   | exact laws_texts9.mono _ _ _
   | exact spec_ComponentTable.mono _ _
   | exact spec_CountByComponents.mono _ _
   | exact spec_CountWithRainbow.mono _ _
   | exact spec_DrawComponentDeterminant.mono _ _
   | exact spec_DrawComponentTable.mono _ _
   | exact spec_DrawCountByComponents.mono _ _
   | exact spec_DrawCountWithRainbow.mono _ _
   | exact spec_DrawRainbowOf.mono _ _
   | exact spec_DrawSystemsOf.mono _ _
   | exact spec_RainbowOf.mono _ _
   | exact spec_SystemsOf.mono _ _
   | exact LeO.none _
   | refine LeO.ite ?_ ?_
   | refine LeO.bind ?_ (fun _ => ?_)
  ·intro y0 y1
   unfold laws_FnMeanderCounts.j6
   repeat' first
   | (with_reducible exact ih0 _ _)
   | (with_reducible exact ih1 _ _)
   | (with_reducible exact ih2 _ _ _ _)
   | (with_reducible exact ih3 _ _ _ _)
   | (with_reducible exact ih4 _ _ _ _ _ _ _)
   | (with_reducible exact ih5 _ _ _ _ _ _)
   | (with_reducible exact ih6 _ _)
   | (with_reducible exact ih7 _ _ _)
   | (with_reducible exact ih8 _ _ _ _)
   | (with_reducible exact impl_ComponentTable.mono _ _)
   | (with_reducible exact impl_CountByComponents.mono _ _)
   | (with_reducible exact impl_CountWithRainbow.mono _ _)
   | (with_reducible exact laws_likeInts.mono _ _ _)
   | (with_reducible exact laws_lists9.mono _ _ _)
   | (with_reducible exact laws_sum.mono _ _)
   | (with_reducible exact laws_texts9.mono _ _ _)
   | (with_reducible exact spec_ComponentTable.mono _ _)
   | (with_reducible exact spec_CountByComponents.mono _ _)
   | (with_reducible exact spec_CountWithRainbow.mono _ _)
   | (with_reducible exact spec_DrawComponentDeterminant.mono _ _)
   | (with_reducible exact spec_DrawComponentTable.mono _ _)
   | (with_reducible exact spec_DrawCountByComponents.mono _ _)
   | (with_reducible exact spec_DrawCountWithRainbow.mono _ _)
   | (with_reducible exact spec_DrawRainbowOf.mono _ _)
   | (with_reducible exact spec_DrawSystemsOf.mono _ _)
   | (with_reducible exact spec_RainbowOf.mono _ _)
   | (with_reducible exact spec_SystemsOf.mono _ _)
   | (with_reducible exact LeO.refl _)
   | (with_reducible exact LeO.none _)
   | (with_reducible refine LeO.ite ?_ ?_)
   | (with_reducible refine LeO.bind ?_ (fun _ => ?_))
   | exact ih0 _ _
   | exact ih1 _ _
   | exact ih2 _ _ _ _
   | exact ih3 _ _ _ _
   | exact ih4 _ _ _ _ _ _ _
   | exact ih5 _ _ _ _ _ _
   | exact ih6 _ _
   | exact ih7 _ _ _
   | exact ih8 _ _ _ _
   | exact impl_ComponentTable.mono _ _
   | exact impl_CountByComponents.mono _ _
   | exact impl_CountWithRainbow.mono _ _
   | exact laws_likeInts.mono _ _ _
   | exact laws_lists9.mono _ _ _
   | exact laws_sum.mono _ _
   | exact laws_texts9.mono _ _ _
   | exact spec_ComponentTable.mono _ _
   | exact spec_CountByComponents.mono _ _
   | exact spec_CountWithRainbow.mono _ _
   | exact spec_DrawComponentDeterminant.mono _ _
   | exact spec_DrawComponentTable.mono _ _
   | exact spec_DrawCountByComponents.mono _ _
   | exact spec_DrawCountWithRainbow.mono _ _
   | exact spec_DrawRainbowOf.mono _ _
   | exact spec_DrawSystemsOf.mono _ _
   | exact spec_RainbowOf.mono _ _
   | exact spec_SystemsOf.mono _ _
   | exact LeO.none _
   | refine LeO.ite ?_ ?_
   | refine LeO.bind ?_ (fun _ => ?_)
  ·intro y0 y1 y2
   unfold laws_FnMeanderCounts.l0
   repeat' first
   | (with_reducible exact ih0 _ _)
   | (with_reducible exact ih1 _ _)
   | (with_reducible exact ih2 _ _ _ _)
   | (with_reducible exact ih3 _ _ _ _)
   | (with_reducible exact ih4 _ _ _ _ _ _ _)
   | (with_reducible exact ih5 _ _ _ _ _ _)
   | (with_reducible exact ih6 _ _)
   | (with_reducible exact ih7 _ _ _)
   | (with_reducible exact ih8 _ _ _ _)
   | (with_reducible exact impl_ComponentTable.mono _ _)
   | (with_reducible exact impl_CountByComponents.mono _ _)
   | (with_reducible exact impl_CountWithRainbow.mono _ _)
   | (with_reducible exact laws_likeInts.mono _ _ _)
   | (with_reducible exact laws_lists9.mono _ _ _)
   | (with_reducible exact laws_sum.mono _ _)
   | (with_reducible exact laws_texts9.mono _ _ _)
   | (with_reducible exact spec_ComponentTable.mono _ _)
   | (with_reducible exact spec_CountByComponents.mono _ _)
   | (with_reducible exact spec_CountWithRainbow.mono _ _)
   | (with_reducible exact spec_DrawComponentDeterminant.mono _ _)
   | (with_reducible exact spec_DrawComponentTable.mono _ _)
   | (with_reducible exact spec_DrawCountByComponents.mono _ _)
   | (with_reducible exact spec_DrawCountWithRainbow.mono _ _)
   | (with_reducible exact spec_DrawRainbowOf.mono _ _)
   | (with_reducible exact spec_DrawSystemsOf.mono _ _)
   | (with_reducible exact spec_RainbowOf.mono _ _)
   | (with_reducible exact spec_SystemsOf.mono _ _)
   | (with_reducible exact LeO.refl _)
   | (with_reducible exact LeO.none _)
   | (with_reducible refine LeO.ite ?_ ?_)
   | (with_reducible refine LeO.bind ?_ (fun _ => ?_))
   | exact ih0 _ _
   | exact ih1 _ _
   | exact ih2 _ _ _ _
   | exact ih3 _ _ _ _
   | exact ih4 _ _ _ _ _ _ _
   | exact ih5 _ _ _ _ _ _
   | exact ih6 _ _
   | exact ih7 _ _ _
   | exact ih8 _ _ _ _
   | exact impl_ComponentTable.mono _ _
   | exact impl_CountByComponents.mono _ _
   | exact impl_CountWithRainbow.mono _ _
   | exact laws_likeInts.mono _ _ _
   | exact laws_lists9.mono _ _ _
   | exact laws_sum.mono _ _
   | exact laws_texts9.mono _ _ _
   | exact spec_ComponentTable.mono _ _
   | exact spec_CountByComponents.mono _ _
   | exact spec_CountWithRainbow.mono _ _
   | exact spec_DrawComponentDeterminant.mono _ _
   | exact spec_DrawComponentTable.mono _ _
   | exact spec_DrawCountByComponents.mono _ _
   | exact spec_DrawCountWithRainbow.mono _ _
   | exact spec_DrawRainbowOf.mono _ _
   | exact spec_DrawSystemsOf.mono _ _
   | exact spec_RainbowOf.mono _ _
   | exact spec_SystemsOf.mono _ _
   | exact LeO.none _
   | refine LeO.ite ?_ ?_
   | refine LeO.bind ?_ (fun _ => ?_)
  ·intro y0 y1 y2 y3
   unfold laws_FnMeanderCounts.l1
   repeat' first
   | (with_reducible exact ih0 _ _)
   | (with_reducible exact ih1 _ _)
   | (with_reducible exact ih2 _ _ _ _)
   | (with_reducible exact ih3 _ _ _ _)
   | (with_reducible exact ih4 _ _ _ _ _ _ _)
   | (with_reducible exact ih5 _ _ _ _ _ _)
   | (with_reducible exact ih6 _ _)
   | (with_reducible exact ih7 _ _ _)
   | (with_reducible exact ih8 _ _ _ _)
   | (with_reducible exact impl_ComponentTable.mono _ _)
   | (with_reducible exact impl_CountByComponents.mono _ _)
   | (with_reducible exact impl_CountWithRainbow.mono _ _)
   | (with_reducible exact laws_likeInts.mono _ _ _)
   | (with_reducible exact laws_lists9.mono _ _ _)
   | (with_reducible exact laws_sum.mono _ _)
   | (with_reducible exact laws_texts9.mono _ _ _)
   | (with_reducible exact spec_ComponentTable.mono _ _)
   | (with_reducible exact spec_CountByComponents.mono _ _)
   | (with_reducible exact spec_CountWithRainbow.mono _ _)
   | (with_reducible exact spec_DrawComponentDeterminant.mono _ _)
   | (with_reducible exact spec_DrawComponentTable.mono _ _)
   | (with_reducible exact spec_DrawCountByComponents.mono _ _)
   | (with_reducible exact spec_DrawCountWithRainbow.mono _ _)
   | (with_reducible exact spec_DrawRainbowOf.mono _ _)
   | (with_reducible exact spec_DrawSystemsOf.mono _ _)
   | (with_reducible exact spec_RainbowOf.mono _ _)
   | (with_reducible exact spec_SystemsOf.mono _ _)
   | (with_reducible exact LeO.refl _)
   | (with_reducible exact LeO.none _)
   | (with_reducible refine LeO.ite ?_ ?_)
   | (with_reducible refine LeO.bind ?_ (fun _ => ?_))
   | exact ih0 _ _
   | exact ih1 _ _
   | exact ih2 _ _ _ _
   | exact ih3 _ _ _ _
   | exact ih4 _ _ _ _ _ _ _
   | exact ih5 _ _ _ _ _ _
   | exact ih6 _ _
   | exact ih7 _ _ _
   | exact ih8 _ _ _ _
   | exact impl_ComponentTable.mono _ _
   | exact impl_CountByComponents.mono _ _
   | exact impl_CountWithRainbow.mono _ _
   | exact laws_likeInts.mono _ _ _
   | exact laws_lists9.mono _ _ _
   | exact laws_sum.mono _ _
   | exact laws_texts9.mono _ _ _
   | exact spec_ComponentTable.mono _ _
   | exact spec_CountByComponents.mono _ _
   | exact spec_CountWithRainbow.mono _ _
   | exact spec_DrawComponentDeterminant.mono _ _
   | exact spec_DrawComponentTable.mono _ _
   | exact spec_DrawCountByComponents.mono _ _
   | exact spec_DrawCountWithRainbow.mono _ _
   | exact spec_DrawRainbowOf.mono _ _
   | exact spec_DrawSystemsOf.mono _ _
   | exact spec_RainbowOf.mono _ _
   | exact spec_SystemsOf.mono _ _
   | exact LeO.none _
   | refine LeO.ite ?_ ?_
   | refine LeO.bind ?_ (fun _ => ?_)
theorem laws_FnMeanderCounts.mono : ∀ a0 k, LeO (laws_FnMeanderCounts.f k a0) (laws_FnMeanderCounts.f (k + 1) a0) := by
 intro a0 k
 obtain ⟨ih0, ih1, ih2, ih3, ih4, ih5, ih6, ih7, ih8⟩ := laws_FnMeanderCounts.mono_l k
 unfold laws_FnMeanderCounts.f
 repeat' first
   | (with_reducible exact ih0 _ _)
   | (with_reducible exact ih1 _ _)
   | (with_reducible exact ih2 _ _ _ _)
   | (with_reducible exact ih3 _ _ _ _)
   | (with_reducible exact ih4 _ _ _ _ _ _ _)
   | (with_reducible exact ih5 _ _ _ _ _ _)
   | (with_reducible exact ih6 _ _)
   | (with_reducible exact ih7 _ _ _)
   | (with_reducible exact ih8 _ _ _ _)
   | (with_reducible exact impl_ComponentTable.mono _ _)
   | (with_reducible exact impl_CountByComponents.mono _ _)
   | (with_reducible exact impl_CountWithRainbow.mono _ _)
   | (with_reducible exact laws_likeInts.mono _ _ _)
   | (with_reducible exact laws_lists9.mono _ _ _)
   | (with_reducible exact laws_sum.mono _ _)
   | (with_reducible exact laws_texts9.mono _ _ _)
   | (with_reducible exact spec_ComponentTable.mono _ _)
   | (with_reducible exact spec_CountByComponents.mono _ _)
   | (with_reducible exact spec_CountWithRainbow.mono _ _)
   | (with_reducible exact spec_DrawComponentDeterminant.mono _ _)
   | (with_reducible exact spec_DrawComponentTable.mono _ _)
   | (with_reducible exact spec_DrawCountByComponents.mono _ _)
   | (with_reducible exact spec_DrawCountWithRainbow.mono _ _)
   | (with_reducible exact spec_DrawRainbowOf.mono _ _)
   | (with_reducible exact spec_DrawSystemsOf.mono _ _)
   | (with_reducible exact spec_RainbowOf.mono _ _)
   | (with_reducible exact spec_SystemsOf.mono _ _)
   | (with_reducible exact LeO.refl _)
   | (with_reducible exact LeO.none _)
   | (with_reducible refine LeO.ite ?_ ?_)
   | (with_reducible refine LeO.bind ?_ (fun _ => ?_))
   | exact ih0 _ _
   | exact ih1 _ _
   | exact ih2 _ _ _ _
   | exact ih3 _ _ _ _
   | exact ih4 _ _ _ _ _ _ _
   | exact ih5 _ _ _ _ _ _
   | exact ih6 _ _
   | exact ih7 _ _ _
   | exact ih8 _ _ _ _
   | exact impl_ComponentTable.mono _ _
   | exact impl_CountByComponents.mono _ _
   | exact impl_CountWithRainbow.mono _ _
   | exact laws_likeInts.mono _ _ _
   | exact laws_lists9.mono _ _ _
   | exact laws_sum.mono _ _
   | exact laws_texts9.mono _ _ _
   | exact spec_ComponentTable.mono _ _
   | exact spec_CountByComponents.mono _ _
   | exact spec_CountWithRainbow.mono _ _
   | exact spec_DrawComponentDeterminant.mono _ _
   | exact spec_DrawComponentTable.mono _ _
   | exact spec_DrawCountByComponents.mono _ _
   | exact spec_DrawCountWithRainbow.mono _ _
   | exact spec_DrawRainbowOf.mono _ _
   | exact spec_DrawSystemsOf.mono _ _
   | exact spec_RainbowOf.mono _ _
   | exact spec_SystemsOf.mono _ _
   | exact LeO.none _
   | refine LeO.ite ?_ ?_
   | refine LeO.bind ?_ (fun _ => ?_)
set_option maxHeartbeats 8000000 in
set_option maxRecDepth 100000 in
theorem laws_FnMeanderCounts.calls (k : Nat) (A0 : Option Addr) (c0 : Nat) (l0 : List Int) (r : Bool) (w : World) (hr0 : Kd.C (Kd.int .u8) w A0 l0.length l0) (hc0 : l0.length ≤ c0) (h : laws_FnMeanderCounts.f k l0 = some r) :
  Calls Try.prog 4 #[.slice A0 l0.length c0] w fun e w' => e = .returned (.bool r) ∧ Below w.heap.size w w' := by
 have HR0 := Aside0.mk hr0
 have HC0 := Aside0.mk hc0
 clear hr0 hc0
 have HB := Aside0.mk (Below.refl w.heap.size w)
 have H : ((laws_big.f l0).bind fun t245 => (if t245 = true then (some true) else ((spec_DrawSystemsOf.f k l0).bind fun t246 => ((impl_SystemsOf.f t246).bind fun bt247 => ((spec_SystemsOf.f k t246).bind fun bt251 => (if bt247.2 = bt251.2 then ((laws_texts9.f k bt247.1 bt251.1).bind fun t255 => (laws_FnMeanderCounts.j0 k l0 (!t255))) else (laws_FnMeanderCounts.j0 k l0 true))))))) = some r := h
 clear h
 replace H := Option.bind_eq_some_iff.mp H
 obtain ⟨t245, A20, H⟩ := H
 replace H : (if t245 = true then (some true) else ((spec_DrawSystemsOf.f k l0).bind fun t246 => ((impl_SystemsOf.f t246).bind fun bt247 => ((spec_SystemsOf.f k t246).bind fun bt251 => (if bt247.2 = bt251.2 then ((laws_texts9.f k bt247.1 bt251.1).bind fun t255 => (laws_FnMeanderCounts.j0 k l0 (!t255))) else (laws_FnMeanderCounts.j0 k l0 true)))))) = some r := H
 have A2 := Aside0.mk A20
 clear A20
 by_cases c3 : t245 = true
 ·subst c3
  have H1 : (some true) = some r := by rw [if_pos rfl] at H; exact H
  clear H
  have H := H1
  clear H1
  obtain rfl := Option.some.inj H
  go_enter Try.func4, Try.ntmps4
  go_wp2_with (first | (go_at_call 7; (with_reducible refine (laws_big.calls _ _ l0 true _ ?side1 ?side2 A2.out).mono ?_); (case side1 => repeat (first | exact HR0.out | (with_reducible refine Kd.C_alloc ?_ _) | (with_reducible refine Kd.C_drewN ?_ _) | (with_reducible refine Kd.C_drew ?_))); (case side2 => exact HC0.out); rintro e w' ⟨rfl, ⟨nd, rfl⟩⟩; (try first | exact ⟨rfl, _, World.drewN_drewN _ _ _⟩ | exact ⟨rfl, _, Eq.trans (World.drewN_drewN _ _ _) (congrArg (World.drewN _) (Nat.add_assoc _ _ _))⟩)))
  repeat (go_quiet (first | (go_at_call 7; (with_reducible refine (laws_big.calls _ _ l0 true _ ?side1 ?side2 A2.out).mono ?_); (case side1 => repeat (first | exact HR0.out | (with_reducible refine Kd.C_alloc ?_ _) | (with_reducible refine Kd.C_drewN ?_ _) | (with_reducible refine Kd.C_drew ?_))); (case side2 => exact HC0.out); rintro e w' ⟨rfl, ⟨nd, rfl⟩⟩; (try first | exact ⟨rfl, _, World.drewN_drewN _ _ _⟩ | exact ⟨rfl, _, Eq.trans (World.drewN_drewN _ _ _) (congrArg (World.drewN _) (Nat.add_assoc _ _ _))⟩))); try go_wp2_with (first | (go_at_call 7; (with_reducible refine (laws_big.calls _ _ l0 true _ ?side1 ?side2 A2.out).mono ?_); (case side1 => repeat (first | exact HR0.out | (with_reducible refine Kd.C_alloc ?_ _) | (with_reducible refine Kd.C_drewN ?_ _) | (with_reducible refine Kd.C_drew ?_))); (case side2 => exact HC0.out); rintro e w' ⟨rfl, ⟨nd, rfl⟩⟩; (try first | exact ⟨rfl, _, World.drewN_drewN _ _ _⟩ | exact ⟨rfl, _, Eq.trans (World.drewN_drewN _ _ _) (congrArg (World.drewN _) (Nat.add_assoc _ _ _))⟩))))
  go_ret
  exact ⟨by first | rfl | (simp [errW_none, errW_some] <;> rfl) | (simp [*, errW_none, errW_some] <;> rfl), by repeat (first | (with_reducible first | exact HB.out | apply below_alloc | apply pw_below_drewN | apply below_drew1) | exact HB.out)⟩
 ·replace c3 := Bool.eq_false_iff.mpr c3
  subst c3
  have H1 : ((spec_DrawSystemsOf.f k l0).bind fun t246 => ((impl_SystemsOf.f t246).bind fun bt247 => ((spec_SystemsOf.f k t246).bind fun bt251 => (if bt247.2 = bt251.2 then ((laws_texts9.f k bt247.1 bt251.1).bind fun t255 => (laws_FnMeanderCounts.j0 k l0 (!t255))) else (laws_FnMeanderCounts.j0 k l0 true))))) = some r := by rw [if_neg (show ¬ (false = true) by decide)] at H; exact H
  clear H
  have H := H1
  clear H1
  replace H := Option.bind_eq_some_iff.mp H
  obtain ⟨t246, A40, H⟩ := H
  replace H : ((impl_SystemsOf.f t246).bind fun bt247 => ((spec_SystemsOf.f k t246).bind fun bt251 => (if bt247.2 = bt251.2 then ((laws_texts9.f k bt247.1 bt251.1).bind fun t255 => (laws_FnMeanderCounts.j0 k l0 (!t255))) else (laws_FnMeanderCounts.j0 k l0 true)))) = some r := H
  have A4 := Aside0.mk A40
  clear A40
  replace H := Option.bind_eq_some_iff.mp H
  obtain ⟨⟨t247, t248⟩, A50, H⟩ := H
  replace H : ((spec_SystemsOf.f k t246).bind fun bt251 => (if t248 = bt251.2 then ((laws_texts9.f k t247 bt251.1).bind fun t255 => (laws_FnMeanderCounts.j0 k l0 (!t255))) else (laws_FnMeanderCounts.j0 k l0 true))) = some r := H
  have A5 := Aside0.mk A50
  clear A50
  replace H := Option.bind_eq_some_iff.mp H
  obtain ⟨⟨t251, t252⟩, A60, H⟩ := H
  replace H : (if t248 = t252 then ((laws_texts9.f k t247 t251).bind fun t255 => (laws_FnMeanderCounts.j0 k l0 (!t255))) else (laws_FnMeanderCounts.j0 k l0 true)) = some r := H
  have A6 := Aside0.mk A60
  clear A60
  have HC7 := Aside0.mk H
  clear H
  go_enter Try.func4, Try.ntmps4
  go_upto_region 6 with (first | (go_at_call 7; (with_reducible refine (laws_big.calls _ _ l0 false _ ?side1 ?side2 A2.out).mono ?_); (case side1 => repeat (first | exact HR0.out | (with_reducible refine Kd.C_alloc ?_ _) | (with_reducible refine Kd.C_drewN ?_ _) | (with_reducible refine Kd.C_drew ?_))); (case side2 => exact HC0.out); rintro e w' ⟨rfl, ⟨nd, rfl⟩⟩; (try first | exact ⟨rfl, _, World.drewN_drewN _ _ _⟩ | exact ⟨rfl, _, Eq.trans (World.drewN_drewN _ _ _) (congrArg (World.drewN _) (Nat.add_assoc _ _ _))⟩)) | (go_at_call 8; (with_reducible refine (spec_DrawSystemsOf.calls k _ _ l0 t246 _ ?side1 ?side2 A4.out).mono ?_); (case side1 => repeat (first | exact HR0.out | (with_reducible refine Kd.C_alloc ?_ _) | (with_reducible refine Kd.C_drewN ?_ _) | (with_reducible refine Kd.C_drew ?_))); (case side2 => exact HC0.out); rintro e w8 ⟨rfl, hb⟩; have n0_ := Aside0.mk (below_step (by repeat (first | (with_reducible first | exact HB.out | apply below_alloc | apply pw_below_drewN | apply below_drew1) | exact HB.out)) hb); clear HB; have HB := n0_; clear n0_; (try clear hb); (try clear hb2); (try clear hk); (try clear hi)) | (go_at_call 9; (with_reducible refine (impl_SystemsOf.calls t246 t247 t248 _ A5.out).mono ?_); rintro e w9 ⟨v249, rfl, ho0, hb⟩; have n0_ := Aside0.mk (Kd.R_lower ho0 (below_size (by repeat (first | (with_reducible first | exact HB.out | apply below_alloc | apply pw_below_drewN | apply below_drew1) | exact HB.out)))); have n1_ := Aside0.mk (below_step (by repeat (first | (with_reducible first | exact HB.out | apply below_alloc | apply pw_below_drewN | apply below_drew1) | exact HB.out)) hb); clear HB; have HO250 := n0_; have HB := n1_; clear n0_ n1_; (try clear hb); (try clear hb2); (try clear hk); (try clear hi); (try clear ho0)) | (go_at_call 10; (with_reducible refine (spec_SystemsOf.calls k t246 t251 t252 _ A6.out).mono ?_); rintro e w10 ⟨v253, rfl, ho0, hb⟩; have n0_ := Aside0.mk (Kd.R_elder' (by (with_reducible repeat (first | apply Kd.R_alloc | apply Kd.R_drewN | apply Kd.R_drew)); exact HO250.out) (Kd.R_base ho0) hb); have n1_ := Aside0.mk (Kd.R_lower (Kd.R_new' ho0 (Kd.R_lt (by (with_reducible repeat (first | apply Kd.R_alloc | apply Kd.R_drewN | apply Kd.R_drew)); exact HO250.out))) (below_size (by repeat (first | (with_reducible first | exact HB.out | apply below_alloc | apply pw_below_drewN | apply below_drew1) | exact HB.out)))); have n2_ := Aside0.mk (below_step (by repeat (first | (with_reducible first | exact HB.out | apply below_alloc | apply pw_below_drewN | apply below_drew1) | exact HB.out)) hb); clear HO250; clear HB; have HO250 := n0_; have HO254 := n1_; have HB := n2_; clear n0_ n1_ n2_; (try clear hb); (try clear hb2); (try clear hk); (try clear hi); (try clear ho0)))
  repeat (go_quiet (first | (go_at_call 7; (with_reducible refine (laws_big.calls _ _ l0 false _ ?side1 ?side2 A2.out).mono ?_); (case side1 => repeat (first | exact HR0.out | (with_reducible refine Kd.C_alloc ?_ _) | (with_reducible refine Kd.C_drewN ?_ _) | (with_reducible refine Kd.C_drew ?_))); (case side2 => exact HC0.out); rintro e w' ⟨rfl, ⟨nd, rfl⟩⟩; (try first | exact ⟨rfl, _, World.drewN_drewN _ _ _⟩ | exact ⟨rfl, _, Eq.trans (World.drewN_drewN _ _ _) (congrArg (World.drewN _) (Nat.add_assoc _ _ _))⟩)) | (go_at_call 8; (with_reducible refine (spec_DrawSystemsOf.calls k _ _ l0 t246 _ ?side1 ?side2 A4.out).mono ?_); (case side1 => repeat (first | exact HR0.out | (with_reducible refine Kd.C_alloc ?_ _) | (with_reducible refine Kd.C_drewN ?_ _) | (with_reducible refine Kd.C_drew ?_))); (case side2 => exact HC0.out); rintro e w8 ⟨rfl, hb⟩; have n0_ := Aside0.mk (below_step (by repeat (first | (with_reducible first | exact HB.out | apply below_alloc | apply pw_below_drewN | apply below_drew1) | exact HB.out)) hb); clear HB; have HB := n0_; clear n0_; (try clear hb); (try clear hb2); (try clear hk); (try clear hi)) | (go_at_call 9; (with_reducible refine (impl_SystemsOf.calls t246 t247 t248 _ A5.out).mono ?_); rintro e w9 ⟨v249, rfl, ho0, hb⟩; have n0_ := Aside0.mk (Kd.R_lower ho0 (below_size (by repeat (first | (with_reducible first | exact HB.out | apply below_alloc | apply pw_below_drewN | apply below_drew1) | exact HB.out)))); have n1_ := Aside0.mk (below_step (by repeat (first | (with_reducible first | exact HB.out | apply below_alloc | apply pw_below_drewN | apply below_drew1) | exact HB.out)) hb); clear HB; have HO250 := n0_; have HB := n1_; clear n0_ n1_; (try clear hb); (try clear hb2); (try clear hk); (try clear hi); (try clear ho0)) | (go_at_call 10; (with_reducible refine (spec_SystemsOf.calls k t246 t251 t252 _ A6.out).mono ?_); rintro e w10 ⟨v253, rfl, ho0, hb⟩; have n0_ := Aside0.mk (Kd.R_elder' (by (with_reducible repeat (first | apply Kd.R_alloc | apply Kd.R_drewN | apply Kd.R_drew)); exact HO250.out) (Kd.R_base ho0) hb); have n1_ := Aside0.mk (Kd.R_lower (Kd.R_new' ho0 (Kd.R_lt (by (with_reducible repeat (first | apply Kd.R_alloc | apply Kd.R_drewN | apply Kd.R_drew)); exact HO250.out))) (below_size (by repeat (first | (with_reducible first | exact HB.out | apply below_alloc | apply pw_below_drewN | apply below_drew1) | exact HB.out)))); have n2_ := Aside0.mk (below_step (by repeat (first | (with_reducible first | exact HB.out | apply below_alloc | apply pw_below_drewN | apply below_drew1) | exact HB.out)) hb); clear HO250; clear HB; have HO250 := n0_; have HO254 := n1_; have HB := n2_; clear n0_ n1_ n2_; (try clear hb); (try clear hb2); (try clear hk); (try clear hi); (try clear ho0))); go_upto_region 6 with (first | (go_at_call 7; (with_reducible refine (laws_big.calls _ _ l0 false _ ?side1 ?side2 A2.out).mono ?_); (case side1 => repeat (first | exact HR0.out | (with_reducible refine Kd.C_alloc ?_ _) | (with_reducible refine Kd.C_drewN ?_ _) | (with_reducible refine Kd.C_drew ?_))); (case side2 => exact HC0.out); rintro e w' ⟨rfl, ⟨nd, rfl⟩⟩; (try first | exact ⟨rfl, _, World.drewN_drewN _ _ _⟩ | exact ⟨rfl, _, Eq.trans (World.drewN_drewN _ _ _) (congrArg (World.drewN _) (Nat.add_assoc _ _ _))⟩)) | (go_at_call 8; (with_reducible refine (spec_DrawSystemsOf.calls k _ _ l0 t246 _ ?side1 ?side2 A4.out).mono ?_); (case side1 => repeat (first | exact HR0.out | (with_reducible refine Kd.C_alloc ?_ _) | (with_reducible refine Kd.C_drewN ?_ _) | (with_reducible refine Kd.C_drew ?_))); (case side2 => exact HC0.out); rintro e w8 ⟨rfl, hb⟩; have n0_ := Aside0.mk (below_step (by repeat (first | (with_reducible first | exact HB.out | apply below_alloc | apply pw_below_drewN | apply below_drew1) | exact HB.out)) hb); clear HB; have HB := n0_; clear n0_; (try clear hb); (try clear hb2); (try clear hk); (try clear hi)) | (go_at_call 9; (with_reducible refine (impl_SystemsOf.calls t246 t247 t248 _ A5.out).mono ?_); rintro e w9 ⟨v249, rfl, ho0, hb⟩; have n0_ := Aside0.mk (Kd.R_lower ho0 (below_size (by repeat (first | (with_reducible first | exact HB.out | apply below_alloc | apply pw_below_drewN | apply below_drew1) | exact HB.out)))); have n1_ := Aside0.mk (below_step (by repeat (first | (with_reducible first | exact HB.out | apply below_alloc | apply pw_below_drewN | apply below_drew1) | exact HB.out)) hb); clear HB; have HO250 := n0_; have HB := n1_; clear n0_ n1_; (try clear hb); (try clear hb2); (try clear hk); (try clear hi); (try clear ho0)) | (go_at_call 10; (with_reducible refine (spec_SystemsOf.calls k t246 t251 t252 _ A6.out).mono ?_); rintro e w10 ⟨v253, rfl, ho0, hb⟩; have n0_ := Aside0.mk (Kd.R_elder' (by (with_reducible repeat (first | apply Kd.R_alloc | apply Kd.R_drewN | apply Kd.R_drew)); exact HO250.out) (Kd.R_base ho0) hb); have n1_ := Aside0.mk (Kd.R_lower (Kd.R_new' ho0 (Kd.R_lt (by (with_reducible repeat (first | apply Kd.R_alloc | apply Kd.R_drewN | apply Kd.R_drew)); exact HO250.out))) (below_size (by repeat (first | (with_reducible first | exact HB.out | apply below_alloc | apply pw_below_drewN | apply below_drew1) | exact HB.out)))); have n2_ := Aside0.mk (below_step (by repeat (first | (with_reducible first | exact HB.out | apply below_alloc | apply pw_below_drewN | apply below_drew1) | exact HB.out)) hb); clear HO250; clear HB; have HO250 := n0_; have HO254 := n1_; have HB := n2_; clear n0_ n1_ n2_; (try clear hb); (try clear hb2); (try clear hk); (try clear hi); (try clear ho0))))
  (try simp only [Act.put, List.setIfInBounds_toArray, List.set_cons_zero, List.set_cons_succ])
  go_cut [61] (fun v61 wc => ∃ (kq : Nat) (x61_6 : Bool), v61 = .bool x61_6 ∧ Aside0 (laws_FnMeanderCounts.j0 kq l0 x61_6 = some r) ∧ Aside0 (kq ≤ k) ∧ Aside0 (Below w.heap.size w wc))
  case first => as_aux_lemma =>
   have H := HC7.out
   clear HC7
   by_cases c11 : t248 = t252
   ·rw [if_pos c11] at H
    have c11b0 : (t248 == t252) = true := beq_iff_eq.mpr c11
    have c11b1 : (t248 != t252) = false := bne_eq_false_iff_eq.mpr c11
    clear c11
    (first | rw [c11b0] | (simp only [i64_w, i32_w]; rw [c11b0]) | skip)
    replace H := Option.bind_eq_some_iff.mp H
    obtain ⟨t255, A120, H⟩ := H
    replace H : (laws_FnMeanderCounts.j0 k l0 (!t255)) = some r := H
    have A12 := Aside0.mk A120
    clear A120
    have H' := Aside0.mk H
    clear H
    obtain ⟨Ao13, co13, eo13⟩ := Kd.R_slice HO250.out
    subst eo13
    obtain ⟨Ao14, co14, eo14⟩ := Kd.R_slice HO254.out
    subst eo14
    go_wp2_with (first | (go_at_call 11; (with_reducible refine (laws_texts9.calls k _ _ t247 _ _ t251 t255 _ ?side1 ?side2 ?side3 ?side4 A12.out).mono ?_); (case side1 => repeat (first | exact (Kd.R_reads' HO250.out).2.2 | (with_reducible refine Kd.C_alloc ?_ _) | (with_reducible refine Kd.C_drewN ?_ _) | (with_reducible refine Kd.C_drew ?_))); (case side2 => exact (Kd.R_reads' HO250.out).2.1); (case side3 => repeat (first | exact (Kd.R_reads' HO254.out).2.2 | (with_reducible refine Kd.C_alloc ?_ _) | (with_reducible refine Kd.C_drewN ?_ _) | (with_reducible refine Kd.C_drew ?_))); (case side4 => exact (Kd.R_reads' HO254.out).2.1); rintro e w' ⟨rfl, ⟨nd, rfl⟩⟩; (try first | exact ⟨rfl, _, World.drewN_drewN _ _ _⟩ | exact ⟨rfl, _, Eq.trans (World.drewN_drewN _ _ _) (congrArg (World.drewN _) (Nat.add_assoc _ _ _))⟩)))
    repeat (go_quiet (first | (go_at_call 11; (with_reducible refine (laws_texts9.calls k _ _ t247 _ _ t251 t255 _ ?side1 ?side2 ?side3 ?side4 A12.out).mono ?_); (case side1 => repeat (first | exact (Kd.R_reads' HO250.out).2.2 | (with_reducible refine Kd.C_alloc ?_ _) | (with_reducible refine Kd.C_drewN ?_ _) | (with_reducible refine Kd.C_drew ?_))); (case side2 => exact (Kd.R_reads' HO250.out).2.1); (case side3 => repeat (first | exact (Kd.R_reads' HO254.out).2.2 | (with_reducible refine Kd.C_alloc ?_ _) | (with_reducible refine Kd.C_drewN ?_ _) | (with_reducible refine Kd.C_drew ?_))); (case side4 => exact (Kd.R_reads' HO254.out).2.1); rintro e w' ⟨rfl, ⟨nd, rfl⟩⟩; (try first | exact ⟨rfl, _, World.drewN_drewN _ _ _⟩ | exact ⟨rfl, _, Eq.trans (World.drewN_drewN _ _ _) (congrArg (World.drewN _) (Nat.add_assoc _ _ _))⟩))); try go_wp2_with (first | (go_at_call 11; (with_reducible refine (laws_texts9.calls k _ _ t247 _ _ t251 t255 _ ?side1 ?side2 ?side3 ?side4 A12.out).mono ?_); (case side1 => repeat (first | exact (Kd.R_reads' HO250.out).2.2 | (with_reducible refine Kd.C_alloc ?_ _) | (with_reducible refine Kd.C_drewN ?_ _) | (with_reducible refine Kd.C_drew ?_))); (case side2 => exact (Kd.R_reads' HO250.out).2.1); (case side3 => repeat (first | exact (Kd.R_reads' HO254.out).2.2 | (with_reducible refine Kd.C_alloc ?_ _) | (with_reducible refine Kd.C_drewN ?_ _) | (with_reducible refine Kd.C_drew ?_))); (case side4 => exact (Kd.R_reads' HO254.out).2.1); rintro e w' ⟨rfl, ⟨nd, rfl⟩⟩; (try first | exact ⟨rfl, _, World.drewN_drewN _ _ _⟩ | exact ⟨rfl, _, Eq.trans (World.drewN_drewN _ _ _) (congrArg (World.drewN _) (Nat.add_assoc _ _ _))⟩))))
    go_meet
    case rel => exact ⟨_, (!t255), (by first | rfl | (simp; done) | (simp [*]; done)), H', ⟨by first | omega | exact Nat.le_refl _⟩, ⟨by repeat (first | (with_reducible first | exact HB.out | apply below_alloc | apply pw_below_drewN | apply below_drew1) | exact HB.out)⟩⟩
   ·rw [if_neg c11] at H
    have c11b0 : (t248 == t252) = false := beq_eq_false_iff_ne.mpr c11
    have c11b1 : (t248 != t252) = true := bne_iff_ne.mpr c11
    (first | rw [c11b0] | (simp only [i64_w, i32_w]; rw [c11b0]) | skip)
    have H' := Aside0.mk H
    clear H
    go_wp2
    repeat (go_quiet (fail); try go_wp2)
    go_meet
    case rel => exact ⟨_, (true), (by first | rfl | (simp; done) | (simp [*]; done)), H', ⟨by first | omega | exact Nat.le_refl _⟩, ⟨by repeat (first | (with_reducible first | exact HB.out | apply below_alloc | apply pw_below_drewN | apply below_drew1) | exact HB.out)⟩⟩
  case rest => as_aux_lemma =>
   clear HC7
   try clear c1
   try clear p2
   try clear c3
   try clear c4
   try clear c11
   try clear c11b0
   try clear c11b1
   obtain ⟨kq, x61_6, rfl, HA, HJ6, HB⟩ := hcut
   cases kq with
   | zero => exact absurd HA.out (by simp [laws_FnMeanderCounts.j0])
   | succ kj6 =>
    have H := HA.out
    clear HA
    simp only [laws_FnMeanderCounts.j0] at H
    by_cases c15 : x61_6 = true
    ·subst c15
     have H1 : (some false) = some r := by rw [if_pos rfl] at H; exact H
     clear H
     have H := H1
     clear H1
     obtain rfl := Option.some.inj H
     go_wp2
     repeat (go_quiet (fail); try go_wp2)
     go_ret
     exact ⟨by first | rfl | (simp [errW_none, errW_some] <;> rfl) | (simp [*, errW_none, errW_some] <;> rfl), by repeat (first | (with_reducible first | exact HB.out | apply below_alloc | apply pw_below_drewN | apply below_drew1) | exact HB.out)⟩
    ·replace c15 := Bool.eq_false_iff.mpr c15
     subst c15
     have H1 : ((spec_DrawRainbowOf.f kj6 l0).bind fun t256 => ((impl_RainbowOf.f t256).bind fun bt257 => ((spec_RainbowOf.f kj6 t256).bind fun bt259 => (if bt257.2 = bt259.2 then (laws_FnMeanderCounts.j1 kj6 l0 (bt257.1.toList != bt259.1.toList)) else (laws_FnMeanderCounts.j1 kj6 l0 true))))) = some r := by rw [if_neg (show ¬ (false = true) by decide)] at H; exact H
     clear H
     have H := H1
     clear H1
     replace H := Option.bind_eq_some_iff.mp H
     obtain ⟨t256, A160, H⟩ := H
     replace H : ((impl_RainbowOf.f t256).bind fun bt257 => ((spec_RainbowOf.f kj6 t256).bind fun bt259 => (if bt257.2 = bt259.2 then (laws_FnMeanderCounts.j1 kj6 l0 (bt257.1.toList != bt259.1.toList)) else (laws_FnMeanderCounts.j1 kj6 l0 true)))) = some r := H
     have A16 := Aside0.mk A160
     clear A160
     replace H := Option.bind_eq_some_iff.mp H
     obtain ⟨⟨t257, t258⟩, A170, H⟩ := H
     replace H : ((spec_RainbowOf.f kj6 t256).bind fun bt259 => (if t258 = bt259.2 then (laws_FnMeanderCounts.j1 kj6 l0 (t257.toList != bt259.1.toList)) else (laws_FnMeanderCounts.j1 kj6 l0 true))) = some r := H
     have A17 := Aside0.mk A170
     clear A170
     replace H := Option.bind_eq_some_iff.mp H
     obtain ⟨⟨t259, t260⟩, A180, H⟩ := H
     replace H : (if t258 = t260 then (laws_FnMeanderCounts.j1 kj6 l0 (t257.toList != t259.toList)) else (laws_FnMeanderCounts.j1 kj6 l0 true)) = some r := H
     have A18 := Aside0.mk A180
     clear A180
     have HC19 := Aside0.mk H
     clear H
     go_upto_region 11 with (first | (go_at_call 12; (with_reducible refine (spec_DrawRainbowOf.calls kj6 _ _ l0 t256 _ ?side1 ?side2 A16.out).mono ?_); (case side1 => repeat (first | exact (Kd.C_below HR0.out HB.out) | (with_reducible refine Kd.C_alloc ?_ _) | (with_reducible refine Kd.C_drewN ?_ _) | (with_reducible refine Kd.C_drew ?_))); (case side2 => exact HC0.out); rintro e w20 ⟨rfl, hb⟩; have n0_ := Aside0.mk (below_step (by repeat (first | (with_reducible first | exact HB.out | apply below_alloc | apply pw_below_drewN | apply below_drew1) | exact HB.out)) hb); clear HB; have HB := n0_; clear n0_; (try clear hb); (try clear hb2); (try clear hk); (try clear hi)) | (go_at_call 13; (with_reducible refine (impl_RainbowOf.calls t256 t257 t258 _ A17.out).mono ?_); rintro e w21 ⟨rfl, hb⟩; have n0_ := Aside0.mk (below_step (by repeat (first | (with_reducible first | exact HB.out | apply below_alloc | apply pw_below_drewN | apply below_drew1) | exact HB.out)) hb); clear HB; have HB := n0_; clear n0_; (try clear hb); (try clear hb2); (try clear hk); (try clear hi)) | (go_at_call 14; (with_reducible refine (spec_RainbowOf.calls kj6 t256 t259 t260 _ A18.out).mono ?_); rintro e w22 ⟨rfl, hb⟩; have n0_ := Aside0.mk (below_step (by repeat (first | (with_reducible first | exact HB.out | apply below_alloc | apply pw_below_drewN | apply below_drew1) | exact HB.out)) hb); clear HB; have HB := n0_; clear n0_; (try clear hb); (try clear hb2); (try clear hk); (try clear hi)))
     repeat (go_quiet (first | (go_at_call 12; (with_reducible refine (spec_DrawRainbowOf.calls kj6 _ _ l0 t256 _ ?side1 ?side2 A16.out).mono ?_); (case side1 => repeat (first | exact (Kd.C_below HR0.out HB.out) | (with_reducible refine Kd.C_alloc ?_ _) | (with_reducible refine Kd.C_drewN ?_ _) | (with_reducible refine Kd.C_drew ?_))); (case side2 => exact HC0.out); rintro e w20 ⟨rfl, hb⟩; have n0_ := Aside0.mk (below_step (by repeat (first | (with_reducible first | exact HB.out | apply below_alloc | apply pw_below_drewN | apply below_drew1) | exact HB.out)) hb); clear HB; have HB := n0_; clear n0_; (try clear hb); (try clear hb2); (try clear hk); (try clear hi)) | (go_at_call 13; (with_reducible refine (impl_RainbowOf.calls t256 t257 t258 _ A17.out).mono ?_); rintro e w21 ⟨rfl, hb⟩; have n0_ := Aside0.mk (below_step (by repeat (first | (with_reducible first | exact HB.out | apply below_alloc | apply pw_below_drewN | apply below_drew1) | exact HB.out)) hb); clear HB; have HB := n0_; clear n0_; (try clear hb); (try clear hb2); (try clear hk); (try clear hi)) | (go_at_call 14; (with_reducible refine (spec_RainbowOf.calls kj6 t256 t259 t260 _ A18.out).mono ?_); rintro e w22 ⟨rfl, hb⟩; have n0_ := Aside0.mk (below_step (by repeat (first | (with_reducible first | exact HB.out | apply below_alloc | apply pw_below_drewN | apply below_drew1) | exact HB.out)) hb); clear HB; have HB := n0_; clear n0_; (try clear hb); (try clear hb2); (try clear hk); (try clear hi))); go_upto_region 11 with (first | (go_at_call 12; (with_reducible refine (spec_DrawRainbowOf.calls kj6 _ _ l0 t256 _ ?side1 ?side2 A16.out).mono ?_); (case side1 => repeat (first | exact (Kd.C_below HR0.out HB.out) | (with_reducible refine Kd.C_alloc ?_ _) | (with_reducible refine Kd.C_drewN ?_ _) | (with_reducible refine Kd.C_drew ?_))); (case side2 => exact HC0.out); rintro e w20 ⟨rfl, hb⟩; have n0_ := Aside0.mk (below_step (by repeat (first | (with_reducible first | exact HB.out | apply below_alloc | apply pw_below_drewN | apply below_drew1) | exact HB.out)) hb); clear HB; have HB := n0_; clear n0_; (try clear hb); (try clear hb2); (try clear hk); (try clear hi)) | (go_at_call 13; (with_reducible refine (impl_RainbowOf.calls t256 t257 t258 _ A17.out).mono ?_); rintro e w21 ⟨rfl, hb⟩; have n0_ := Aside0.mk (below_step (by repeat (first | (with_reducible first | exact HB.out | apply below_alloc | apply pw_below_drewN | apply below_drew1) | exact HB.out)) hb); clear HB; have HB := n0_; clear n0_; (try clear hb); (try clear hb2); (try clear hk); (try clear hi)) | (go_at_call 14; (with_reducible refine (spec_RainbowOf.calls kj6 t256 t259 t260 _ A18.out).mono ?_); rintro e w22 ⟨rfl, hb⟩; have n0_ := Aside0.mk (below_step (by repeat (first | (with_reducible first | exact HB.out | apply below_alloc | apply pw_below_drewN | apply below_drew1) | exact HB.out)) hb); clear HB; have HB := n0_; clear n0_; (try clear hb); (try clear hb2); (try clear hk); (try clear hi))))
     (try simp only [Act.put, List.setIfInBounds_toArray, List.set_cons_zero, List.set_cons_succ])
     go_cut [81] (fun v81 wc => ∃ (kq : Nat) (x81_18 : Bool), v81 = .bool x81_18 ∧ Aside0 (laws_FnMeanderCounts.j1 kq l0 x81_18 = some r) ∧ Aside0 (kq ≤ kj6) ∧ Aside0 (Below w.heap.size w wc))
     case first => as_aux_lemma =>
      have H := HC19.out
      clear HC19
      by_cases c23 : t258 = t260
      ·rw [if_pos c23] at H
       have c23b0 : (t258 == t260) = true := beq_iff_eq.mpr c23
       have c23b1 : (t258 != t260) = false := bne_eq_false_iff_eq.mpr c23
       clear c23
       (first | rw [c23b0] | (simp only [i64_w, i32_w]; rw [c23b0]) | skip)
       have H' := Aside0.mk H
       clear H
       go_wp2
       repeat (go_quiet (fail); try go_wp2)
       go_meet
       case rel => exact ⟨_, ((t257.toList != t259.toList)), (by first | rfl | (simp; done) | (simp [*]; done)), H', ⟨by have := HJ6.out; first | omega | exact Nat.le_refl _⟩, ⟨by repeat (first | (with_reducible first | exact HB.out | apply below_alloc | apply pw_below_drewN | apply below_drew1) | exact HB.out)⟩⟩
      ·rw [if_neg c23] at H
       have c23b0 : (t258 == t260) = false := beq_eq_false_iff_ne.mpr c23
       have c23b1 : (t258 != t260) = true := bne_iff_ne.mpr c23
       (first | rw [c23b0] | (simp only [i64_w, i32_w]; rw [c23b0]) | skip)
       have H' := Aside0.mk H
       clear H
       go_wp2
       repeat (go_quiet (fail); try go_wp2)
       go_meet
       case rel => exact ⟨_, (true), (by first | rfl | (simp; done) | (simp [*]; done)), H', ⟨by have := HJ6.out; first | omega | exact Nat.le_refl _⟩, ⟨by repeat (first | (with_reducible first | exact HB.out | apply below_alloc | apply pw_below_drewN | apply below_drew1) | exact HB.out)⟩⟩
     case rest => as_aux_lemma =>
      clear HC19
      try clear c1
      try clear c2
      try clear p2
      try clear c3
      try clear c4
      try clear c11
      try clear c11b0
      try clear c11b1
      try clear c15
      try clear c23
      try clear c23b0
      try clear c23b1
      try clear p2
      obtain ⟨kq, x81_18, rfl, HA, HJ18, HB⟩ := hcut
      cases kq with
      | zero => exact absurd HA.out (by simp [laws_FnMeanderCounts.j1])
      | succ kj18 =>
       have H := HA.out
       clear HA
       simp only [laws_FnMeanderCounts.j1] at H
       by_cases c24 : x81_18 = true
       ·subst c24
        have H1 : (some false) = some r := by rw [if_pos rfl] at H; exact H
        clear H
        have H := H1
        clear H1
        obtain rfl := Option.some.inj H
        go_wp2
        repeat (go_quiet (fail); try go_wp2)
        go_ret
        exact ⟨by first | rfl | (simp [errW_none, errW_some] <;> rfl) | (simp [*, errW_none, errW_some] <;> rfl), by repeat (first | (with_reducible first | exact HB.out | apply below_alloc | apply pw_below_drewN | apply below_drew1) | exact HB.out)⟩
       ·replace c24 := Bool.eq_false_iff.mpr c24
        subst c24
        have H1 : ((spec_DrawComponentTable.f kj18 l0).bind fun t261 => ((impl_ComponentTable.f kj18 t261).bind fun bt262 => ((spec_ComponentTable.f kj18 t261).bind fun bt266 => (if bt262.2 = bt266.2 then ((laws_lists9.f kj18 bt262.1 bt266.1).bind fun t270 => (laws_FnMeanderCounts.j2 kj18 l0 t261 bt262.1 (!t270))) else (laws_FnMeanderCounts.j2 kj18 l0 t261 bt262.1 true))))) = some r := by rw [if_neg (show ¬ (false = true) by decide)] at H; exact H
        clear H
        have H := H1
        clear H1
        replace H := Option.bind_eq_some_iff.mp H
        obtain ⟨t261, A250, H⟩ := H
        replace H : ((impl_ComponentTable.f kj18 t261).bind fun bt262 => ((spec_ComponentTable.f kj18 t261).bind fun bt266 => (if bt262.2 = bt266.2 then ((laws_lists9.f kj18 bt262.1 bt266.1).bind fun t270 => (laws_FnMeanderCounts.j2 kj18 l0 t261 bt262.1 (!t270))) else (laws_FnMeanderCounts.j2 kj18 l0 t261 bt262.1 true)))) = some r := H
        have A25 := Aside0.mk A250
        clear A250
        replace H := Option.bind_eq_some_iff.mp H
        obtain ⟨⟨t262, t263⟩, A260, H⟩ := H
        replace H : ((spec_ComponentTable.f kj18 t261).bind fun bt266 => (if t263 = bt266.2 then ((laws_lists9.f kj18 t262 bt266.1).bind fun t270 => (laws_FnMeanderCounts.j2 kj18 l0 t261 t262 (!t270))) else (laws_FnMeanderCounts.j2 kj18 l0 t261 t262 true))) = some r := H
        have A26 := Aside0.mk A260
        clear A260
        replace H := Option.bind_eq_some_iff.mp H
        obtain ⟨⟨t266, t267⟩, A270, H⟩ := H
        replace H : (if t263 = t267 then ((laws_lists9.f kj18 t262 t266).bind fun t270 => (laws_FnMeanderCounts.j2 kj18 l0 t261 t262 (!t270))) else (laws_FnMeanderCounts.j2 kj18 l0 t261 t262 true)) = some r := H
        have A27 := Aside0.mk A270
        clear A270
        have HC28 := Aside0.mk H
        clear H
        go_upto_region 16 with (first | (go_at_call 15; (with_reducible refine (spec_DrawComponentTable.calls kj18 _ _ l0 t261 _ ?side1 ?side2 A25.out).mono ?_); (case side1 => repeat (first | exact (Kd.C_below HR0.out HB.out) | (with_reducible refine Kd.C_alloc ?_ _) | (with_reducible refine Kd.C_drewN ?_ _) | (with_reducible refine Kd.C_drew ?_))); (case side2 => exact HC0.out); rintro e w29 ⟨rfl, hb⟩; have n0_ := Aside0.mk (below_step (by repeat (first | (with_reducible first | exact HB.out | apply below_alloc | apply pw_below_drewN | apply below_drew1) | exact HB.out)) hb); clear HB; have HB := n0_; clear n0_; (try clear hb); (try clear hb2); (try clear hk); (try clear hi)) | (go_at_call 16; (with_reducible refine (impl_ComponentTable.calls kj18 t261 t262 t263 _ A26.out).mono ?_); rintro e w30 ⟨v264, rfl, ho0, hb⟩; have n0_ := Aside0.mk (Kd.S_lower ho0 (below_size (by repeat (first | (with_reducible first | exact HB.out | apply below_alloc | apply pw_below_drewN | apply below_drew1) | exact HB.out)))); have n1_ := Aside0.mk (below_step (by repeat (first | (with_reducible first | exact HB.out | apply below_alloc | apply pw_below_drewN | apply below_drew1) | exact HB.out)) hb); clear HB; have HO265 := n0_; have HB := n1_; clear n0_ n1_; (try clear hb); (try clear hb2); (try clear hk); (try clear hi); (try clear ho0)) | (go_at_call 17; (with_reducible refine (spec_ComponentTable.calls kj18 t261 t266 t267 _ A27.out).mono ?_); rintro e w31 ⟨v268, rfl, ho0, hb⟩; have n0_ := Aside0.mk (Kd.S_elder' (by (with_reducible repeat (first | apply Kd.S_alloc | apply Kd.S_drewN | apply Kd.S_drew)); exact HO265.out) (Kd.S_base ho0) hb); have n1_ := Aside0.mk (Kd.S_lower (Kd.S_new' ho0 (Kd.S_lt (by (with_reducible repeat (first | apply Kd.S_alloc | apply Kd.S_drewN | apply Kd.S_drew)); exact HO265.out))) (below_size (by repeat (first | (with_reducible first | exact HB.out | apply below_alloc | apply pw_below_drewN | apply below_drew1) | exact HB.out)))); have n2_ := Aside0.mk (below_step (by repeat (first | (with_reducible first | exact HB.out | apply below_alloc | apply pw_below_drewN | apply below_drew1) | exact HB.out)) hb); clear HO265; clear HB; have HO265 := n0_; have HO269 := n1_; have HB := n2_; clear n0_ n1_ n2_; (try clear hb); (try clear hb2); (try clear hk); (try clear hi); (try clear ho0)))
        repeat (go_quiet (first | (go_at_call 15; (with_reducible refine (spec_DrawComponentTable.calls kj18 _ _ l0 t261 _ ?side1 ?side2 A25.out).mono ?_); (case side1 => repeat (first | exact (Kd.C_below HR0.out HB.out) | (with_reducible refine Kd.C_alloc ?_ _) | (with_reducible refine Kd.C_drewN ?_ _) | (with_reducible refine Kd.C_drew ?_))); (case side2 => exact HC0.out); rintro e w29 ⟨rfl, hb⟩; have n0_ := Aside0.mk (below_step (by repeat (first | (with_reducible first | exact HB.out | apply below_alloc | apply pw_below_drewN | apply below_drew1) | exact HB.out)) hb); clear HB; have HB := n0_; clear n0_; (try clear hb); (try clear hb2); (try clear hk); (try clear hi)) | (go_at_call 16; (with_reducible refine (impl_ComponentTable.calls kj18 t261 t262 t263 _ A26.out).mono ?_); rintro e w30 ⟨v264, rfl, ho0, hb⟩; have n0_ := Aside0.mk (Kd.S_lower ho0 (below_size (by repeat (first | (with_reducible first | exact HB.out | apply below_alloc | apply pw_below_drewN | apply below_drew1) | exact HB.out)))); have n1_ := Aside0.mk (below_step (by repeat (first | (with_reducible first | exact HB.out | apply below_alloc | apply pw_below_drewN | apply below_drew1) | exact HB.out)) hb); clear HB; have HO265 := n0_; have HB := n1_; clear n0_ n1_; (try clear hb); (try clear hb2); (try clear hk); (try clear hi); (try clear ho0)) | (go_at_call 17; (with_reducible refine (spec_ComponentTable.calls kj18 t261 t266 t267 _ A27.out).mono ?_); rintro e w31 ⟨v268, rfl, ho0, hb⟩; have n0_ := Aside0.mk (Kd.S_elder' (by (with_reducible repeat (first | apply Kd.S_alloc | apply Kd.S_drewN | apply Kd.S_drew)); exact HO265.out) (Kd.S_base ho0) hb); have n1_ := Aside0.mk (Kd.S_lower (Kd.S_new' ho0 (Kd.S_lt (by (with_reducible repeat (first | apply Kd.S_alloc | apply Kd.S_drewN | apply Kd.S_drew)); exact HO265.out))) (below_size (by repeat (first | (with_reducible first | exact HB.out | apply below_alloc | apply pw_below_drewN | apply below_drew1) | exact HB.out)))); have n2_ := Aside0.mk (below_step (by repeat (first | (with_reducible first | exact HB.out | apply below_alloc | apply pw_below_drewN | apply below_drew1) | exact HB.out)) hb); clear HO265; clear HB; have HO265 := n0_; have HO269 := n1_; have HB := n2_; clear n0_ n1_ n2_; (try clear hb); (try clear hb2); (try clear hk); (try clear hi); (try clear ho0))); go_upto_region 16 with (first | (go_at_call 15; (with_reducible refine (spec_DrawComponentTable.calls kj18 _ _ l0 t261 _ ?side1 ?side2 A25.out).mono ?_); (case side1 => repeat (first | exact (Kd.C_below HR0.out HB.out) | (with_reducible refine Kd.C_alloc ?_ _) | (with_reducible refine Kd.C_drewN ?_ _) | (with_reducible refine Kd.C_drew ?_))); (case side2 => exact HC0.out); rintro e w29 ⟨rfl, hb⟩; have n0_ := Aside0.mk (below_step (by repeat (first | (with_reducible first | exact HB.out | apply below_alloc | apply pw_below_drewN | apply below_drew1) | exact HB.out)) hb); clear HB; have HB := n0_; clear n0_; (try clear hb); (try clear hb2); (try clear hk); (try clear hi)) | (go_at_call 16; (with_reducible refine (impl_ComponentTable.calls kj18 t261 t262 t263 _ A26.out).mono ?_); rintro e w30 ⟨v264, rfl, ho0, hb⟩; have n0_ := Aside0.mk (Kd.S_lower ho0 (below_size (by repeat (first | (with_reducible first | exact HB.out | apply below_alloc | apply pw_below_drewN | apply below_drew1) | exact HB.out)))); have n1_ := Aside0.mk (below_step (by repeat (first | (with_reducible first | exact HB.out | apply below_alloc | apply pw_below_drewN | apply below_drew1) | exact HB.out)) hb); clear HB; have HO265 := n0_; have HB := n1_; clear n0_ n1_; (try clear hb); (try clear hb2); (try clear hk); (try clear hi); (try clear ho0)) | (go_at_call 17; (with_reducible refine (spec_ComponentTable.calls kj18 t261 t266 t267 _ A27.out).mono ?_); rintro e w31 ⟨v268, rfl, ho0, hb⟩; have n0_ := Aside0.mk (Kd.S_elder' (by (with_reducible repeat (first | apply Kd.S_alloc | apply Kd.S_drewN | apply Kd.S_drew)); exact HO265.out) (Kd.S_base ho0) hb); have n1_ := Aside0.mk (Kd.S_lower (Kd.S_new' ho0 (Kd.S_lt (by (with_reducible repeat (first | apply Kd.S_alloc | apply Kd.S_drewN | apply Kd.S_drew)); exact HO265.out))) (below_size (by repeat (first | (with_reducible first | exact HB.out | apply below_alloc | apply pw_below_drewN | apply below_drew1) | exact HB.out)))); have n2_ := Aside0.mk (below_step (by repeat (first | (with_reducible first | exact HB.out | apply below_alloc | apply pw_below_drewN | apply below_drew1) | exact HB.out)) hb); clear HO265; clear HB; have HO265 := n0_; have HO269 := n1_; have HB := n2_; clear n0_ n1_ n2_; (try clear hb); (try clear hb2); (try clear hk); (try clear hi); (try clear ho0))))
        (try simp only [Act.put, List.setIfInBounds_toArray, List.set_cons_zero, List.set_cons_succ])
        go_cut [102] (fun v102 wc => ∃ (kq : Nat) (x102_27 : Bool), v102 = .bool x102_27 ∧ Aside0 (laws_FnMeanderCounts.j2 kq l0 t261 t262 x102_27 = some r) ∧ Aside0 (kq ≤ kj18) ∧ Aside0 (Kd.S (Kd.slice 2 (Kd.int .i64)) 40 wc w.heap.size (fun _ => True) v264 t262) ∧ Aside0 (Below w.heap.size w wc))
        case first => as_aux_lemma =>
         have H := HC28.out
         clear HC28
         by_cases c32 : t263 = t267
         ·rw [if_pos c32] at H
          have c32b0 : (t263 == t267) = true := beq_iff_eq.mpr c32
          have c32b1 : (t263 != t267) = false := bne_eq_false_iff_eq.mpr c32
          clear c32
          (first | rw [c32b0] | (simp only [i64_w, i32_w]; rw [c32b0]) | skip)
          replace H := Option.bind_eq_some_iff.mp H
          obtain ⟨t270, A330, H⟩ := H
          replace H : (laws_FnMeanderCounts.j2 kj18 l0 t261 t262 (!t270)) = some r := H
          have A33 := Aside0.mk A330
          clear A330
          have H' := Aside0.mk H
          clear H
          obtain ⟨Ao34, co34, eo34⟩ := Kd.S_slice HO265.out
          subst eo34
          obtain ⟨Ao35, co35, eo35⟩ := Kd.S_slice HO269.out
          subst eo35
          go_wp2_with (first | (go_at_call 18; (with_reducible refine (laws_lists9.calls kj18 _ _ t262 _ _ t266 t270 _ ?side1 ?side2 ?side3 ?side4 A33.out).mono ?_); (case side1 => repeat (first | exact (Kd.S_reads' HO265.out).2.2 | (with_reducible refine Kd.C_alloc ?_ _) | (with_reducible refine Kd.C_drewN ?_ _) | (with_reducible refine Kd.C_drew ?_))); (case side2 => exact (Kd.S_reads' HO265.out).2.1); (case side3 => repeat (first | exact (Kd.S_reads' HO269.out).2.2 | (with_reducible refine Kd.C_alloc ?_ _) | (with_reducible refine Kd.C_drewN ?_ _) | (with_reducible refine Kd.C_drew ?_))); (case side4 => exact (Kd.S_reads' HO269.out).2.1); rintro e w' ⟨rfl, ⟨nd, rfl⟩⟩; (try first | exact ⟨rfl, _, World.drewN_drewN _ _ _⟩ | exact ⟨rfl, _, Eq.trans (World.drewN_drewN _ _ _) (congrArg (World.drewN _) (Nat.add_assoc _ _ _))⟩)))
          repeat (go_quiet (first | (go_at_call 18; (with_reducible refine (laws_lists9.calls kj18 _ _ t262 _ _ t266 t270 _ ?side1 ?side2 ?side3 ?side4 A33.out).mono ?_); (case side1 => repeat (first | exact (Kd.S_reads' HO265.out).2.2 | (with_reducible refine Kd.C_alloc ?_ _) | (with_reducible refine Kd.C_drewN ?_ _) | (with_reducible refine Kd.C_drew ?_))); (case side2 => exact (Kd.S_reads' HO265.out).2.1); (case side3 => repeat (first | exact (Kd.S_reads' HO269.out).2.2 | (with_reducible refine Kd.C_alloc ?_ _) | (with_reducible refine Kd.C_drewN ?_ _) | (with_reducible refine Kd.C_drew ?_))); (case side4 => exact (Kd.S_reads' HO269.out).2.1); rintro e w' ⟨rfl, ⟨nd, rfl⟩⟩; (try first | exact ⟨rfl, _, World.drewN_drewN _ _ _⟩ | exact ⟨rfl, _, Eq.trans (World.drewN_drewN _ _ _) (congrArg (World.drewN _) (Nat.add_assoc _ _ _))⟩))); try go_wp2_with (first | (go_at_call 18; (with_reducible refine (laws_lists9.calls kj18 _ _ t262 _ _ t266 t270 _ ?side1 ?side2 ?side3 ?side4 A33.out).mono ?_); (case side1 => repeat (first | exact (Kd.S_reads' HO265.out).2.2 | (with_reducible refine Kd.C_alloc ?_ _) | (with_reducible refine Kd.C_drewN ?_ _) | (with_reducible refine Kd.C_drew ?_))); (case side2 => exact (Kd.S_reads' HO265.out).2.1); (case side3 => repeat (first | exact (Kd.S_reads' HO269.out).2.2 | (with_reducible refine Kd.C_alloc ?_ _) | (with_reducible refine Kd.C_drewN ?_ _) | (with_reducible refine Kd.C_drew ?_))); (case side4 => exact (Kd.S_reads' HO269.out).2.1); rintro e w' ⟨rfl, ⟨nd, rfl⟩⟩; (try first | exact ⟨rfl, _, World.drewN_drewN _ _ _⟩ | exact ⟨rfl, _, Eq.trans (World.drewN_drewN _ _ _) (congrArg (World.drewN _) (Nat.add_assoc _ _ _))⟩))))
          go_meet
          case rel => exact ⟨_, (!t270), (by first | rfl | (simp; done) | (simp [*]; done)), H', ⟨by have := HJ6.out; have := HJ18.out; first | omega | exact Nat.le_refl _⟩, ⟨by (with_reducible repeat (first | apply Kd.S_alloc | apply Kd.S_drewN | apply Kd.S_drew)); exact Kd.S_mono HO265.out (fun _ hk => trivial)⟩, ⟨by repeat (first | (with_reducible first | exact HB.out | apply below_alloc | apply pw_below_drewN | apply below_drew1) | exact HB.out)⟩⟩
         ·rw [if_neg c32] at H
          have c32b0 : (t263 == t267) = false := beq_eq_false_iff_ne.mpr c32
          have c32b1 : (t263 != t267) = true := bne_iff_ne.mpr c32
          (first | rw [c32b0] | (simp only [i64_w, i32_w]; rw [c32b0]) | skip)
          have H' := Aside0.mk H
          clear H
          go_wp2
          repeat (go_quiet (fail); try go_wp2)
          go_meet
          case rel => exact ⟨_, (true), (by first | rfl | (simp; done) | (simp [*]; done)), H', ⟨by have := HJ6.out; have := HJ18.out; first | omega | exact Nat.le_refl _⟩, ⟨by (with_reducible repeat (first | apply Kd.S_alloc | apply Kd.S_drewN | apply Kd.S_drew)); exact Kd.S_mono HO265.out (fun _ hk => trivial)⟩, ⟨by repeat (first | (with_reducible first | exact HB.out | apply below_alloc | apply pw_below_drewN | apply below_drew1) | exact HB.out)⟩⟩
        case rest => as_aux_lemma =>
         clear HC28
         try clear c1
         try clear c2
         try clear p2
         try clear c3
         try clear c4
         try clear c11
         try clear c11b0
         try clear c11b1
         try clear c15
         try clear c23
         try clear c23b0
         try clear c23b1
         try clear c24
         try clear c32
         try clear c32b0
         try clear c32b1
         try clear p2
         obtain ⟨kq, x102_27, rfl, HA, HJ27, HO_14, HB⟩ := hcut
         cases kq with
         | zero => exact absurd HA.out (by simp [laws_FnMeanderCounts.j2])
         | succ kj27 =>
          have H := HA.out
          clear HA
          simp only [laws_FnMeanderCounts.j2] at H
          by_cases c36 : x102_27 = true
          ·subst c36
           have H1 : (some false) = some r := by rw [if_pos rfl] at H; exact H
           clear H
           have H := H1
           clear H1
           obtain rfl := Option.some.inj H
           go_wp2
           repeat (go_quiet (fail); try go_wp2)
           go_ret
           exact ⟨by first | rfl | (simp [errW_none, errW_some] <;> rfl) | (simp [*, errW_none, errW_some] <;> rfl), by repeat (first | (with_reducible first | exact HB.out | apply below_alloc | apply pw_below_drewN | apply below_drew1) | exact HB.out)⟩
          ·replace c36 := Bool.eq_false_iff.mpr c36
           subst c36
           have H1 : ((spec_DrawComponentDeterminant.f kj27 l0).bind fun bt271 => ((impl_ComponentDeterminant.f bt271.1 bt271.2.1 bt271.2.2).bind fun bt274 => ((spec_ComponentDeterminant.f bt271.1 bt271.2.1 bt271.2.2).bind fun bt276 => (if bt274.2 = bt276.2 then (laws_FnMeanderCounts.j3 kj27 l0 t261 t262 (bt274.1 != bt276.1)) else (laws_FnMeanderCounts.j3 kj27 l0 t261 t262 true))))) = some r := by rw [if_neg (show ¬ (false = true) by decide)] at H; exact H
           clear H
           have H := H1
           clear H1
           replace H := Option.bind_eq_some_iff.mp H
           obtain ⟨⟨t271, t272, t273⟩, A370, H⟩ := H
           replace H : ((impl_ComponentDeterminant.f t271 t272 t273).bind fun bt274 => ((spec_ComponentDeterminant.f t271 t272 t273).bind fun bt276 => (if bt274.2 = bt276.2 then (laws_FnMeanderCounts.j3 kj27 l0 t261 t262 (bt274.1 != bt276.1)) else (laws_FnMeanderCounts.j3 kj27 l0 t261 t262 true)))) = some r := H
           have A37 := Aside0.mk A370
           clear A370
           replace H := Option.bind_eq_some_iff.mp H
           obtain ⟨⟨t274, t275⟩, A380, H⟩ := H
           replace H : ((spec_ComponentDeterminant.f t271 t272 t273).bind fun bt276 => (if t275 = bt276.2 then (laws_FnMeanderCounts.j3 kj27 l0 t261 t262 (t274 != bt276.1)) else (laws_FnMeanderCounts.j3 kj27 l0 t261 t262 true))) = some r := H
           have A38 := Aside0.mk A380
           clear A380
           replace H := Option.bind_eq_some_iff.mp H
           obtain ⟨⟨t276, t277⟩, A390, H⟩ := H
           replace H : (if t275 = t277 then (laws_FnMeanderCounts.j3 kj27 l0 t261 t262 (t274 != t276)) else (laws_FnMeanderCounts.j3 kj27 l0 t261 t262 true)) = some r := H
           have A39 := Aside0.mk A390
           clear A390
           have HC40 := Aside0.mk H
           clear H
           go_upto_region 21 with (first | (go_at_call 19; (with_reducible refine (spec_DrawComponentDeterminant.calls kj27 _ _ l0 t271 t272 t273 _ ?side1 ?side2 A37.out).mono ?_); (case side1 => repeat (first | exact (Kd.C_below HR0.out HB.out) | (with_reducible refine Kd.C_alloc ?_ _) | (with_reducible refine Kd.C_drewN ?_ _) | (with_reducible refine Kd.C_drew ?_))); (case side2 => exact HC0.out); rintro e w41 ⟨rfl, hb⟩; have n0_ := Aside0.mk (Kd.S_below (by (with_reducible repeat (first | apply Kd.S_alloc | apply Kd.S_drewN | apply Kd.S_drew)); exact HO_14.out) hb); have n1_ := Aside0.mk (below_step (by repeat (first | (with_reducible first | exact HB.out | apply below_alloc | apply pw_below_drewN | apply below_drew1) | exact HB.out)) hb); clear HO_14; clear HB; have HO_14 := n0_; have HB := n1_; clear n0_ n1_; (try clear hb); (try clear hb2); (try clear hk); (try clear hi)) | (go_at_call 6; (with_reducible refine (impl_ComponentDeterminant.calls t271 t272 t273 t274 t275 _ A38.out).mono ?_); rintro e w42 ⟨rfl, hb⟩; have n0_ := Aside0.mk (Kd.S_below (by (with_reducible repeat (first | apply Kd.S_alloc | apply Kd.S_drewN | apply Kd.S_drew)); exact HO_14.out) hb); have n1_ := Aside0.mk (below_step (by repeat (first | (with_reducible first | exact HB.out | apply below_alloc | apply pw_below_drewN | apply below_drew1) | exact HB.out)) hb); clear HO_14; clear HB; have HO_14 := n0_; have HB := n1_; clear n0_ n1_; (try clear hb); (try clear hb2); (try clear hk); (try clear hi)) | (go_at_call 5; (with_reducible refine (spec_ComponentDeterminant.calls t271 t272 t273 t276 t277 _ A39.out).mono ?_); rintro e w43 ⟨rfl, hb⟩; have n0_ := Aside0.mk (Kd.S_below (by (with_reducible repeat (first | apply Kd.S_alloc | apply Kd.S_drewN | apply Kd.S_drew)); exact HO_14.out) hb); have n1_ := Aside0.mk (below_step (by repeat (first | (with_reducible first | exact HB.out | apply below_alloc | apply pw_below_drewN | apply below_drew1) | exact HB.out)) hb); clear HO_14; clear HB; have HO_14 := n0_; have HB := n1_; clear n0_ n1_; (try clear hb); (try clear hb2); (try clear hk); (try clear hi)))
           repeat (go_quiet (first | (go_at_call 19; (with_reducible refine (spec_DrawComponentDeterminant.calls kj27 _ _ l0 t271 t272 t273 _ ?side1 ?side2 A37.out).mono ?_); (case side1 => repeat (first | exact (Kd.C_below HR0.out HB.out) | (with_reducible refine Kd.C_alloc ?_ _) | (with_reducible refine Kd.C_drewN ?_ _) | (with_reducible refine Kd.C_drew ?_))); (case side2 => exact HC0.out); rintro e w41 ⟨rfl, hb⟩; have n0_ := Aside0.mk (Kd.S_below (by (with_reducible repeat (first | apply Kd.S_alloc | apply Kd.S_drewN | apply Kd.S_drew)); exact HO_14.out) hb); have n1_ := Aside0.mk (below_step (by repeat (first | (with_reducible first | exact HB.out | apply below_alloc | apply pw_below_drewN | apply below_drew1) | exact HB.out)) hb); clear HO_14; clear HB; have HO_14 := n0_; have HB := n1_; clear n0_ n1_; (try clear hb); (try clear hb2); (try clear hk); (try clear hi)) | (go_at_call 6; (with_reducible refine (impl_ComponentDeterminant.calls t271 t272 t273 t274 t275 _ A38.out).mono ?_); rintro e w42 ⟨rfl, hb⟩; have n0_ := Aside0.mk (Kd.S_below (by (with_reducible repeat (first | apply Kd.S_alloc | apply Kd.S_drewN | apply Kd.S_drew)); exact HO_14.out) hb); have n1_ := Aside0.mk (below_step (by repeat (first | (with_reducible first | exact HB.out | apply below_alloc | apply pw_below_drewN | apply below_drew1) | exact HB.out)) hb); clear HO_14; clear HB; have HO_14 := n0_; have HB := n1_; clear n0_ n1_; (try clear hb); (try clear hb2); (try clear hk); (try clear hi)) | (go_at_call 5; (with_reducible refine (spec_ComponentDeterminant.calls t271 t272 t273 t276 t277 _ A39.out).mono ?_); rintro e w43 ⟨rfl, hb⟩; have n0_ := Aside0.mk (Kd.S_below (by (with_reducible repeat (first | apply Kd.S_alloc | apply Kd.S_drewN | apply Kd.S_drew)); exact HO_14.out) hb); have n1_ := Aside0.mk (below_step (by repeat (first | (with_reducible first | exact HB.out | apply below_alloc | apply pw_below_drewN | apply below_drew1) | exact HB.out)) hb); clear HO_14; clear HB; have HO_14 := n0_; have HB := n1_; clear n0_ n1_; (try clear hb); (try clear hb2); (try clear hk); (try clear hi))); go_upto_region 21 with (first | (go_at_call 19; (with_reducible refine (spec_DrawComponentDeterminant.calls kj27 _ _ l0 t271 t272 t273 _ ?side1 ?side2 A37.out).mono ?_); (case side1 => repeat (first | exact (Kd.C_below HR0.out HB.out) | (with_reducible refine Kd.C_alloc ?_ _) | (with_reducible refine Kd.C_drewN ?_ _) | (with_reducible refine Kd.C_drew ?_))); (case side2 => exact HC0.out); rintro e w41 ⟨rfl, hb⟩; have n0_ := Aside0.mk (Kd.S_below (by (with_reducible repeat (first | apply Kd.S_alloc | apply Kd.S_drewN | apply Kd.S_drew)); exact HO_14.out) hb); have n1_ := Aside0.mk (below_step (by repeat (first | (with_reducible first | exact HB.out | apply below_alloc | apply pw_below_drewN | apply below_drew1) | exact HB.out)) hb); clear HO_14; clear HB; have HO_14 := n0_; have HB := n1_; clear n0_ n1_; (try clear hb); (try clear hb2); (try clear hk); (try clear hi)) | (go_at_call 6; (with_reducible refine (impl_ComponentDeterminant.calls t271 t272 t273 t274 t275 _ A38.out).mono ?_); rintro e w42 ⟨rfl, hb⟩; have n0_ := Aside0.mk (Kd.S_below (by (with_reducible repeat (first | apply Kd.S_alloc | apply Kd.S_drewN | apply Kd.S_drew)); exact HO_14.out) hb); have n1_ := Aside0.mk (below_step (by repeat (first | (with_reducible first | exact HB.out | apply below_alloc | apply pw_below_drewN | apply below_drew1) | exact HB.out)) hb); clear HO_14; clear HB; have HO_14 := n0_; have HB := n1_; clear n0_ n1_; (try clear hb); (try clear hb2); (try clear hk); (try clear hi)) | (go_at_call 5; (with_reducible refine (spec_ComponentDeterminant.calls t271 t272 t273 t276 t277 _ A39.out).mono ?_); rintro e w43 ⟨rfl, hb⟩; have n0_ := Aside0.mk (Kd.S_below (by (with_reducible repeat (first | apply Kd.S_alloc | apply Kd.S_drewN | apply Kd.S_drew)); exact HO_14.out) hb); have n1_ := Aside0.mk (below_step (by repeat (first | (with_reducible first | exact HB.out | apply below_alloc | apply pw_below_drewN | apply below_drew1) | exact HB.out)) hb); clear HO_14; clear HB; have HO_14 := n0_; have HB := n1_; clear n0_ n1_; (try clear hb); (try clear hb2); (try clear hk); (try clear hi))))
           (try simp only [Act.put, List.setIfInBounds_toArray, List.set_cons_zero, List.set_cons_succ])
           go_cut [130] (fun v130 wc => ∃ (kq : Nat) (x130_39 : Bool), v130 = .bool x130_39 ∧ Aside0 (laws_FnMeanderCounts.j3 kq l0 t261 t262 x130_39 = some r) ∧ Aside0 (kq ≤ kj27) ∧ Aside0 (Kd.S (Kd.slice 2 (Kd.int .i64)) 40 wc w.heap.size (fun _ => True) v264 t262) ∧ Aside0 (Below w.heap.size w wc))
           case first => as_aux_lemma =>
            have H := HC40.out
            clear HC40
            by_cases c44 : t275 = t277
            ·rw [if_pos c44] at H
             have c44b0 : (t275 == t277) = true := beq_iff_eq.mpr c44
             have c44b1 : (t275 != t277) = false := bne_eq_false_iff_eq.mpr c44
             clear c44
             (first | rw [c44b0] | (simp only [i64_w, i32_w]; rw [c44b0]) | skip)
             have H' := Aside0.mk H
             clear H
             go_wp2
             repeat (go_quiet (fail); try go_wp2)
             go_meet
             case rel => exact ⟨_, ((t274 != t276)), (by first | rfl | (simp; done) | (simp [*]; done)), H', ⟨by have := HJ6.out; have := HJ18.out; have := HJ27.out; first | omega | exact Nat.le_refl _⟩, ⟨by (with_reducible repeat (first | apply Kd.S_alloc | apply Kd.S_drewN | apply Kd.S_drew)); exact HO_14.out⟩, ⟨by repeat (first | (with_reducible first | exact HB.out | apply below_alloc | apply pw_below_drewN | apply below_drew1) | exact HB.out)⟩⟩
            ·rw [if_neg c44] at H
             have c44b0 : (t275 == t277) = false := beq_eq_false_iff_ne.mpr c44
             have c44b1 : (t275 != t277) = true := bne_iff_ne.mpr c44
             (first | rw [c44b0] | (simp only [i64_w, i32_w]; rw [c44b0]) | skip)
             have H' := Aside0.mk H
             clear H
             go_wp2
             repeat (go_quiet (fail); try go_wp2)
             go_meet
             case rel => exact ⟨_, (true), (by first | rfl | (simp; done) | (simp [*]; done)), H', ⟨by have := HJ6.out; have := HJ18.out; have := HJ27.out; first | omega | exact Nat.le_refl _⟩, ⟨by (with_reducible repeat (first | apply Kd.S_alloc | apply Kd.S_drewN | apply Kd.S_drew)); exact HO_14.out⟩, ⟨by repeat (first | (with_reducible first | exact HB.out | apply below_alloc | apply pw_below_drewN | apply below_drew1) | exact HB.out)⟩⟩
           case rest => as_aux_lemma =>
            clear HC40
            try clear c1
            try clear c2
            try clear p2
            try clear c3
            try clear c4
            try clear c11
            try clear c11b0
            try clear c11b1
            try clear c15
            try clear c23
            try clear c23b0
            try clear c23b1
            try clear c24
            try clear c32
            try clear c32b0
            try clear c32b1
            try clear c36
            try clear c44
            try clear c44b0
            try clear c44b1
            try clear p2
            obtain ⟨kq, x130_39, rfl, HA, HJ39, HO_14, HB⟩ := hcut
            cases kq with
            | zero => exact absurd HA.out (by simp [laws_FnMeanderCounts.j3])
            | succ kj39 =>
             have H := HA.out
             clear HA
             simp only [laws_FnMeanderCounts.j3] at H
             by_cases c45 : x130_39 = true
             ·subst c45
              have H1 : (some false) = some r := by rw [if_pos rfl] at H; exact H
              clear H
              have H := H1
              clear H1
              obtain rfl := Option.some.inj H
              go_wp2
              repeat (go_quiet (fail); try go_wp2)
              go_ret
              exact ⟨by first | rfl | (simp [errW_none, errW_some] <;> rfl) | (simp [*, errW_none, errW_some] <;> rfl), by repeat (first | (with_reducible first | exact HB.out | apply below_alloc | apply pw_below_drewN | apply below_drew1) | exact HB.out)⟩
             ·replace c45 := Bool.eq_false_iff.mpr c45
              subst c45
              have H1 : ((spec_DrawCountByComponents.f kj39 l0).bind fun t278 => ((impl_CountByComponents.f kj39 t278).bind fun bt279 => ((spec_CountByComponents.f kj39 t278).bind fun bt283 => (if bt279.2 = bt283.2 then ((laws_likeInts.f kj39 bt279.1 bt283.1).bind fun t287 => (laws_FnMeanderCounts.j4 kj39 l0 t261 t262 t278 bt279.1 bt279.2 (!t287))) else (laws_FnMeanderCounts.j4 kj39 l0 t261 t262 t278 bt279.1 bt279.2 true))))) = some r := by rw [if_neg (show ¬ (false = true) by decide)] at H; exact H
              clear H
              have H := H1
              clear H1
              replace H := Option.bind_eq_some_iff.mp H
              obtain ⟨t278, A460, H⟩ := H
              replace H : ((impl_CountByComponents.f kj39 t278).bind fun bt279 => ((spec_CountByComponents.f kj39 t278).bind fun bt283 => (if bt279.2 = bt283.2 then ((laws_likeInts.f kj39 bt279.1 bt283.1).bind fun t287 => (laws_FnMeanderCounts.j4 kj39 l0 t261 t262 t278 bt279.1 bt279.2 (!t287))) else (laws_FnMeanderCounts.j4 kj39 l0 t261 t262 t278 bt279.1 bt279.2 true)))) = some r := H
              have A46 := Aside0.mk A460
              clear A460
              replace H := Option.bind_eq_some_iff.mp H
              obtain ⟨⟨t279, t280⟩, A470, H⟩ := H
              replace H : ((spec_CountByComponents.f kj39 t278).bind fun bt283 => (if t280 = bt283.2 then ((laws_likeInts.f kj39 t279 bt283.1).bind fun t287 => (laws_FnMeanderCounts.j4 kj39 l0 t261 t262 t278 t279 t280 (!t287))) else (laws_FnMeanderCounts.j4 kj39 l0 t261 t262 t278 t279 t280 true))) = some r := H
              have A47 := Aside0.mk A470
              clear A470
              replace H := Option.bind_eq_some_iff.mp H
              obtain ⟨⟨t283, t284⟩, A480, H⟩ := H
              replace H : (if t280 = t284 then ((laws_likeInts.f kj39 t279 t283).bind fun t287 => (laws_FnMeanderCounts.j4 kj39 l0 t261 t262 t278 t279 t280 (!t287))) else (laws_FnMeanderCounts.j4 kj39 l0 t261 t262 t278 t279 t280 true)) = some r := H
              have A48 := Aside0.mk A480
              clear A480
              have HC49 := Aside0.mk H
              clear H
              go_upto_region 26 with (first | (go_at_call 20; (with_reducible refine (spec_DrawCountByComponents.calls kj39 _ _ l0 t278 _ ?side1 ?side2 A46.out).mono ?_); (case side1 => repeat (first | exact (Kd.C_below HR0.out HB.out) | (with_reducible refine Kd.C_alloc ?_ _) | (with_reducible refine Kd.C_drewN ?_ _) | (with_reducible refine Kd.C_drew ?_))); (case side2 => exact HC0.out); rintro e w50 ⟨rfl, hb⟩; have n0_ := Aside0.mk (Kd.S_below (by (with_reducible repeat (first | apply Kd.S_alloc | apply Kd.S_drewN | apply Kd.S_drew)); exact HO_14.out) hb); have n1_ := Aside0.mk (below_step (by repeat (first | (with_reducible first | exact HB.out | apply below_alloc | apply pw_below_drewN | apply below_drew1) | exact HB.out)) hb); clear HO_14; clear HB; have HO_14 := n0_; have HB := n1_; clear n0_ n1_; (try clear hb); (try clear hb2); (try clear hk); (try clear hi)) | (go_at_call 21; (with_reducible refine (impl_CountByComponents.calls kj39 t278 t279 t280 _ A47.out).mono ?_); rintro e w51 ⟨v281, rfl, ho0, hb⟩; have n0_ := Aside0.mk (Kd.S_elder' (by (with_reducible repeat (first | apply Kd.S_alloc | apply Kd.S_drewN | apply Kd.S_drew)); exact HO_14.out) (Kd.R_base ho0) hb); have n1_ := Aside0.mk (Kd.R_lower ho0 (below_size (by repeat (first | (with_reducible first | exact HB.out | apply below_alloc | apply pw_below_drewN | apply below_drew1) | exact HB.out)))); have n2_ := Aside0.mk (below_step (by repeat (first | (with_reducible first | exact HB.out | apply below_alloc | apply pw_below_drewN | apply below_drew1) | exact HB.out)) hb); clear HO_14; clear HB; have HO_14 := n0_; have HO282 := n1_; have HB := n2_; clear n0_ n1_ n2_; (try clear hb); (try clear hb2); (try clear hk); (try clear hi); (try clear ho0)) | (go_at_call 22; (with_reducible refine (spec_CountByComponents.calls kj39 t278 t283 t284 _ A48.out).mono ?_); rintro e w52 ⟨v285, rfl, ho0, hb⟩; have n0_ := Aside0.mk (Kd.S_elder' (by (with_reducible repeat (first | apply Kd.S_alloc | apply Kd.S_drewN | apply Kd.S_drew)); exact HO_14.out) (Kd.R_base ho0) hb); have n1_ := Aside0.mk (Kd.R_elder' (by (with_reducible repeat (first | apply Kd.R_alloc | apply Kd.R_drewN | apply Kd.R_drew)); exact HO282.out) (Kd.R_base ho0) hb); have n2_ := Aside0.mk (Kd.R_lower (Kd.R_new' ho0 (Kd.R_lt (by (with_reducible repeat (first | apply Kd.R_alloc | apply Kd.R_drewN | apply Kd.R_drew)); exact HO282.out))) (below_size (by repeat (first | (with_reducible first | exact HB.out | apply below_alloc | apply pw_below_drewN | apply below_drew1) | exact HB.out)))); have n3_ := Aside0.mk (below_step (by repeat (first | (with_reducible first | exact HB.out | apply below_alloc | apply pw_below_drewN | apply below_drew1) | exact HB.out)) hb); clear HO_14; clear HO282; clear HB; have HO_14 := n0_; have HO282 := n1_; have HO286 := n2_; have HB := n3_; clear n0_ n1_ n2_ n3_; (try clear hb); (try clear hb2); (try clear hk); (try clear hi); (try clear ho0)))
              repeat (go_quiet (first | (go_at_call 20; (with_reducible refine (spec_DrawCountByComponents.calls kj39 _ _ l0 t278 _ ?side1 ?side2 A46.out).mono ?_); (case side1 => repeat (first | exact (Kd.C_below HR0.out HB.out) | (with_reducible refine Kd.C_alloc ?_ _) | (with_reducible refine Kd.C_drewN ?_ _) | (with_reducible refine Kd.C_drew ?_))); (case side2 => exact HC0.out); rintro e w50 ⟨rfl, hb⟩; have n0_ := Aside0.mk (Kd.S_below (by (with_reducible repeat (first | apply Kd.S_alloc | apply Kd.S_drewN | apply Kd.S_drew)); exact HO_14.out) hb); have n1_ := Aside0.mk (below_step (by repeat (first | (with_reducible first | exact HB.out | apply below_alloc | apply pw_below_drewN | apply below_drew1) | exact HB.out)) hb); clear HO_14; clear HB; have HO_14 := n0_; have HB := n1_; clear n0_ n1_; (try clear hb); (try clear hb2); (try clear hk); (try clear hi)) | (go_at_call 21; (with_reducible refine (impl_CountByComponents.calls kj39 t278 t279 t280 _ A47.out).mono ?_); rintro e w51 ⟨v281, rfl, ho0, hb⟩; have n0_ := Aside0.mk (Kd.S_elder' (by (with_reducible repeat (first | apply Kd.S_alloc | apply Kd.S_drewN | apply Kd.S_drew)); exact HO_14.out) (Kd.R_base ho0) hb); have n1_ := Aside0.mk (Kd.R_lower ho0 (below_size (by repeat (first | (with_reducible first | exact HB.out | apply below_alloc | apply pw_below_drewN | apply below_drew1) | exact HB.out)))); have n2_ := Aside0.mk (below_step (by repeat (first | (with_reducible first | exact HB.out | apply below_alloc | apply pw_below_drewN | apply below_drew1) | exact HB.out)) hb); clear HO_14; clear HB; have HO_14 := n0_; have HO282 := n1_; have HB := n2_; clear n0_ n1_ n2_; (try clear hb); (try clear hb2); (try clear hk); (try clear hi); (try clear ho0)) | (go_at_call 22; (with_reducible refine (spec_CountByComponents.calls kj39 t278 t283 t284 _ A48.out).mono ?_); rintro e w52 ⟨v285, rfl, ho0, hb⟩; have n0_ := Aside0.mk (Kd.S_elder' (by (with_reducible repeat (first | apply Kd.S_alloc | apply Kd.S_drewN | apply Kd.S_drew)); exact HO_14.out) (Kd.R_base ho0) hb); have n1_ := Aside0.mk (Kd.R_elder' (by (with_reducible repeat (first | apply Kd.R_alloc | apply Kd.R_drewN | apply Kd.R_drew)); exact HO282.out) (Kd.R_base ho0) hb); have n2_ := Aside0.mk (Kd.R_lower (Kd.R_new' ho0 (Kd.R_lt (by (with_reducible repeat (first | apply Kd.R_alloc | apply Kd.R_drewN | apply Kd.R_drew)); exact HO282.out))) (below_size (by repeat (first | (with_reducible first | exact HB.out | apply below_alloc | apply pw_below_drewN | apply below_drew1) | exact HB.out)))); have n3_ := Aside0.mk (below_step (by repeat (first | (with_reducible first | exact HB.out | apply below_alloc | apply pw_below_drewN | apply below_drew1) | exact HB.out)) hb); clear HO_14; clear HO282; clear HB; have HO_14 := n0_; have HO282 := n1_; have HO286 := n2_; have HB := n3_; clear n0_ n1_ n2_ n3_; (try clear hb); (try clear hb2); (try clear hk); (try clear hi); (try clear ho0))); go_upto_region 26 with (first | (go_at_call 20; (with_reducible refine (spec_DrawCountByComponents.calls kj39 _ _ l0 t278 _ ?side1 ?side2 A46.out).mono ?_); (case side1 => repeat (first | exact (Kd.C_below HR0.out HB.out) | (with_reducible refine Kd.C_alloc ?_ _) | (with_reducible refine Kd.C_drewN ?_ _) | (with_reducible refine Kd.C_drew ?_))); (case side2 => exact HC0.out); rintro e w50 ⟨rfl, hb⟩; have n0_ := Aside0.mk (Kd.S_below (by (with_reducible repeat (first | apply Kd.S_alloc | apply Kd.S_drewN | apply Kd.S_drew)); exact HO_14.out) hb); have n1_ := Aside0.mk (below_step (by repeat (first | (with_reducible first | exact HB.out | apply below_alloc | apply pw_below_drewN | apply below_drew1) | exact HB.out)) hb); clear HO_14; clear HB; have HO_14 := n0_; have HB := n1_; clear n0_ n1_; (try clear hb); (try clear hb2); (try clear hk); (try clear hi)) | (go_at_call 21; (with_reducible refine (impl_CountByComponents.calls kj39 t278 t279 t280 _ A47.out).mono ?_); rintro e w51 ⟨v281, rfl, ho0, hb⟩; have n0_ := Aside0.mk (Kd.S_elder' (by (with_reducible repeat (first | apply Kd.S_alloc | apply Kd.S_drewN | apply Kd.S_drew)); exact HO_14.out) (Kd.R_base ho0) hb); have n1_ := Aside0.mk (Kd.R_lower ho0 (below_size (by repeat (first | (with_reducible first | exact HB.out | apply below_alloc | apply pw_below_drewN | apply below_drew1) | exact HB.out)))); have n2_ := Aside0.mk (below_step (by repeat (first | (with_reducible first | exact HB.out | apply below_alloc | apply pw_below_drewN | apply below_drew1) | exact HB.out)) hb); clear HO_14; clear HB; have HO_14 := n0_; have HO282 := n1_; have HB := n2_; clear n0_ n1_ n2_; (try clear hb); (try clear hb2); (try clear hk); (try clear hi); (try clear ho0)) | (go_at_call 22; (with_reducible refine (spec_CountByComponents.calls kj39 t278 t283 t284 _ A48.out).mono ?_); rintro e w52 ⟨v285, rfl, ho0, hb⟩; have n0_ := Aside0.mk (Kd.S_elder' (by (with_reducible repeat (first | apply Kd.S_alloc | apply Kd.S_drewN | apply Kd.S_drew)); exact HO_14.out) (Kd.R_base ho0) hb); have n1_ := Aside0.mk (Kd.R_elder' (by (with_reducible repeat (first | apply Kd.R_alloc | apply Kd.R_drewN | apply Kd.R_drew)); exact HO282.out) (Kd.R_base ho0) hb); have n2_ := Aside0.mk (Kd.R_lower (Kd.R_new' ho0 (Kd.R_lt (by (with_reducible repeat (first | apply Kd.R_alloc | apply Kd.R_drewN | apply Kd.R_drew)); exact HO282.out))) (below_size (by repeat (first | (with_reducible first | exact HB.out | apply below_alloc | apply pw_below_drewN | apply below_drew1) | exact HB.out)))); have n3_ := Aside0.mk (below_step (by repeat (first | (with_reducible first | exact HB.out | apply below_alloc | apply pw_below_drewN | apply below_drew1) | exact HB.out)) hb); clear HO_14; clear HO282; clear HB; have HO_14 := n0_; have HO282 := n1_; have HO286 := n2_; have HB := n3_; clear n0_ n1_ n2_ n3_; (try clear hb); (try clear hb2); (try clear hk); (try clear hi); (try clear ho0))))
              (try simp only [Act.put, List.setIfInBounds_toArray, List.set_cons_zero, List.set_cons_succ])
              go_cut [151] (fun v151 wc => ∃ (kq : Nat) (x151_48 : Bool), v151 = .bool x151_48 ∧ Aside0 (laws_FnMeanderCounts.j4 kq l0 t261 t262 t278 t279 t280 x151_48 = some r) ∧ Aside0 (kq ≤ kj39) ∧ Aside0 (Kd.S (Kd.slice 2 (Kd.int .i64)) 40 wc w.heap.size (fun k_ => some k_ ≠ (v281 : Value).ownBlock) v264 t262) ∧ Aside0 (Kd.R (Kd.int .i64) 2 wc w.heap.size (fun _ => True) v281 t279) ∧ Aside0 (Below w.heap.size w wc))
              case first => as_aux_lemma =>
               have H := HC49.out
               clear HC49
               by_cases c53 : t280 = t284
               ·rw [if_pos c53] at H
                have c53b0 : (t280 == t284) = true := beq_iff_eq.mpr c53
                have c53b1 : (t280 != t284) = false := bne_eq_false_iff_eq.mpr c53
                clear c53
                (first | rw [c53b0] | (simp only [i64_w, i32_w]; rw [c53b0]) | skip)
                replace H := Option.bind_eq_some_iff.mp H
                obtain ⟨t287, A540, H⟩ := H
                replace H : (laws_FnMeanderCounts.j4 kj39 l0 t261 t262 t278 t279 t280 (!t287)) = some r := H
                have A54 := Aside0.mk A540
                clear A540
                have H' := Aside0.mk H
                clear H
                obtain ⟨Ao55, co55, eo55⟩ := Kd.R_slice HO282.out
                subst eo55
                obtain ⟨Ao56, co56, eo56⟩ := Kd.R_slice HO286.out
                subst eo56
                go_wp2_with (first | (go_at_call 23; (with_reducible refine (laws_likeInts.calls kj39 _ _ t279 _ _ t283 t287 _ ?side1 ?side2 ?side3 ?side4 A54.out).mono ?_); (case side1 => repeat (first | exact (Kd.R_reads' HO282.out).2.2 | (with_reducible refine Kd.C_alloc ?_ _) | (with_reducible refine Kd.C_drewN ?_ _) | (with_reducible refine Kd.C_drew ?_))); (case side2 => exact (Kd.R_reads' HO282.out).2.1); (case side3 => repeat (first | exact (Kd.R_reads' HO286.out).2.2 | (with_reducible refine Kd.C_alloc ?_ _) | (with_reducible refine Kd.C_drewN ?_ _) | (with_reducible refine Kd.C_drew ?_))); (case side4 => exact (Kd.R_reads' HO286.out).2.1); rintro e w' ⟨rfl, ⟨nd, rfl⟩⟩; (try first | exact ⟨rfl, _, World.drewN_drewN _ _ _⟩ | exact ⟨rfl, _, Eq.trans (World.drewN_drewN _ _ _) (congrArg (World.drewN _) (Nat.add_assoc _ _ _))⟩)))
                repeat (go_quiet (first | (go_at_call 23; (with_reducible refine (laws_likeInts.calls kj39 _ _ t279 _ _ t283 t287 _ ?side1 ?side2 ?side3 ?side4 A54.out).mono ?_); (case side1 => repeat (first | exact (Kd.R_reads' HO282.out).2.2 | (with_reducible refine Kd.C_alloc ?_ _) | (with_reducible refine Kd.C_drewN ?_ _) | (with_reducible refine Kd.C_drew ?_))); (case side2 => exact (Kd.R_reads' HO282.out).2.1); (case side3 => repeat (first | exact (Kd.R_reads' HO286.out).2.2 | (with_reducible refine Kd.C_alloc ?_ _) | (with_reducible refine Kd.C_drewN ?_ _) | (with_reducible refine Kd.C_drew ?_))); (case side4 => exact (Kd.R_reads' HO286.out).2.1); rintro e w' ⟨rfl, ⟨nd, rfl⟩⟩; (try first | exact ⟨rfl, _, World.drewN_drewN _ _ _⟩ | exact ⟨rfl, _, Eq.trans (World.drewN_drewN _ _ _) (congrArg (World.drewN _) (Nat.add_assoc _ _ _))⟩))); try go_wp2_with (first | (go_at_call 23; (with_reducible refine (laws_likeInts.calls kj39 _ _ t279 _ _ t283 t287 _ ?side1 ?side2 ?side3 ?side4 A54.out).mono ?_); (case side1 => repeat (first | exact (Kd.R_reads' HO282.out).2.2 | (with_reducible refine Kd.C_alloc ?_ _) | (with_reducible refine Kd.C_drewN ?_ _) | (with_reducible refine Kd.C_drew ?_))); (case side2 => exact (Kd.R_reads' HO282.out).2.1); (case side3 => repeat (first | exact (Kd.R_reads' HO286.out).2.2 | (with_reducible refine Kd.C_alloc ?_ _) | (with_reducible refine Kd.C_drewN ?_ _) | (with_reducible refine Kd.C_drew ?_))); (case side4 => exact (Kd.R_reads' HO286.out).2.1); rintro e w' ⟨rfl, ⟨nd, rfl⟩⟩; (try first | exact ⟨rfl, _, World.drewN_drewN _ _ _⟩ | exact ⟨rfl, _, Eq.trans (World.drewN_drewN _ _ _) (congrArg (World.drewN _) (Nat.add_assoc _ _ _))⟩))))
                go_meet
                case rel => exact ⟨_, (!t287), (by first | rfl | (simp; done) | (simp [*]; done)), H', ⟨by have := HJ6.out; have := HJ18.out; have := HJ27.out; have := HJ39.out; first | omega | exact Nat.le_refl _⟩, ⟨by (with_reducible repeat (first | apply Kd.S_alloc | apply Kd.S_drewN | apply Kd.S_drew)); exact Kd.S_mono HO_14.out (fun _ hk => hk.1.2)⟩, ⟨by (with_reducible repeat (first | apply Kd.R_alloc | apply Kd.R_drewN | apply Kd.R_drew)); exact Kd.R_mono HO282.out (fun _ hk => trivial)⟩, ⟨by repeat (first | (with_reducible first | exact HB.out | apply below_alloc | apply pw_below_drewN | apply below_drew1) | exact HB.out)⟩⟩
               ·rw [if_neg c53] at H
                have c53b0 : (t280 == t284) = false := beq_eq_false_iff_ne.mpr c53
                have c53b1 : (t280 != t284) = true := bne_iff_ne.mpr c53
                (first | rw [c53b0] | (simp only [i64_w, i32_w]; rw [c53b0]) | skip)
                have H' := Aside0.mk H
                clear H
                go_wp2
                repeat (go_quiet (fail); try go_wp2)
                go_meet
                case rel => exact ⟨_, (true), (by first | rfl | (simp; done) | (simp [*]; done)), H', ⟨by have := HJ6.out; have := HJ18.out; have := HJ27.out; have := HJ39.out; first | omega | exact Nat.le_refl _⟩, ⟨by (with_reducible repeat (first | apply Kd.S_alloc | apply Kd.S_drewN | apply Kd.S_drew)); exact Kd.S_mono HO_14.out (fun _ hk => hk.1.2)⟩, ⟨by (with_reducible repeat (first | apply Kd.R_alloc | apply Kd.R_drewN | apply Kd.R_drew)); exact Kd.R_mono HO282.out (fun _ hk => trivial)⟩, ⟨by repeat (first | (with_reducible first | exact HB.out | apply below_alloc | apply pw_below_drewN | apply below_drew1) | exact HB.out)⟩⟩
              case rest => as_aux_lemma =>
               clear HC49
               try clear c1
               try clear c2
               try clear p2
               try clear c3
               try clear c4
               try clear c5
               try clear c11
               try clear c11b0
               try clear c11b1
               try clear c15
               try clear c23
               try clear c23b0
               try clear c23b1
               try clear c24
               try clear c32
               try clear c32b0
               try clear c32b1
               try clear c36
               try clear c44
               try clear c44b0
               try clear c44b1
               try clear c45
               try clear c53
               try clear c53b0
               try clear c53b1
               try clear p2
               obtain ⟨kq, x151_48, rfl, HA, HJ48, HO_14, HO_26, HB⟩ := hcut
               cases kq with
               | zero => exact absurd HA.out (by simp [laws_FnMeanderCounts.j4])
               | succ kj48 =>
                have H := HA.out
                clear HA
                simp only [laws_FnMeanderCounts.j4] at H
                by_cases c57 : x151_48 = true
                ·subst c57
                 have H1 : (some false) = some r := by rw [if_pos rfl] at H; exact H
                 clear H
                 have H := H1
                 clear H1
                 obtain rfl := Option.some.inj H
                 go_wp2
                 repeat (go_quiet (fail); try go_wp2)
                 go_ret
                 exact ⟨by first | rfl | (simp [errW_none, errW_some] <;> rfl) | (simp [*, errW_none, errW_some] <;> rfl), by repeat (first | (with_reducible first | exact HB.out | apply below_alloc | apply pw_below_drewN | apply below_drew1) | exact HB.out)⟩
                ·replace c57 := Bool.eq_false_iff.mpr c57
                 subst c57
                 have H1 : ((spec_DrawCountWithRainbow.f kj48 l0).bind fun t288 => ((impl_CountWithRainbow.f kj48 t288).bind fun bt289 => ((spec_CountWithRainbow.f kj48 t288).bind fun bt291 => (if bt289.2 = bt291.2 then (laws_FnMeanderCounts.j5 kj48 t261 t262 t278 t279 t280 (bt289.1 != bt291.1)) else (laws_FnMeanderCounts.j5 kj48 t261 t262 t278 t279 t280 true))))) = some r := by rw [if_neg (show ¬ (false = true) by decide)] at H; exact H
                 clear H
                 have H := H1
                 clear H1
                 replace H := Option.bind_eq_some_iff.mp H
                 obtain ⟨t288, A580, H⟩ := H
                 replace H : ((impl_CountWithRainbow.f kj48 t288).bind fun bt289 => ((spec_CountWithRainbow.f kj48 t288).bind fun bt291 => (if bt289.2 = bt291.2 then (laws_FnMeanderCounts.j5 kj48 t261 t262 t278 t279 t280 (bt289.1 != bt291.1)) else (laws_FnMeanderCounts.j5 kj48 t261 t262 t278 t279 t280 true)))) = some r := H
                 have A58 := Aside0.mk A580
                 clear A580
                 replace H := Option.bind_eq_some_iff.mp H
                 obtain ⟨⟨t289, t290⟩, A590, H⟩ := H
                 replace H : ((spec_CountWithRainbow.f kj48 t288).bind fun bt291 => (if t290 = bt291.2 then (laws_FnMeanderCounts.j5 kj48 t261 t262 t278 t279 t280 (t289 != bt291.1)) else (laws_FnMeanderCounts.j5 kj48 t261 t262 t278 t279 t280 true))) = some r := H
                 have A59 := Aside0.mk A590
                 clear A590
                 replace H := Option.bind_eq_some_iff.mp H
                 obtain ⟨⟨t291, t292⟩, A600, H⟩ := H
                 replace H : (if t290 = t292 then (laws_FnMeanderCounts.j5 kj48 t261 t262 t278 t279 t280 (t289 != t291)) else (laws_FnMeanderCounts.j5 kj48 t261 t262 t278 t279 t280 true)) = some r := H
                 have A60 := Aside0.mk A600
                 clear A600
                 have HC61 := Aside0.mk H
                 clear H
                 go_upto_region 31 with (first | (go_at_call 24; (with_reducible refine (spec_DrawCountWithRainbow.calls kj48 _ _ l0 t288 _ ?side1 ?side2 A58.out).mono ?_); (case side1 => repeat (first | exact (Kd.C_below HR0.out HB.out) | (with_reducible refine Kd.C_alloc ?_ _) | (with_reducible refine Kd.C_drewN ?_ _) | (with_reducible refine Kd.C_drew ?_))); (case side2 => exact HC0.out); rintro e w62 ⟨rfl, hb⟩; have n0_ := Aside0.mk (Kd.S_below (by (with_reducible repeat (first | apply Kd.S_alloc | apply Kd.S_drewN | apply Kd.S_drew)); exact HO_14.out) hb); have n1_ := Aside0.mk (Kd.R_below (by (with_reducible repeat (first | apply Kd.R_alloc | apply Kd.R_drewN | apply Kd.R_drew)); exact HO_26.out) hb); have n2_ := Aside0.mk (below_step (by repeat (first | (with_reducible first | exact HB.out | apply below_alloc | apply pw_below_drewN | apply below_drew1) | exact HB.out)) hb); clear HO_14; clear HO_26; clear HB; have HO_14 := n0_; have HO_26 := n1_; have HB := n2_; clear n0_ n1_ n2_; (try clear hb); (try clear hb2); (try clear hk); (try clear hi)) | (go_at_call 25; (with_reducible refine (impl_CountWithRainbow.calls kj48 t288 t289 t290 _ A59.out).mono ?_); rintro e w63 ⟨rfl, hb⟩; have n0_ := Aside0.mk (Kd.S_below (by (with_reducible repeat (first | apply Kd.S_alloc | apply Kd.S_drewN | apply Kd.S_drew)); exact HO_14.out) hb); have n1_ := Aside0.mk (Kd.R_below (by (with_reducible repeat (first | apply Kd.R_alloc | apply Kd.R_drewN | apply Kd.R_drew)); exact HO_26.out) hb); have n2_ := Aside0.mk (below_step (by repeat (first | (with_reducible first | exact HB.out | apply below_alloc | apply pw_below_drewN | apply below_drew1) | exact HB.out)) hb); clear HO_14; clear HO_26; clear HB; have HO_14 := n0_; have HO_26 := n1_; have HB := n2_; clear n0_ n1_ n2_; (try clear hb); (try clear hb2); (try clear hk); (try clear hi)) | (go_at_call 26; (with_reducible refine (spec_CountWithRainbow.calls kj48 t288 t291 t292 _ A60.out).mono ?_); rintro e w64 ⟨rfl, hb⟩; have n0_ := Aside0.mk (Kd.S_below (by (with_reducible repeat (first | apply Kd.S_alloc | apply Kd.S_drewN | apply Kd.S_drew)); exact HO_14.out) hb); have n1_ := Aside0.mk (Kd.R_below (by (with_reducible repeat (first | apply Kd.R_alloc | apply Kd.R_drewN | apply Kd.R_drew)); exact HO_26.out) hb); have n2_ := Aside0.mk (below_step (by repeat (first | (with_reducible first | exact HB.out | apply below_alloc | apply pw_below_drewN | apply below_drew1) | exact HB.out)) hb); clear HO_14; clear HO_26; clear HB; have HO_14 := n0_; have HO_26 := n1_; have HB := n2_; clear n0_ n1_ n2_; (try clear hb); (try clear hb2); (try clear hk); (try clear hi)))
                 repeat (go_quiet (first | (go_at_call 24; (with_reducible refine (spec_DrawCountWithRainbow.calls kj48 _ _ l0 t288 _ ?side1 ?side2 A58.out).mono ?_); (case side1 => repeat (first | exact (Kd.C_below HR0.out HB.out) | (with_reducible refine Kd.C_alloc ?_ _) | (with_reducible refine Kd.C_drewN ?_ _) | (with_reducible refine Kd.C_drew ?_))); (case side2 => exact HC0.out); rintro e w62 ⟨rfl, hb⟩; have n0_ := Aside0.mk (Kd.S_below (by (with_reducible repeat (first | apply Kd.S_alloc | apply Kd.S_drewN | apply Kd.S_drew)); exact HO_14.out) hb); have n1_ := Aside0.mk (Kd.R_below (by (with_reducible repeat (first | apply Kd.R_alloc | apply Kd.R_drewN | apply Kd.R_drew)); exact HO_26.out) hb); have n2_ := Aside0.mk (below_step (by repeat (first | (with_reducible first | exact HB.out | apply below_alloc | apply pw_below_drewN | apply below_drew1) | exact HB.out)) hb); clear HO_14; clear HO_26; clear HB; have HO_14 := n0_; have HO_26 := n1_; have HB := n2_; clear n0_ n1_ n2_; (try clear hb); (try clear hb2); (try clear hk); (try clear hi)) | (go_at_call 25; (with_reducible refine (impl_CountWithRainbow.calls kj48 t288 t289 t290 _ A59.out).mono ?_); rintro e w63 ⟨rfl, hb⟩; have n0_ := Aside0.mk (Kd.S_below (by (with_reducible repeat (first | apply Kd.S_alloc | apply Kd.S_drewN | apply Kd.S_drew)); exact HO_14.out) hb); have n1_ := Aside0.mk (Kd.R_below (by (with_reducible repeat (first | apply Kd.R_alloc | apply Kd.R_drewN | apply Kd.R_drew)); exact HO_26.out) hb); have n2_ := Aside0.mk (below_step (by repeat (first | (with_reducible first | exact HB.out | apply below_alloc | apply pw_below_drewN | apply below_drew1) | exact HB.out)) hb); clear HO_14; clear HO_26; clear HB; have HO_14 := n0_; have HO_26 := n1_; have HB := n2_; clear n0_ n1_ n2_; (try clear hb); (try clear hb2); (try clear hk); (try clear hi)) | (go_at_call 26; (with_reducible refine (spec_CountWithRainbow.calls kj48 t288 t291 t292 _ A60.out).mono ?_); rintro e w64 ⟨rfl, hb⟩; have n0_ := Aside0.mk (Kd.S_below (by (with_reducible repeat (first | apply Kd.S_alloc | apply Kd.S_drewN | apply Kd.S_drew)); exact HO_14.out) hb); have n1_ := Aside0.mk (Kd.R_below (by (with_reducible repeat (first | apply Kd.R_alloc | apply Kd.R_drewN | apply Kd.R_drew)); exact HO_26.out) hb); have n2_ := Aside0.mk (below_step (by repeat (first | (with_reducible first | exact HB.out | apply below_alloc | apply pw_below_drewN | apply below_drew1) | exact HB.out)) hb); clear HO_14; clear HO_26; clear HB; have HO_14 := n0_; have HO_26 := n1_; have HB := n2_; clear n0_ n1_ n2_; (try clear hb); (try clear hb2); (try clear hk); (try clear hi))); go_upto_region 31 with (first | (go_at_call 24; (with_reducible refine (spec_DrawCountWithRainbow.calls kj48 _ _ l0 t288 _ ?side1 ?side2 A58.out).mono ?_); (case side1 => repeat (first | exact (Kd.C_below HR0.out HB.out) | (with_reducible refine Kd.C_alloc ?_ _) | (with_reducible refine Kd.C_drewN ?_ _) | (with_reducible refine Kd.C_drew ?_))); (case side2 => exact HC0.out); rintro e w62 ⟨rfl, hb⟩; have n0_ := Aside0.mk (Kd.S_below (by (with_reducible repeat (first | apply Kd.S_alloc | apply Kd.S_drewN | apply Kd.S_drew)); exact HO_14.out) hb); have n1_ := Aside0.mk (Kd.R_below (by (with_reducible repeat (first | apply Kd.R_alloc | apply Kd.R_drewN | apply Kd.R_drew)); exact HO_26.out) hb); have n2_ := Aside0.mk (below_step (by repeat (first | (with_reducible first | exact HB.out | apply below_alloc | apply pw_below_drewN | apply below_drew1) | exact HB.out)) hb); clear HO_14; clear HO_26; clear HB; have HO_14 := n0_; have HO_26 := n1_; have HB := n2_; clear n0_ n1_ n2_; (try clear hb); (try clear hb2); (try clear hk); (try clear hi)) | (go_at_call 25; (with_reducible refine (impl_CountWithRainbow.calls kj48 t288 t289 t290 _ A59.out).mono ?_); rintro e w63 ⟨rfl, hb⟩; have n0_ := Aside0.mk (Kd.S_below (by (with_reducible repeat (first | apply Kd.S_alloc | apply Kd.S_drewN | apply Kd.S_drew)); exact HO_14.out) hb); have n1_ := Aside0.mk (Kd.R_below (by (with_reducible repeat (first | apply Kd.R_alloc | apply Kd.R_drewN | apply Kd.R_drew)); exact HO_26.out) hb); have n2_ := Aside0.mk (below_step (by repeat (first | (with_reducible first | exact HB.out | apply below_alloc | apply pw_below_drewN | apply below_drew1) | exact HB.out)) hb); clear HO_14; clear HO_26; clear HB; have HO_14 := n0_; have HO_26 := n1_; have HB := n2_; clear n0_ n1_ n2_; (try clear hb); (try clear hb2); (try clear hk); (try clear hi)) | (go_at_call 26; (with_reducible refine (spec_CountWithRainbow.calls kj48 t288 t291 t292 _ A60.out).mono ?_); rintro e w64 ⟨rfl, hb⟩; have n0_ := Aside0.mk (Kd.S_below (by (with_reducible repeat (first | apply Kd.S_alloc | apply Kd.S_drewN | apply Kd.S_drew)); exact HO_14.out) hb); have n1_ := Aside0.mk (Kd.R_below (by (with_reducible repeat (first | apply Kd.R_alloc | apply Kd.R_drewN | apply Kd.R_drew)); exact HO_26.out) hb); have n2_ := Aside0.mk (below_step (by repeat (first | (with_reducible first | exact HB.out | apply below_alloc | apply pw_below_drewN | apply below_drew1) | exact HB.out)) hb); clear HO_14; clear HO_26; clear HB; have HO_14 := n0_; have HO_26 := n1_; have HB := n2_; clear n0_ n1_ n2_; (try clear hb); (try clear hb2); (try clear hk); (try clear hi))))
                 (try simp only [Act.put, List.setIfInBounds_toArray, List.set_cons_zero, List.set_cons_succ])
                 go_cut [171] (fun v171 wc => ∃ (kq : Nat) (x171_60 : Bool), v171 = .bool x171_60 ∧ Aside0 (laws_FnMeanderCounts.j5 kq t261 t262 t278 t279 t280 x171_60 = some r) ∧ Aside0 (kq ≤ kj48) ∧ Aside0 (Kd.S (Kd.slice 2 (Kd.int .i64)) 40 wc w.heap.size (fun k_ => some k_ ≠ (v281 : Value).ownBlock) v264 t262) ∧ Aside0 (Kd.R (Kd.int .i64) 2 wc w.heap.size (fun _ => True) v281 t279) ∧ Aside0 (Below w.heap.size w wc))
                 case first => as_aux_lemma =>
                  have H := HC61.out
                  clear HC61
                  by_cases c65 : t290 = t292
                  ·rw [if_pos c65] at H
                   have c65b0 : (t290 == t292) = true := beq_iff_eq.mpr c65
                   have c65b1 : (t290 != t292) = false := bne_eq_false_iff_eq.mpr c65
                   clear c65
                   (first | rw [c65b0] | (simp only [i64_w, i32_w]; rw [c65b0]) | skip)
                   have H' := Aside0.mk H
                   clear H
                   go_wp2
                   repeat (go_quiet (fail); try go_wp2)
                   go_meet
                   case rel => exact ⟨_, ((t289 != t291)), (by first | rfl | (simp; done) | (simp [*]; done)), H', ⟨by have := HJ6.out; have := HJ18.out; have := HJ27.out; have := HJ39.out; have := HJ48.out; first | omega | exact Nat.le_refl _⟩, ⟨by (with_reducible repeat (first | apply Kd.S_alloc | apply Kd.S_drewN | apply Kd.S_drew)); exact HO_14.out⟩, ⟨by (with_reducible repeat (first | apply Kd.R_alloc | apply Kd.R_drewN | apply Kd.R_drew)); exact HO_26.out⟩, ⟨by repeat (first | (with_reducible first | exact HB.out | apply below_alloc | apply pw_below_drewN | apply below_drew1) | exact HB.out)⟩⟩
                  ·rw [if_neg c65] at H
                   have c65b0 : (t290 == t292) = false := beq_eq_false_iff_ne.mpr c65
                   have c65b1 : (t290 != t292) = true := bne_iff_ne.mpr c65
                   (first | rw [c65b0] | (simp only [i64_w, i32_w]; rw [c65b0]) | skip)
                   have H' := Aside0.mk H
                   clear H
                   go_wp2
                   repeat (go_quiet (fail); try go_wp2)
                   go_meet
                   case rel => exact ⟨_, (true), (by first | rfl | (simp; done) | (simp [*]; done)), H', ⟨by have := HJ6.out; have := HJ18.out; have := HJ27.out; have := HJ39.out; have := HJ48.out; first | omega | exact Nat.le_refl _⟩, ⟨by (with_reducible repeat (first | apply Kd.S_alloc | apply Kd.S_drewN | apply Kd.S_drew)); exact HO_14.out⟩, ⟨by (with_reducible repeat (first | apply Kd.R_alloc | apply Kd.R_drewN | apply Kd.R_drew)); exact HO_26.out⟩, ⟨by repeat (first | (with_reducible first | exact HB.out | apply below_alloc | apply pw_below_drewN | apply below_drew1) | exact HB.out)⟩⟩
                 case rest => as_aux_lemma =>
                  clear HC61
                  try clear c1
                  try clear c2
                  try clear p2
                  try clear c3
                  try clear c4
                  try clear c5
                  try clear c6
                  try clear c11
                  try clear c11b0
                  try clear c11b1
                  try clear c15
                  try clear c23
                  try clear c23b0
                  try clear c23b1
                  try clear c24
                  try clear c32
                  try clear c32b0
                  try clear c32b1
                  try clear c36
                  try clear c44
                  try clear c44b0
                  try clear c44b1
                  try clear c45
                  try clear c53
                  try clear c53b0
                  try clear c53b1
                  try clear c57
                  try clear c65
                  try clear c65b0
                  try clear c65b1
                  try clear p2
                  obtain ⟨kq, x171_60, rfl, HA, HJ60, HO_14, HO_26, HB⟩ := hcut
                  cases kq with
                  | zero => exact absurd HA.out (by simp [laws_FnMeanderCounts.j5])
                  | succ kj60 =>
                   have H := HA.out
                   clear HA
                   simp only [laws_FnMeanderCounts.j5] at H
                   by_cases c66 : x171_60 = true
                   ·subst c66
                    have H1 : (some false) = some r := by rw [if_pos rfl] at H; exact H
                    clear H
                    have H := H1
                    clear H1
                    obtain rfl := Option.some.inj H
                    go_wp2
                    repeat (go_quiet (fail); try go_wp2)
                    go_ret
                    exact ⟨by first | rfl | (simp [errW_none, errW_some] <;> rfl) | (simp [*, errW_none, errW_some] <;> rfl), by repeat (first | (with_reducible first | exact HB.out | apply below_alloc | apply pw_below_drewN | apply below_drew1) | exact HB.out)⟩
                   ·replace c66 := Bool.eq_false_iff.mpr c66
                    subst c66
                    have H1 : (if t280 = 0 then ((impl_SystemsOf.f t278).bind fun bt293 => (if bt293.2 = 0 then ((laws_sum.f kj60 t279).bind fun t297 => (if t297 = (wrap64 ((bt293.1.length : Int) * (bt293.1.length : Int))) then (if 0 ≤ (wrap64 (t278 - 1)) then (if (wrap64 (t278 - 1)) < (t279.length : Int) then (if (rd t279 (wrap64 (t278 - 1))) = (bt293.1.length : Int) then (laws_FnMeanderCounts.j6 kj60 t261 t262) else (some false)) else (none)) else (none)) else (some false))) else (some false))) else (laws_FnMeanderCounts.j6 kj60 t261 t262)) = some r := by rw [if_neg (show ¬ (false = true) by decide)] at H; exact H
                    clear H
                    have H := H1
                    clear H1
                    have HC67 := Aside0.mk H
                    clear H
                    go_upto_if 173 with (fail)
                    repeat (go_quiet (fail); go_upto_if 173 with (fail))
                    go_cut [] (fun wc => ∃ (kq : Nat), Aside0 (laws_FnMeanderCounts.j6 kq t261 t262 = some r) ∧ Aside0 (kq ≤ kj60) ∧ Aside0 (Kd.S (Kd.slice 2 (Kd.int .i64)) 40 wc w.heap.size (fun _ => True) v264 t262) ∧ Aside0 (Below w.heap.size w wc))
                    case first => as_aux_lemma =>
                     have H := HC67.out
                     clear HC67
                     by_cases c68 : t280 = 0
                     ·rw [if_pos c68] at H
                      have c68b0 : (t280 == 0) = true := beq_iff_eq.mpr c68
                      have c68b1 : (t280 != 0) = false := bne_eq_false_iff_eq.mpr c68
                      clear c68
                      (first | rw [c68b0] | (simp only [i64_w, i32_w]; rw [c68b0]) | skip)
                      replace H := Option.bind_eq_some_iff.mp H
                      obtain ⟨⟨t293, t294⟩, A690, H⟩ := H
                      replace H : (if t294 = 0 then ((laws_sum.f kj60 t279).bind fun t297 => (if t297 = (wrap64 ((t293.length : Int) * (t293.length : Int))) then (if 0 ≤ (wrap64 (t278 - 1)) then (if (wrap64 (t278 - 1)) < (t279.length : Int) then (if (rd t279 (wrap64 (t278 - 1))) = (t293.length : Int) then (laws_FnMeanderCounts.j6 kj60 t261 t262) else (some false)) else (none)) else (none)) else (some false))) else (some false)) = some r := H
                      have A69 := Aside0.mk A690
                      clear A690
                      by_cases c70 : t294 = 0
                      ·rw [if_pos c70] at H
                       have c70b0 : (t294 == 0) = true := beq_iff_eq.mpr c70
                       have c70b1 : (t294 != 0) = false := bne_eq_false_iff_eq.mpr c70
                       clear c70
                       replace H := Option.bind_eq_some_iff.mp H
                       obtain ⟨t297, A710, H⟩ := H
                       replace H : (if t297 = (wrap64 ((t293.length : Int) * (t293.length : Int))) then (if 0 ≤ (wrap64 (t278 - 1)) then (if (wrap64 (t278 - 1)) < (t279.length : Int) then (if (rd t279 (wrap64 (t278 - 1))) = (t293.length : Int) then (laws_FnMeanderCounts.j6 kj60 t261 t262) else (some false)) else (none)) else (none)) else (some false)) = some r := H
                       have A71 := Aside0.mk A710
                       clear A710
                       by_cases c72 : t297 = (wrap64 ((t293.length : Int) * (t293.length : Int)))
                       ·rw [if_pos c72] at H
                        have c72b0 : (t297 == (wrap64 ((t293.length : Int) * (t293.length : Int)))) = true := beq_iff_eq.mpr c72
                        have c72b1 : (t297 != (wrap64 ((t293.length : Int) * (t293.length : Int)))) = false := bne_eq_false_iff_eq.mpr c72
                        clear c72
                        obtain ⟨ji73, hji73⟩ : ∃ j_ : Int, (wrap64 (t278 - 1)) = j_ := ⟨_, rfl⟩
                        replace H : (if 0 ≤ (ji73) then (if (ji73) < (t279.length : Int) then (if (rd t279 (ji73)) = (t293.length : Int) then (laws_FnMeanderCounts.j6 kj60 t261 t262) else (some false)) else (none)) else (none)) = some r := by first | (rw [hji73] at H; exact H) | (simp only [hji73] at H ⊢; exact H)
                        (try rw [hji73] at A69)
                        (try rw [hji73] at A71)
                        have hji73w : (IntKind.i64.wrap (t278 - 1)) = ji73 := (i64_w _).trans hji73
                        by_cases c74 : 0 ≤ (ji73)
                        ·rw [if_pos c74] at H
                         have c74b0 : decide (0 ≤ (ji73)) = true := decide_eq_true c74
                         clear c74
                         by_cases c75 : (ji73) < (t279.length : Int)
                         ·rw [if_pos c75] at H
                          have c75b0 : decide ((ji73) < (t279.length : Int)) = true := decide_eq_true c75
                          clear c75
                          by_cases c76 : (rd t279 (ji73)) = (t293.length : Int)
                          ·rw [if_pos c76] at H
                           have c76b0 : ((rd t279 (ji73)) == (t293.length : Int)) = true := beq_iff_eq.mpr c76
                           have c76b1 : ((rd t279 (ji73)) != (t293.length : Int)) = false := bne_eq_false_iff_eq.mpr c76
                           clear c76
                           have H' := Aside0.mk H
                           clear H
                           go_wp2_with (first | (go_at_call 9; (with_reducible refine (impl_SystemsOf.calls t278 t293 t294 _ A69.out).mono ?_); rintro e w77 ⟨v295, rfl, ho0, hb⟩; have n0_ := Aside0.mk (Kd.S_below (by (with_reducible repeat (first | apply Kd.S_alloc | apply Kd.S_drewN | apply Kd.S_drew)); exact HO_14.out) hb); have n1_ := Aside0.mk (Kd.R_below (by (with_reducible repeat (first | apply Kd.R_alloc | apply Kd.R_drewN | apply Kd.R_drew)); exact HO_26.out) hb); have n2_ := Aside0.mk (Kd.R_lower ho0 (below_size (by repeat (first | (with_reducible first | exact HB.out | apply below_alloc | apply pw_below_drewN | apply below_drew1) | exact HB.out)))); have n3_ := Aside0.mk (below_step (by repeat (first | (with_reducible first | exact HB.out | apply below_alloc | apply pw_below_drewN | apply below_drew1) | exact HB.out)) hb); clear HO_14; clear HO_26; clear HB; have HO_14 := n0_; have HO_26 := n1_; have HO296 := n2_; have HB := n3_; clear n0_ n1_ n2_ n3_; (try clear hb); (try clear hb2); (try clear hk); (try clear hi); (try clear ho0); obtain ⟨Ao78, co78, eo78⟩ := Kd.R_slice HO_26.out; subst eo78) | (go_at_call 27; (with_reducible refine (laws_sum.calls kj60 _ _ t279 t297 _ ?side1 ?side2 A71.out).mono ?_); (case side1 => repeat (first | exact (Kd.R_reads' HO_26.out).2.2 | (with_reducible refine Kd.C_alloc ?_ _) | (with_reducible refine Kd.C_drewN ?_ _) | (with_reducible refine Kd.C_drew ?_))); (case side2 => exact (Kd.R_reads' HO_26.out).2.1); rintro e w' ⟨rfl, ⟨nd, rfl⟩⟩; (try first | exact ⟨rfl, _, World.drewN_drewN _ _ _⟩ | exact ⟨rfl, _, Eq.trans (World.drewN_drewN _ _ _) (congrArg (World.drewN _) (Nat.add_assoc _ _ _))⟩); obtain ⟨Ao79, co79, eo79⟩ := Kd.R_slice HO296.out; subst eo79; have p298 : 0 ≤ ((ji73) : Int) := of_decide_eq_true (by first | (with_reducible assumption) | assumption); have q298 : (ji73) < (t279.length : Int) := of_decide_eq_true (by first | (with_reducible assumption) | assumption); obtain ⟨ad298, e298, hx298_0⟩ := Kd.at_int (Kd.R_reads' HO_26.out).2.2 (ji73) p298 q298; cases e298; replace p298 := eq_true p298; replace q298 := eq_true q298))
                           repeat (go_quiet (first | (go_at_call 9; (with_reducible refine (impl_SystemsOf.calls t278 t293 t294 _ A69.out).mono ?_); rintro e w77 ⟨v295, rfl, ho0, hb⟩; have n0_ := Aside0.mk (Kd.S_below (by (with_reducible repeat (first | apply Kd.S_alloc | apply Kd.S_drewN | apply Kd.S_drew)); exact HO_14.out) hb); have n1_ := Aside0.mk (Kd.R_below (by (with_reducible repeat (first | apply Kd.R_alloc | apply Kd.R_drewN | apply Kd.R_drew)); exact HO_26.out) hb); have n2_ := Aside0.mk (Kd.R_lower ho0 (below_size (by repeat (first | (with_reducible first | exact HB.out | apply below_alloc | apply pw_below_drewN | apply below_drew1) | exact HB.out)))); have n3_ := Aside0.mk (below_step (by repeat (first | (with_reducible first | exact HB.out | apply below_alloc | apply pw_below_drewN | apply below_drew1) | exact HB.out)) hb); clear HO_14; clear HO_26; clear HB; have HO_14 := n0_; have HO_26 := n1_; have HO296 := n2_; have HB := n3_; clear n0_ n1_ n2_ n3_; (try clear hb); (try clear hb2); (try clear hk); (try clear hi); (try clear ho0); obtain ⟨Ao78, co78, eo78⟩ := Kd.R_slice HO_26.out; subst eo78) | (go_at_call 27; (with_reducible refine (laws_sum.calls kj60 _ _ t279 t297 _ ?side1 ?side2 A71.out).mono ?_); (case side1 => repeat (first | exact (Kd.R_reads' HO_26.out).2.2 | (with_reducible refine Kd.C_alloc ?_ _) | (with_reducible refine Kd.C_drewN ?_ _) | (with_reducible refine Kd.C_drew ?_))); (case side2 => exact (Kd.R_reads' HO_26.out).2.1); rintro e w' ⟨rfl, ⟨nd, rfl⟩⟩; (try first | exact ⟨rfl, _, World.drewN_drewN _ _ _⟩ | exact ⟨rfl, _, Eq.trans (World.drewN_drewN _ _ _) (congrArg (World.drewN _) (Nat.add_assoc _ _ _))⟩); obtain ⟨Ao79, co79, eo79⟩ := Kd.R_slice HO296.out; subst eo79; have p298 : 0 ≤ ((ji73) : Int) := of_decide_eq_true (by first | (with_reducible assumption) | assumption); have q298 : (ji73) < (t279.length : Int) := of_decide_eq_true (by first | (with_reducible assumption) | assumption); obtain ⟨ad298, e298, hx298_0⟩ := Kd.at_int (Kd.R_reads' HO_26.out).2.2 (ji73) p298 q298; cases e298; replace p298 := eq_true p298; replace q298 := eq_true q298)); try go_wp2_with (first | (go_at_call 9; (with_reducible refine (impl_SystemsOf.calls t278 t293 t294 _ A69.out).mono ?_); rintro e w77 ⟨v295, rfl, ho0, hb⟩; have n0_ := Aside0.mk (Kd.S_below (by (with_reducible repeat (first | apply Kd.S_alloc | apply Kd.S_drewN | apply Kd.S_drew)); exact HO_14.out) hb); have n1_ := Aside0.mk (Kd.R_below (by (with_reducible repeat (first | apply Kd.R_alloc | apply Kd.R_drewN | apply Kd.R_drew)); exact HO_26.out) hb); have n2_ := Aside0.mk (Kd.R_lower ho0 (below_size (by repeat (first | (with_reducible first | exact HB.out | apply below_alloc | apply pw_below_drewN | apply below_drew1) | exact HB.out)))); have n3_ := Aside0.mk (below_step (by repeat (first | (with_reducible first | exact HB.out | apply below_alloc | apply pw_below_drewN | apply below_drew1) | exact HB.out)) hb); clear HO_14; clear HO_26; clear HB; have HO_14 := n0_; have HO_26 := n1_; have HO296 := n2_; have HB := n3_; clear n0_ n1_ n2_ n3_; (try clear hb); (try clear hb2); (try clear hk); (try clear hi); (try clear ho0); obtain ⟨Ao78, co78, eo78⟩ := Kd.R_slice HO_26.out; subst eo78) | (go_at_call 27; (with_reducible refine (laws_sum.calls kj60 _ _ t279 t297 _ ?side1 ?side2 A71.out).mono ?_); (case side1 => repeat (first | exact (Kd.R_reads' HO_26.out).2.2 | (with_reducible refine Kd.C_alloc ?_ _) | (with_reducible refine Kd.C_drewN ?_ _) | (with_reducible refine Kd.C_drew ?_))); (case side2 => exact (Kd.R_reads' HO_26.out).2.1); rintro e w' ⟨rfl, ⟨nd, rfl⟩⟩; (try first | exact ⟨rfl, _, World.drewN_drewN _ _ _⟩ | exact ⟨rfl, _, Eq.trans (World.drewN_drewN _ _ _) (congrArg (World.drewN _) (Nat.add_assoc _ _ _))⟩); obtain ⟨Ao79, co79, eo79⟩ := Kd.R_slice HO296.out; subst eo79; have p298 : 0 ≤ ((ji73) : Int) := of_decide_eq_true (by first | (with_reducible assumption) | assumption); have q298 : (ji73) < (t279.length : Int) := of_decide_eq_true (by first | (with_reducible assumption) | assumption); obtain ⟨ad298, e298, hx298_0⟩ := Kd.at_int (Kd.R_reads' HO_26.out).2.2 (ji73) p298 q298; cases e298; replace p298 := eq_true p298; replace q298 := eq_true q298)))
                           go_meet
                           case rel => exact ⟨_, H', ⟨by have := HJ6.out; have := HJ18.out; have := HJ27.out; have := HJ39.out; have := HJ48.out; have := HJ60.out; first | omega | exact Nat.le_refl _⟩, ⟨by (with_reducible repeat (first | apply Kd.S_alloc | apply Kd.S_drewN | apply Kd.S_drew)); exact Kd.S_mono HO_14.out (fun _ hk => trivial)⟩, ⟨by repeat (first | (with_reducible first | exact HB.out | apply below_alloc | apply pw_below_drewN | apply below_drew1) | exact HB.out)⟩⟩
                          ·rw [if_neg c76] at H
                           have c76b0 : ((rd t279 (ji73)) == (t293.length : Int)) = false := beq_eq_false_iff_ne.mpr c76
                           have c76b1 : ((rd t279 (ji73)) != (t293.length : Int)) = true := bne_iff_ne.mpr c76
                           obtain rfl := Option.some.inj H
                           go_wp2_with (first | (go_at_call 9; (with_reducible refine (impl_SystemsOf.calls t278 t293 t294 _ A69.out).mono ?_); rintro e w80 ⟨v295, rfl, ho0, hb⟩; have n0_ := Aside0.mk (Kd.S_below (by (with_reducible repeat (first | apply Kd.S_alloc | apply Kd.S_drewN | apply Kd.S_drew)); exact HO_14.out) hb); have n1_ := Aside0.mk (Kd.R_below (by (with_reducible repeat (first | apply Kd.R_alloc | apply Kd.R_drewN | apply Kd.R_drew)); exact HO_26.out) hb); have n2_ := Aside0.mk (Kd.R_lower ho0 (below_size (by repeat (first | (with_reducible first | exact HB.out | apply below_alloc | apply pw_below_drewN | apply below_drew1) | exact HB.out)))); have n3_ := Aside0.mk (below_step (by repeat (first | (with_reducible first | exact HB.out | apply below_alloc | apply pw_below_drewN | apply below_drew1) | exact HB.out)) hb); clear HO_14; clear HO_26; clear HB; have HO_14 := n0_; have HO_26 := n1_; have HO296 := n2_; have HB := n3_; clear n0_ n1_ n2_ n3_; (try clear hb); (try clear hb2); (try clear hk); (try clear hi); (try clear ho0); obtain ⟨Ao81, co81, eo81⟩ := Kd.R_slice HO_26.out; subst eo81) | (go_at_call 27; (with_reducible refine (laws_sum.calls kj60 _ _ t279 t297 _ ?side1 ?side2 A71.out).mono ?_); (case side1 => repeat (first | exact (Kd.R_reads' HO_26.out).2.2 | (with_reducible refine Kd.C_alloc ?_ _) | (with_reducible refine Kd.C_drewN ?_ _) | (with_reducible refine Kd.C_drew ?_))); (case side2 => exact (Kd.R_reads' HO_26.out).2.1); rintro e w' ⟨rfl, ⟨nd, rfl⟩⟩; (try first | exact ⟨rfl, _, World.drewN_drewN _ _ _⟩ | exact ⟨rfl, _, Eq.trans (World.drewN_drewN _ _ _) (congrArg (World.drewN _) (Nat.add_assoc _ _ _))⟩); obtain ⟨Ao82, co82, eo82⟩ := Kd.R_slice HO296.out; subst eo82; have p298 : 0 ≤ ((ji73) : Int) := of_decide_eq_true (by first | (with_reducible assumption) | assumption); have q298 : (ji73) < (t279.length : Int) := of_decide_eq_true (by first | (with_reducible assumption) | assumption); obtain ⟨ad298, e298, hx298_0⟩ := Kd.at_int (Kd.R_reads' HO_26.out).2.2 (ji73) p298 q298; cases e298; replace p298 := eq_true p298; replace q298 := eq_true q298))
                           repeat (go_quiet (first | (go_at_call 9; (with_reducible refine (impl_SystemsOf.calls t278 t293 t294 _ A69.out).mono ?_); rintro e w80 ⟨v295, rfl, ho0, hb⟩; have n0_ := Aside0.mk (Kd.S_below (by (with_reducible repeat (first | apply Kd.S_alloc | apply Kd.S_drewN | apply Kd.S_drew)); exact HO_14.out) hb); have n1_ := Aside0.mk (Kd.R_below (by (with_reducible repeat (first | apply Kd.R_alloc | apply Kd.R_drewN | apply Kd.R_drew)); exact HO_26.out) hb); have n2_ := Aside0.mk (Kd.R_lower ho0 (below_size (by repeat (first | (with_reducible first | exact HB.out | apply below_alloc | apply pw_below_drewN | apply below_drew1) | exact HB.out)))); have n3_ := Aside0.mk (below_step (by repeat (first | (with_reducible first | exact HB.out | apply below_alloc | apply pw_below_drewN | apply below_drew1) | exact HB.out)) hb); clear HO_14; clear HO_26; clear HB; have HO_14 := n0_; have HO_26 := n1_; have HO296 := n2_; have HB := n3_; clear n0_ n1_ n2_ n3_; (try clear hb); (try clear hb2); (try clear hk); (try clear hi); (try clear ho0); obtain ⟨Ao81, co81, eo81⟩ := Kd.R_slice HO_26.out; subst eo81) | (go_at_call 27; (with_reducible refine (laws_sum.calls kj60 _ _ t279 t297 _ ?side1 ?side2 A71.out).mono ?_); (case side1 => repeat (first | exact (Kd.R_reads' HO_26.out).2.2 | (with_reducible refine Kd.C_alloc ?_ _) | (with_reducible refine Kd.C_drewN ?_ _) | (with_reducible refine Kd.C_drew ?_))); (case side2 => exact (Kd.R_reads' HO_26.out).2.1); rintro e w' ⟨rfl, ⟨nd, rfl⟩⟩; (try first | exact ⟨rfl, _, World.drewN_drewN _ _ _⟩ | exact ⟨rfl, _, Eq.trans (World.drewN_drewN _ _ _) (congrArg (World.drewN _) (Nat.add_assoc _ _ _))⟩); obtain ⟨Ao82, co82, eo82⟩ := Kd.R_slice HO296.out; subst eo82; have p298 : 0 ≤ ((ji73) : Int) := of_decide_eq_true (by first | (with_reducible assumption) | assumption); have q298 : (ji73) < (t279.length : Int) := of_decide_eq_true (by first | (with_reducible assumption) | assumption); obtain ⟨ad298, e298, hx298_0⟩ := Kd.at_int (Kd.R_reads' HO_26.out).2.2 (ji73) p298 q298; cases e298; replace p298 := eq_true p298; replace q298 := eq_true q298)); try go_wp2_with (first | (go_at_call 9; (with_reducible refine (impl_SystemsOf.calls t278 t293 t294 _ A69.out).mono ?_); rintro e w80 ⟨v295, rfl, ho0, hb⟩; have n0_ := Aside0.mk (Kd.S_below (by (with_reducible repeat (first | apply Kd.S_alloc | apply Kd.S_drewN | apply Kd.S_drew)); exact HO_14.out) hb); have n1_ := Aside0.mk (Kd.R_below (by (with_reducible repeat (first | apply Kd.R_alloc | apply Kd.R_drewN | apply Kd.R_drew)); exact HO_26.out) hb); have n2_ := Aside0.mk (Kd.R_lower ho0 (below_size (by repeat (first | (with_reducible first | exact HB.out | apply below_alloc | apply pw_below_drewN | apply below_drew1) | exact HB.out)))); have n3_ := Aside0.mk (below_step (by repeat (first | (with_reducible first | exact HB.out | apply below_alloc | apply pw_below_drewN | apply below_drew1) | exact HB.out)) hb); clear HO_14; clear HO_26; clear HB; have HO_14 := n0_; have HO_26 := n1_; have HO296 := n2_; have HB := n3_; clear n0_ n1_ n2_ n3_; (try clear hb); (try clear hb2); (try clear hk); (try clear hi); (try clear ho0); obtain ⟨Ao81, co81, eo81⟩ := Kd.R_slice HO_26.out; subst eo81) | (go_at_call 27; (with_reducible refine (laws_sum.calls kj60 _ _ t279 t297 _ ?side1 ?side2 A71.out).mono ?_); (case side1 => repeat (first | exact (Kd.R_reads' HO_26.out).2.2 | (with_reducible refine Kd.C_alloc ?_ _) | (with_reducible refine Kd.C_drewN ?_ _) | (with_reducible refine Kd.C_drew ?_))); (case side2 => exact (Kd.R_reads' HO_26.out).2.1); rintro e w' ⟨rfl, ⟨nd, rfl⟩⟩; (try first | exact ⟨rfl, _, World.drewN_drewN _ _ _⟩ | exact ⟨rfl, _, Eq.trans (World.drewN_drewN _ _ _) (congrArg (World.drewN _) (Nat.add_assoc _ _ _))⟩); obtain ⟨Ao82, co82, eo82⟩ := Kd.R_slice HO296.out; subst eo82; have p298 : 0 ≤ ((ji73) : Int) := of_decide_eq_true (by first | (with_reducible assumption) | assumption); have q298 : (ji73) < (t279.length : Int) := of_decide_eq_true (by first | (with_reducible assumption) | assumption); obtain ⟨ad298, e298, hx298_0⟩ := Kd.at_int (Kd.R_reads' HO_26.out).2.2 (ji73) p298 q298; cases e298; replace p298 := eq_true p298; replace q298 := eq_true q298)))
                           go_ret
                           exact ⟨by first | rfl | (simp [errW_none, errW_some] <;> rfl) | (simp only [← hji73]; first | rfl | (simp [errW_none, errW_some] <;> rfl)) | (simp [*, errW_none, errW_some] <;> rfl), by repeat (first | (with_reducible first | exact HB.out | apply below_alloc | apply pw_below_drewN | apply below_drew1) | exact HB.out)⟩
                         ·rw [if_neg c75] at H
                          exact absurd H (by simp)
                        ·rw [if_neg c74] at H
                         exact absurd H (by simp)
                       ·rw [if_neg c72] at H
                        have c72b0 : (t297 == (wrap64 ((t293.length : Int) * (t293.length : Int)))) = false := beq_eq_false_iff_ne.mpr c72
                        have c72b1 : (t297 != (wrap64 ((t293.length : Int) * (t293.length : Int)))) = true := bne_iff_ne.mpr c72
                        obtain rfl := Option.some.inj H
                        go_wp2_with (first | (go_at_call 9; (with_reducible refine (impl_SystemsOf.calls t278 t293 t294 _ A69.out).mono ?_); rintro e w83 ⟨v295, rfl, ho0, hb⟩; have n0_ := Aside0.mk (Kd.S_below (by (with_reducible repeat (first | apply Kd.S_alloc | apply Kd.S_drewN | apply Kd.S_drew)); exact HO_14.out) hb); have n1_ := Aside0.mk (Kd.R_below (by (with_reducible repeat (first | apply Kd.R_alloc | apply Kd.R_drewN | apply Kd.R_drew)); exact HO_26.out) hb); have n2_ := Aside0.mk (Kd.R_lower ho0 (below_size (by repeat (first | (with_reducible first | exact HB.out | apply below_alloc | apply pw_below_drewN | apply below_drew1) | exact HB.out)))); have n3_ := Aside0.mk (below_step (by repeat (first | (with_reducible first | exact HB.out | apply below_alloc | apply pw_below_drewN | apply below_drew1) | exact HB.out)) hb); clear HO_14; clear HO_26; clear HB; have HO_14 := n0_; have HO_26 := n1_; have HO296 := n2_; have HB := n3_; clear n0_ n1_ n2_ n3_; (try clear hb); (try clear hb2); (try clear hk); (try clear hi); (try clear ho0); obtain ⟨Ao84, co84, eo84⟩ := Kd.R_slice HO_26.out; subst eo84) | (go_at_call 27; (with_reducible refine (laws_sum.calls kj60 _ _ t279 t297 _ ?side1 ?side2 A71.out).mono ?_); (case side1 => repeat (first | exact (Kd.R_reads' HO_26.out).2.2 | (with_reducible refine Kd.C_alloc ?_ _) | (with_reducible refine Kd.C_drewN ?_ _) | (with_reducible refine Kd.C_drew ?_))); (case side2 => exact (Kd.R_reads' HO_26.out).2.1); rintro e w' ⟨rfl, ⟨nd, rfl⟩⟩; (try first | exact ⟨rfl, _, World.drewN_drewN _ _ _⟩ | exact ⟨rfl, _, Eq.trans (World.drewN_drewN _ _ _) (congrArg (World.drewN _) (Nat.add_assoc _ _ _))⟩); obtain ⟨Ao85, co85, eo85⟩ := Kd.R_slice HO296.out; subst eo85))
                        repeat (go_quiet (first | (go_at_call 9; (with_reducible refine (impl_SystemsOf.calls t278 t293 t294 _ A69.out).mono ?_); rintro e w83 ⟨v295, rfl, ho0, hb⟩; have n0_ := Aside0.mk (Kd.S_below (by (with_reducible repeat (first | apply Kd.S_alloc | apply Kd.S_drewN | apply Kd.S_drew)); exact HO_14.out) hb); have n1_ := Aside0.mk (Kd.R_below (by (with_reducible repeat (first | apply Kd.R_alloc | apply Kd.R_drewN | apply Kd.R_drew)); exact HO_26.out) hb); have n2_ := Aside0.mk (Kd.R_lower ho0 (below_size (by repeat (first | (with_reducible first | exact HB.out | apply below_alloc | apply pw_below_drewN | apply below_drew1) | exact HB.out)))); have n3_ := Aside0.mk (below_step (by repeat (first | (with_reducible first | exact HB.out | apply below_alloc | apply pw_below_drewN | apply below_drew1) | exact HB.out)) hb); clear HO_14; clear HO_26; clear HB; have HO_14 := n0_; have HO_26 := n1_; have HO296 := n2_; have HB := n3_; clear n0_ n1_ n2_ n3_; (try clear hb); (try clear hb2); (try clear hk); (try clear hi); (try clear ho0); obtain ⟨Ao84, co84, eo84⟩ := Kd.R_slice HO_26.out; subst eo84) | (go_at_call 27; (with_reducible refine (laws_sum.calls kj60 _ _ t279 t297 _ ?side1 ?side2 A71.out).mono ?_); (case side1 => repeat (first | exact (Kd.R_reads' HO_26.out).2.2 | (with_reducible refine Kd.C_alloc ?_ _) | (with_reducible refine Kd.C_drewN ?_ _) | (with_reducible refine Kd.C_drew ?_))); (case side2 => exact (Kd.R_reads' HO_26.out).2.1); rintro e w' ⟨rfl, ⟨nd, rfl⟩⟩; (try first | exact ⟨rfl, _, World.drewN_drewN _ _ _⟩ | exact ⟨rfl, _, Eq.trans (World.drewN_drewN _ _ _) (congrArg (World.drewN _) (Nat.add_assoc _ _ _))⟩); obtain ⟨Ao85, co85, eo85⟩ := Kd.R_slice HO296.out; subst eo85)); try go_wp2_with (first | (go_at_call 9; (with_reducible refine (impl_SystemsOf.calls t278 t293 t294 _ A69.out).mono ?_); rintro e w83 ⟨v295, rfl, ho0, hb⟩; have n0_ := Aside0.mk (Kd.S_below (by (with_reducible repeat (first | apply Kd.S_alloc | apply Kd.S_drewN | apply Kd.S_drew)); exact HO_14.out) hb); have n1_ := Aside0.mk (Kd.R_below (by (with_reducible repeat (first | apply Kd.R_alloc | apply Kd.R_drewN | apply Kd.R_drew)); exact HO_26.out) hb); have n2_ := Aside0.mk (Kd.R_lower ho0 (below_size (by repeat (first | (with_reducible first | exact HB.out | apply below_alloc | apply pw_below_drewN | apply below_drew1) | exact HB.out)))); have n3_ := Aside0.mk (below_step (by repeat (first | (with_reducible first | exact HB.out | apply below_alloc | apply pw_below_drewN | apply below_drew1) | exact HB.out)) hb); clear HO_14; clear HO_26; clear HB; have HO_14 := n0_; have HO_26 := n1_; have HO296 := n2_; have HB := n3_; clear n0_ n1_ n2_ n3_; (try clear hb); (try clear hb2); (try clear hk); (try clear hi); (try clear ho0); obtain ⟨Ao84, co84, eo84⟩ := Kd.R_slice HO_26.out; subst eo84) | (go_at_call 27; (with_reducible refine (laws_sum.calls kj60 _ _ t279 t297 _ ?side1 ?side2 A71.out).mono ?_); (case side1 => repeat (first | exact (Kd.R_reads' HO_26.out).2.2 | (with_reducible refine Kd.C_alloc ?_ _) | (with_reducible refine Kd.C_drewN ?_ _) | (with_reducible refine Kd.C_drew ?_))); (case side2 => exact (Kd.R_reads' HO_26.out).2.1); rintro e w' ⟨rfl, ⟨nd, rfl⟩⟩; (try first | exact ⟨rfl, _, World.drewN_drewN _ _ _⟩ | exact ⟨rfl, _, Eq.trans (World.drewN_drewN _ _ _) (congrArg (World.drewN _) (Nat.add_assoc _ _ _))⟩); obtain ⟨Ao85, co85, eo85⟩ := Kd.R_slice HO296.out; subst eo85)))
                        go_ret
                        exact ⟨by first | rfl | (simp [errW_none, errW_some] <;> rfl) | (simp [*, errW_none, errW_some] <;> rfl), by repeat (first | (with_reducible first | exact HB.out | apply below_alloc | apply pw_below_drewN | apply below_drew1) | exact HB.out)⟩
                      ·rw [if_neg c70] at H
                       have c70b0 : (t294 == 0) = false := beq_eq_false_iff_ne.mpr c70
                       have c70b1 : (t294 != 0) = true := bne_iff_ne.mpr c70
                       obtain rfl := Option.some.inj H
                       go_wp2_with (first | (go_at_call 9; (with_reducible refine (impl_SystemsOf.calls t278 t293 t294 _ A69.out).mono ?_); rintro e w86 ⟨v295, rfl, ho0, hb⟩; have n0_ := Aside0.mk (Kd.S_below (by (with_reducible repeat (first | apply Kd.S_alloc | apply Kd.S_drewN | apply Kd.S_drew)); exact HO_14.out) hb); have n1_ := Aside0.mk (Kd.R_below (by (with_reducible repeat (first | apply Kd.R_alloc | apply Kd.R_drewN | apply Kd.R_drew)); exact HO_26.out) hb); have n2_ := Aside0.mk (Kd.R_lower ho0 (below_size (by repeat (first | (with_reducible first | exact HB.out | apply below_alloc | apply pw_below_drewN | apply below_drew1) | exact HB.out)))); have n3_ := Aside0.mk (below_step (by repeat (first | (with_reducible first | exact HB.out | apply below_alloc | apply pw_below_drewN | apply below_drew1) | exact HB.out)) hb); clear HO_14; clear HO_26; clear HB; have HO_14 := n0_; have HO_26 := n1_; have HO296 := n2_; have HB := n3_; clear n0_ n1_ n2_ n3_; (try clear hb); (try clear hb2); (try clear hk); (try clear hi); (try clear ho0)))
                       repeat (go_quiet (first | (go_at_call 9; (with_reducible refine (impl_SystemsOf.calls t278 t293 t294 _ A69.out).mono ?_); rintro e w86 ⟨v295, rfl, ho0, hb⟩; have n0_ := Aside0.mk (Kd.S_below (by (with_reducible repeat (first | apply Kd.S_alloc | apply Kd.S_drewN | apply Kd.S_drew)); exact HO_14.out) hb); have n1_ := Aside0.mk (Kd.R_below (by (with_reducible repeat (first | apply Kd.R_alloc | apply Kd.R_drewN | apply Kd.R_drew)); exact HO_26.out) hb); have n2_ := Aside0.mk (Kd.R_lower ho0 (below_size (by repeat (first | (with_reducible first | exact HB.out | apply below_alloc | apply pw_below_drewN | apply below_drew1) | exact HB.out)))); have n3_ := Aside0.mk (below_step (by repeat (first | (with_reducible first | exact HB.out | apply below_alloc | apply pw_below_drewN | apply below_drew1) | exact HB.out)) hb); clear HO_14; clear HO_26; clear HB; have HO_14 := n0_; have HO_26 := n1_; have HO296 := n2_; have HB := n3_; clear n0_ n1_ n2_ n3_; (try clear hb); (try clear hb2); (try clear hk); (try clear hi); (try clear ho0))); try go_wp2_with (first | (go_at_call 9; (with_reducible refine (impl_SystemsOf.calls t278 t293 t294 _ A69.out).mono ?_); rintro e w86 ⟨v295, rfl, ho0, hb⟩; have n0_ := Aside0.mk (Kd.S_below (by (with_reducible repeat (first | apply Kd.S_alloc | apply Kd.S_drewN | apply Kd.S_drew)); exact HO_14.out) hb); have n1_ := Aside0.mk (Kd.R_below (by (with_reducible repeat (first | apply Kd.R_alloc | apply Kd.R_drewN | apply Kd.R_drew)); exact HO_26.out) hb); have n2_ := Aside0.mk (Kd.R_lower ho0 (below_size (by repeat (first | (with_reducible first | exact HB.out | apply below_alloc | apply pw_below_drewN | apply below_drew1) | exact HB.out)))); have n3_ := Aside0.mk (below_step (by repeat (first | (with_reducible first | exact HB.out | apply below_alloc | apply pw_below_drewN | apply below_drew1) | exact HB.out)) hb); clear HO_14; clear HO_26; clear HB; have HO_14 := n0_; have HO_26 := n1_; have HO296 := n2_; have HB := n3_; clear n0_ n1_ n2_ n3_; (try clear hb); (try clear hb2); (try clear hk); (try clear hi); (try clear ho0))))
                       go_ret
                       exact ⟨by first | rfl | (simp [errW_none, errW_some] <;> rfl) | (simp [*, errW_none, errW_some] <;> rfl), by repeat (first | (with_reducible first | exact HB.out | apply below_alloc | apply pw_below_drewN | apply below_drew1) | exact HB.out)⟩
                     ·rw [if_neg c68] at H
                      have c68b0 : (t280 == 0) = false := beq_eq_false_iff_ne.mpr c68
                      have c68b1 : (t280 != 0) = true := bne_iff_ne.mpr c68
                      (first | rw [c68b0] | (simp only [i64_w, i32_w]; rw [c68b0]) | skip)
                      have H' := Aside0.mk H
                      clear H
                      go_wp2
                      repeat (go_quiet (fail); try go_wp2)
                      go_meet
                      case rel => exact ⟨_, H', ⟨by have := HJ6.out; have := HJ18.out; have := HJ27.out; have := HJ39.out; have := HJ48.out; have := HJ60.out; first | omega | exact Nat.le_refl _⟩, ⟨by (with_reducible repeat (first | apply Kd.S_alloc | apply Kd.S_drewN | apply Kd.S_drew)); exact Kd.S_mono HO_14.out (fun _ hk => trivial)⟩, ⟨by repeat (first | (with_reducible first | exact HB.out | apply below_alloc | apply pw_below_drewN | apply below_drew1) | exact HB.out)⟩⟩
                    case rest => as_aux_lemma =>
                     clear HC67
                     try clear c1
                     try clear c2
                     try clear p2
                     try clear q2
                     try clear hx2
                     try clear c3
                     try clear c4
                     try clear c5
                     try clear c6
                     try clear p6
                     try clear c7
                     try clear c11
                     try clear c11b0
                     try clear c11b1
                     try clear c15
                     try clear c23
                     try clear c23b0
                     try clear c23b1
                     try clear c24
                     try clear p29
                     try clear q29
                     try clear hx29
                     try clear c32
                     try clear c32b0
                     try clear c32b1
                     try clear c36
                     try clear c44
                     try clear c44b0
                     try clear c44b1
                     try clear c45
                     try clear c53
                     try clear c53b0
                     try clear c53b1
                     try clear c57
                     try clear p64
                     try clear c65
                     try clear c65b0
                     try clear c65b1
                     try clear c66
                     try clear c68
                     try clear c68b0
                     try clear c68b1
                     try clear c70
                     try clear c70b0
                     try clear c70b1
                     try clear c72
                     try clear c72b0
                     try clear c72b1
                     try clear c74
                     try clear c74b0
                     try clear c75
                     try clear c75b0
                     try clear c76
                     try clear c76b0
                     try clear c76b1
                     try clear hx298_0
                     try clear p2
                     try clear p298
                     try clear q298
                     obtain ⟨kq, HA, HJ66, HO_14, HB⟩ := hcut
                     cases kq with
                     | zero => exact absurd HA.out (by simp [laws_FnMeanderCounts.j6])
                     | succ kj66 =>
                      have H := HA.out
                      clear HA
                      simp only [laws_FnMeanderCounts.j6] at H
                      have H' := Aside0.mk H
                      clear H
                      go_wp2
                      repeat (go_quiet (fail); try go_wp2)
                      go_loopg [37] kj66 (fun kq v37 w' => ∃ (x37_8 : Int), v37 = .int .i64 x37_8 ∧ Aside0 (laws_FnMeanderCounts.l0 kq t261 t262 x37_8 = some r) ∧ Aside0 (kq ≤ kj66) ∧ Aside0 (Kd.S (Kd.slice 2 (Kd.int .i64)) 40 w' w.heap.size (fun _ => True) v264 t262) ∧ Aside0 (Below w.heap.size w w'))
                      case atStart => exact ⟨(0), (by first | rfl | (simp; done) | (simp [*]; done)), H', ⟨Nat.le_refl _⟩, ⟨by (with_reducible repeat (first | apply Kd.S_alloc | apply Kd.S_drewN | apply Kd.S_drew)); exact HO_14.out⟩, ⟨by repeat (first | (with_reducible first | exact HB.out | apply below_alloc | apply pw_below_drewN | apply below_drew1) | exact HB.out)⟩⟩
                      case round => as_aux_lemma =>
                       clear H'
                       try clear c1
                       try clear c2
                       try clear p2
                       try clear q2
                       try clear hx2
                       try clear c3
                       try clear c4
                       try clear c5
                       try clear c6
                       try clear p6
                       try clear c7
                       try clear c11
                       try clear c11b0
                       try clear c11b1
                       try clear c15
                       try clear c23
                       try clear c23b0
                       try clear c23b1
                       try clear c24
                       try clear p29
                       try clear q29
                       try clear hx29
                       try clear c32
                       try clear c32b0
                       try clear c32b1
                       try clear c36
                       try clear c44
                       try clear c44b0
                       try clear c44b1
                       try clear c45
                       try clear c53
                       try clear c53b0
                       try clear c53b1
                       try clear c57
                       try clear p64
                       try clear c65
                       try clear c65b0
                       try clear c65b1
                       try clear c66
                       try clear c68
                       try clear c68b0
                       try clear c68b1
                       try clear c70
                       try clear c70b0
                       try clear c70b1
                       try clear c72
                       try clear c72b0
                       try clear c72b1
                       try clear c74
                       try clear c74b0
                       try clear c75
                       try clear c75b0
                       try clear c76
                       try clear c76b0
                       try clear c76b1
                       try clear hx298_0
                       try clear p2
                       try clear p29
                       try clear p298
                       try clear p6
                       try clear p64
                       try clear q2
                       try clear q29
                       try clear q298
                       obtain ⟨x37_8, rfl, HA, HK8, HO_14, HB⟩ := hrel
                       cases gk with
                       | zero => exact absurd HA.out (by simp [laws_FnMeanderCounts.l0])
                       | succ k8 =>
                        have H := HA.out
                        clear HA
                        simp only [laws_FnMeanderCounts.l0] at H
                        by_cases c87 : x37_8 < (t262.length : Int)
                        ·rw [if_pos c87] at H
                         have c87b0 : decide (x37_8 < (t262.length : Int)) = true := decide_eq_true c87
                         clear c87
                         have H' := Aside0.mk H
                         clear H
                         obtain ⟨Ao88, co88, eo88⟩ := Kd.S_slice HO_14.out
                         subst eo88
                         go_wp2
                         repeat (go_quiet (fail); try go_wp2)
                         go_loopg [38] k8 (fun kq v38 w' => ∃ (x38_9 : Int), v38 = .int .i64 x38_9 ∧ Aside0 (laws_FnMeanderCounts.l1 kq t261 t262 x37_8 x38_9 = some r) ∧ Aside0 (kq ≤ k8) ∧ Aside0 (Kd.S (Kd.slice 2 (Kd.int .i64)) 40 w' w.heap.size (fun _ => True) (.slice Ao88 t262.length co88) t262) ∧ Aside0 (Below w.heap.size w w'))
                         case atStart => exact ⟨(0), (by first | rfl | (simp; done) | (simp [*]; done)), H', ⟨Nat.le_refl _⟩, ⟨by (with_reducible repeat (first | apply Kd.S_alloc | apply Kd.S_drewN | apply Kd.S_drew)); exact HO_14.out⟩, ⟨by repeat (first | (with_reducible first | exact HB.out | apply below_alloc | apply pw_below_drewN | apply below_drew1) | exact HB.out)⟩⟩
                         case round => as_aux_lemma =>
                          clear H'
                          try clear c1
                          try clear c2
                          try clear p2
                          try clear q2
                          try clear hx2
                          try clear c3
                          try clear c4
                          try clear c5
                          try clear c6
                          try clear p6
                          try clear c7
                          try clear c8
                          try clear c11
                          try clear c11b0
                          try clear c11b1
                          try clear c15
                          try clear c23
                          try clear c23b0
                          try clear c23b1
                          try clear c24
                          try clear p29
                          try clear q29
                          try clear hx29
                          try clear c32
                          try clear c32b0
                          try clear c32b1
                          try clear c36
                          try clear c44
                          try clear c44b0
                          try clear c44b1
                          try clear c45
                          try clear c53
                          try clear c53b0
                          try clear c53b1
                          try clear c57
                          try clear p64
                          try clear c65
                          try clear c65b0
                          try clear c65b1
                          try clear c66
                          try clear c68
                          try clear c68b0
                          try clear c68b1
                          try clear c70
                          try clear c70b0
                          try clear c70b1
                          try clear c72
                          try clear c72b0
                          try clear c72b1
                          try clear c74
                          try clear c74b0
                          try clear c75
                          try clear c75b0
                          try clear c76
                          try clear c76b0
                          try clear c76b1
                          try clear c87
                          try clear c87b0
                          try clear hx298_0
                          try clear p2
                          try clear p29
                          try clear p298
                          try clear p6
                          try clear p64
                          try clear q2
                          try clear q29
                          try clear q298
                          obtain ⟨x38_9, rfl, HA, HK9, HO_14, HB⟩ := hrel
                          cases gk with
                          | zero => exact absurd HA.out (by simp [laws_FnMeanderCounts.l1])
                          | succ k9 =>
                           have H := HA.out
                           clear HA
                           simp only [laws_FnMeanderCounts.l1] at H
                           by_cases c89 : x38_9 ≤ x37_8
                           ·rw [if_pos c89] at H
                            have c89b0 : decide (x38_9 ≤ x37_8) = true := decide_eq_true c89
                            clear c89
                            by_cases c90 : 0 ≤ x37_8
                            ·rw [if_pos c90] at H
                             have c90b0 : decide (0 ≤ x37_8) = true := decide_eq_true c90
                             clear c90
                             by_cases c91 : x37_8 < (t262.length : Int)
                             ·rw [if_pos c91] at H
                              have c91b0 : decide (x37_8 < (t262.length : Int)) = true := decide_eq_true c91
                              clear c91
                              by_cases c92 : 0 ≤ x38_9
                              ·rw [if_pos c92] at H
                               have c92b0 : decide (0 ≤ x38_9) = true := decide_eq_true c92
                               clear c92
                               by_cases c93 : x38_9 < ((rd_L3 t262 x37_8).length : Int)
                               ·rw [if_pos c93] at H
                                have c93b0 : decide (x38_9 < ((rd_L3 t262 x37_8).length : Int)) = true := decide_eq_true c93
                                clear c93
                                by_cases c94 : x38_9 < (t262.length : Int)
                                ·rw [if_pos c94] at H
                                 have c94b0 : decide (x38_9 < (t262.length : Int)) = true := decide_eq_true c94
                                 clear c94
                                 by_cases c95 : x37_8 < ((rd_L3 t262 x38_9).length : Int)
                                 ·rw [if_pos c95] at H
                                  have c95b0 : decide (x37_8 < ((rd_L3 t262 x38_9).length : Int)) = true := decide_eq_true c95
                                  clear c95
                                  by_cases c96 : (rd (rd_L3 t262 x37_8) x38_9) = (rd (rd_L3 t262 x38_9) x37_8)
                                  ·rw [if_pos c96] at H
                                   have c96b0 : ((rd (rd_L3 t262 x37_8) x38_9) == (rd (rd_L3 t262 x38_9) x37_8)) = true := beq_iff_eq.mpr c96
                                   have c96b1 : ((rd (rd_L3 t262 x37_8) x38_9) != (rd (rd_L3 t262 x38_9) x37_8)) = false := bne_eq_false_iff_eq.mpr c96
                                   clear c96
                                   by_cases c97 : (((rd (rd_L3 t262 x37_8) x38_9) == t261) != (x37_8 == x38_9)) = true
                                   ·rw [if_pos c97] at H
                                    have c97b0 : (((rd (rd_L3 t262 x37_8) x38_9) == t261) != (x37_8 == x38_9)) = true := c97
                                    (try (have c97b1 : decide (((rd (rd_L3 t262 x37_8) x38_9) == t261) = (x37_8 == x38_9)) = false := by simpa using c97))
                                    (try (have c97b2 : (((rd (rd_L3 t262 x37_8) x38_9) == t261) == (x37_8 == x38_9)) = false := by simpa using c97))
                                    (try (have c97b3 : ¬ (((rd (rd_L3 t262 x37_8) x38_9) == t261) = (x37_8 == x38_9)) := by simpa using c97))
                                    clear c97
                                    obtain rfl := Option.some.inj H
                                    have p299 : 0 ≤ (x37_8 : Int) := of_decide_eq_true (by first | (with_reducible assumption) | assumption)
                                    have q299 : x37_8 < (t262.length : Int) := of_decide_eq_true (by first | (with_reducible assumption) | assumption)
                                    obtain ⟨ad299, A299_0, c299_0, e299, hx299_0, hl299_0, hi299_0⟩ := at_L3 (Kd.S_reads' HO_14.out).2.2 x37_8 p299 q299
                                    cases e299
                                    obtain ⟨ce299, hce299, hMe299, hcc299⟩ := Kd.S_get HO_14.out [] x37_8 p299 (by first | exact q299 | exact of_decide_eq_true (by first | (with_reducible assumption) | assumption) | (have e_ := (Kd.S_reads' HO_14.out).1; omega))
                                    obtain ⟨ve299_0, rfl, ge299_0⟩ := hMe299
                                    have hv299_0 := hcc299 0 _ rfl
                                    rw [Nat.add_zero, show ((Kd.slice 2 (Kd.int .i64))).sz = 1 from rfl, Nat.mul_one] at hv299_0
                                    replace hv299_0 := Option.some.inj (hv299_0.symm.trans hx299_0)
                                    rw [hv299_0] at ge299_0
                                    have HL299_0 := Aside0.mk (show Kd.R (Kd.int .i64) 2 _ _ _ _ (rd_L3 t262 x37_8) from ge299_0)
                                    clear hv299_0 ge299_0
                                    clear hcc299 hce299
                                    have HR299_0 := Aside0.mk hi299_0
                                    have HC299_0 := Aside0.mk hl299_0
                                    clear hi299_0 hl299_0
                                    replace p299 := eq_true p299
                                    replace q299 := eq_true q299
                                    have p300 : 0 ≤ (x38_9 : Int) := of_decide_eq_true (by first | (with_reducible assumption) | assumption)
                                    have q300 : x38_9 < ((rd_L3 t262 x37_8).length : Int) := of_decide_eq_true (by first | (with_reducible assumption) | assumption)
                                    obtain ⟨ad300, e300, hx300_0⟩ := Kd.at_int (by repeat (first | (with_reducible exact HR299_0.out) | (with_reducible refine Kd.C_alloc ?_ _) | (with_reducible refine Kd.C_drewN ?_ _) | (with_reducible refine Kd.C_drew ?_) | exact HR299_0.out)) x38_9 p300 q300
                                    cases e300
                                    replace p300 := eq_true p300
                                    replace q300 := eq_true q300
                                    have p301 : 0 ≤ (x38_9 : Int) := of_decide_eq_true (by first | (with_reducible assumption) | assumption)
                                    have q301 : x38_9 < (t262.length : Int) := of_decide_eq_true (by first | (with_reducible assumption) | assumption)
                                    obtain ⟨ad301, A301_0, c301_0, e301, hx301_0, hl301_0, hi301_0⟩ := at_L3 (Kd.S_reads' HO_14.out).2.2 x38_9 p301 q301
                                    obtain rfl : ad299 = ad301 := (by injection e301)
                                    obtain ⟨ce301, hce301, hMe301, hcc301⟩ := Kd.S_get HO_14.out [] x38_9 p301 (by first | exact q301 | exact of_decide_eq_true (by first | (with_reducible assumption) | assumption) | (have e_ := (Kd.S_reads' HO_14.out).1; omega))
                                    obtain ⟨ve301_0, rfl, ge301_0⟩ := hMe301
                                    have hv301_0 := hcc301 0 _ rfl
                                    rw [Nat.add_zero, show ((Kd.slice 2 (Kd.int .i64))).sz = 1 from rfl, Nat.mul_one] at hv301_0
                                    replace hv301_0 := Option.some.inj (hv301_0.symm.trans hx301_0)
                                    rw [hv301_0] at ge301_0
                                    have HL301_0 := Aside0.mk (show Kd.R (Kd.int .i64) 2 _ _ _ _ (rd_L3 t262 x38_9) from ge301_0)
                                    clear hv301_0 ge301_0
                                    clear hcc301 hce301
                                    have HR301_0 := Aside0.mk hi301_0
                                    have HC301_0 := Aside0.mk hl301_0
                                    clear hi301_0 hl301_0
                                    replace p301 := eq_true p301
                                    replace q301 := eq_true q301
                                    have p302 : 0 ≤ (x37_8 : Int) := of_decide_eq_true (by first | (with_reducible assumption) | assumption)
                                    have q302 : x37_8 < ((rd_L3 t262 x38_9).length : Int) := of_decide_eq_true (by first | (with_reducible assumption) | assumption)
                                    obtain ⟨ad302, e302, hx302_0⟩ := Kd.at_int (by repeat (first | (with_reducible exact HR301_0.out) | (with_reducible refine Kd.C_alloc ?_ _) | (with_reducible refine Kd.C_drewN ?_ _) | (with_reducible refine Kd.C_drew ?_) | exact HR301_0.out)) x37_8 p302 q302
                                    cases e302
                                    replace p302 := eq_true p302
                                    replace q302 := eq_true q302
                                    have p303 : 0 ≤ (x37_8 : Int) := of_decide_eq_true (by first | (with_reducible assumption) | assumption)
                                    have q303 : x37_8 < (t262.length : Int) := of_decide_eq_true (by first | (with_reducible assumption) | assumption)
                                    obtain ⟨ad303, A303_0, c303_0, e303, hx303_0, hl303_0, hi303_0⟩ := at_L3 (Kd.S_reads' HO_14.out).2.2 x37_8 p303 q303
                                    obtain rfl : ad299 = ad303 := (by injection e303)
                                    obtain ⟨ce303, hce303, hMe303, hcc303⟩ := Kd.S_get HO_14.out [] x37_8 p303 (by first | exact q303 | exact of_decide_eq_true (by first | (with_reducible assumption) | assumption) | (have e_ := (Kd.S_reads' HO_14.out).1; omega))
                                    obtain ⟨ve303_0, rfl, ge303_0⟩ := hMe303
                                    have hv303_0 := hcc303 0 _ rfl
                                    rw [Nat.add_zero, show ((Kd.slice 2 (Kd.int .i64))).sz = 1 from rfl, Nat.mul_one] at hv303_0
                                    replace hv303_0 := Option.some.inj (hv303_0.symm.trans hx303_0)
                                    rw [hv303_0] at ge303_0
                                    have HL303_0 := Aside0.mk (show Kd.R (Kd.int .i64) 2 _ _ _ _ (rd_L3 t262 x37_8) from ge303_0)
                                    clear hv303_0 ge303_0
                                    clear hcc303 hce303
                                    have HR303_0 := Aside0.mk hi303_0
                                    have HC303_0 := Aside0.mk hl303_0
                                    clear hi303_0 hl303_0
                                    replace p303 := eq_true p303
                                    replace q303 := eq_true q303
                                    have ea_ := Option.some.inj (hx299_0.symm.trans hx303_0)
                                    injection ea_ with ea_ en_ ec_
                                    subst ea_
                                    subst ec_
                                    clear en_
                                    have p304 : 0 ≤ (x38_9 : Int) := of_decide_eq_true (by first | (with_reducible assumption) | assumption)
                                    have q304 : x38_9 < ((rd_L3 t262 x37_8).length : Int) := of_decide_eq_true (by first | (with_reducible assumption) | assumption)
                                    obtain ⟨ad304, e304, hx304_0⟩ := Kd.at_int (by repeat (first | (with_reducible exact HR303_0.out) | (with_reducible refine Kd.C_alloc ?_ _) | (with_reducible refine Kd.C_drewN ?_ _) | (with_reducible refine Kd.C_drew ?_) | exact HR303_0.out)) x38_9 p304 q304
                                    cases e304
                                    replace p304 := eq_true p304
                                    replace q304 := eq_true q304
                                    go_wp2
                                    repeat (go_quiet (fail); try go_wp2)
                                    go_ret
                                    exact ⟨by first | rfl | (simp [errW_none, errW_some] <;> rfl) | (simp [*, errW_none, errW_some] <;> rfl), by repeat (first | (with_reducible first | exact HB.out | apply below_alloc | apply pw_below_drewN | apply below_drew1) | exact HB.out)⟩
                                   ·rw [if_neg c97] at H
                                    have c97b0 : (((rd (rd_L3 t262 x37_8) x38_9) == t261) != (x37_8 == x38_9)) = false := by simpa using c97
                                    (try (have c97b1 : decide (((rd (rd_L3 t262 x37_8) x38_9) == t261) = (x37_8 == x38_9)) = true := by simpa using c97))
                                    (try (have c97b2 : (((rd (rd_L3 t262 x37_8) x38_9) == t261) == (x37_8 == x38_9)) = true := by simpa using c97))
                                    clear c97
                                    have H' := Aside0.mk H
                                    clear H
                                    have p299 : 0 ≤ (x37_8 : Int) := of_decide_eq_true (by first | (with_reducible assumption) | assumption)
                                    have q299 : x37_8 < (t262.length : Int) := of_decide_eq_true (by first | (with_reducible assumption) | assumption)
                                    obtain ⟨ad299, A299_0, c299_0, e299, hx299_0, hl299_0, hi299_0⟩ := at_L3 (Kd.S_reads' HO_14.out).2.2 x37_8 p299 q299
                                    cases e299
                                    obtain ⟨ce299, hce299, hMe299, hcc299⟩ := Kd.S_get HO_14.out [] x37_8 p299 (by first | exact q299 | exact of_decide_eq_true (by first | (with_reducible assumption) | assumption) | (have e_ := (Kd.S_reads' HO_14.out).1; omega))
                                    obtain ⟨ve299_0, rfl, ge299_0⟩ := hMe299
                                    have hv299_0 := hcc299 0 _ rfl
                                    rw [Nat.add_zero, show ((Kd.slice 2 (Kd.int .i64))).sz = 1 from rfl, Nat.mul_one] at hv299_0
                                    replace hv299_0 := Option.some.inj (hv299_0.symm.trans hx299_0)
                                    rw [hv299_0] at ge299_0
                                    have HL299_0 := Aside0.mk (show Kd.R (Kd.int .i64) 2 _ _ _ _ (rd_L3 t262 x37_8) from ge299_0)
                                    clear hv299_0 ge299_0
                                    clear hcc299 hce299
                                    have HR299_0 := Aside0.mk hi299_0
                                    have HC299_0 := Aside0.mk hl299_0
                                    clear hi299_0 hl299_0
                                    replace p299 := eq_true p299
                                    replace q299 := eq_true q299
                                    have p300 : 0 ≤ (x38_9 : Int) := of_decide_eq_true (by first | (with_reducible assumption) | assumption)
                                    have q300 : x38_9 < ((rd_L3 t262 x37_8).length : Int) := of_decide_eq_true (by first | (with_reducible assumption) | assumption)
                                    obtain ⟨ad300, e300, hx300_0⟩ := Kd.at_int (by repeat (first | (with_reducible exact HR299_0.out) | (with_reducible refine Kd.C_alloc ?_ _) | (with_reducible refine Kd.C_drewN ?_ _) | (with_reducible refine Kd.C_drew ?_) | exact HR299_0.out)) x38_9 p300 q300
                                    cases e300
                                    replace p300 := eq_true p300
                                    replace q300 := eq_true q300
                                    have p301 : 0 ≤ (x38_9 : Int) := of_decide_eq_true (by first | (with_reducible assumption) | assumption)
                                    have q301 : x38_9 < (t262.length : Int) := of_decide_eq_true (by first | (with_reducible assumption) | assumption)
                                    obtain ⟨ad301, A301_0, c301_0, e301, hx301_0, hl301_0, hi301_0⟩ := at_L3 (Kd.S_reads' HO_14.out).2.2 x38_9 p301 q301
                                    obtain rfl : ad299 = ad301 := (by injection e301)
                                    obtain ⟨ce301, hce301, hMe301, hcc301⟩ := Kd.S_get HO_14.out [] x38_9 p301 (by first | exact q301 | exact of_decide_eq_true (by first | (with_reducible assumption) | assumption) | (have e_ := (Kd.S_reads' HO_14.out).1; omega))
                                    obtain ⟨ve301_0, rfl, ge301_0⟩ := hMe301
                                    have hv301_0 := hcc301 0 _ rfl
                                    rw [Nat.add_zero, show ((Kd.slice 2 (Kd.int .i64))).sz = 1 from rfl, Nat.mul_one] at hv301_0
                                    replace hv301_0 := Option.some.inj (hv301_0.symm.trans hx301_0)
                                    rw [hv301_0] at ge301_0
                                    have HL301_0 := Aside0.mk (show Kd.R (Kd.int .i64) 2 _ _ _ _ (rd_L3 t262 x38_9) from ge301_0)
                                    clear hv301_0 ge301_0
                                    clear hcc301 hce301
                                    have HR301_0 := Aside0.mk hi301_0
                                    have HC301_0 := Aside0.mk hl301_0
                                    clear hi301_0 hl301_0
                                    replace p301 := eq_true p301
                                    replace q301 := eq_true q301
                                    have p302 : 0 ≤ (x37_8 : Int) := of_decide_eq_true (by first | (with_reducible assumption) | assumption)
                                    have q302 : x37_8 < ((rd_L3 t262 x38_9).length : Int) := of_decide_eq_true (by first | (with_reducible assumption) | assumption)
                                    obtain ⟨ad302, e302, hx302_0⟩ := Kd.at_int (by repeat (first | (with_reducible exact HR301_0.out) | (with_reducible refine Kd.C_alloc ?_ _) | (with_reducible refine Kd.C_drewN ?_ _) | (with_reducible refine Kd.C_drew ?_) | exact HR301_0.out)) x37_8 p302 q302
                                    cases e302
                                    replace p302 := eq_true p302
                                    replace q302 := eq_true q302
                                    have p303 : 0 ≤ (x37_8 : Int) := of_decide_eq_true (by first | (with_reducible assumption) | assumption)
                                    have q303 : x37_8 < (t262.length : Int) := of_decide_eq_true (by first | (with_reducible assumption) | assumption)
                                    obtain ⟨ad303, A303_0, c303_0, e303, hx303_0, hl303_0, hi303_0⟩ := at_L3 (Kd.S_reads' HO_14.out).2.2 x37_8 p303 q303
                                    obtain rfl : ad299 = ad303 := (by injection e303)
                                    obtain ⟨ce303, hce303, hMe303, hcc303⟩ := Kd.S_get HO_14.out [] x37_8 p303 (by first | exact q303 | exact of_decide_eq_true (by first | (with_reducible assumption) | assumption) | (have e_ := (Kd.S_reads' HO_14.out).1; omega))
                                    obtain ⟨ve303_0, rfl, ge303_0⟩ := hMe303
                                    have hv303_0 := hcc303 0 _ rfl
                                    rw [Nat.add_zero, show ((Kd.slice 2 (Kd.int .i64))).sz = 1 from rfl, Nat.mul_one] at hv303_0
                                    replace hv303_0 := Option.some.inj (hv303_0.symm.trans hx303_0)
                                    rw [hv303_0] at ge303_0
                                    have HL303_0 := Aside0.mk (show Kd.R (Kd.int .i64) 2 _ _ _ _ (rd_L3 t262 x37_8) from ge303_0)
                                    clear hv303_0 ge303_0
                                    clear hcc303 hce303
                                    have HR303_0 := Aside0.mk hi303_0
                                    have HC303_0 := Aside0.mk hl303_0
                                    clear hi303_0 hl303_0
                                    replace p303 := eq_true p303
                                    replace q303 := eq_true q303
                                    have ea_ := Option.some.inj (hx299_0.symm.trans hx303_0)
                                    injection ea_ with ea_ en_ ec_
                                    subst ea_
                                    subst ec_
                                    clear en_
                                    have p304 : 0 ≤ (x38_9 : Int) := of_decide_eq_true (by first | (with_reducible assumption) | assumption)
                                    have q304 : x38_9 < ((rd_L3 t262 x37_8).length : Int) := of_decide_eq_true (by first | (with_reducible assumption) | assumption)
                                    obtain ⟨ad304, e304, hx304_0⟩ := Kd.at_int (by repeat (first | (with_reducible exact HR303_0.out) | (with_reducible refine Kd.C_alloc ?_ _) | (with_reducible refine Kd.C_drewN ?_ _) | (with_reducible refine Kd.C_drew ?_) | exact HR303_0.out)) x38_9 p304 q304
                                    cases e304
                                    replace p304 := eq_true p304
                                    replace q304 := eq_true q304
                                    go_wp2
                                    repeat (go_quiet (fail); try go_wp2)
                                    go_roundg k9
                                    case measure => have := HJ6.out; have := HJ18.out; have := HJ27.out; have := HJ39.out; have := HJ48.out; have := HJ60.out; have := HJ66.out; have := HK8.out; have := HK9.out; omega
                                    case rel => exact ⟨(wrap64 (x38_9 + 1)), (by first | rfl | (simp; done) | (simp [*]; done)), H', ⟨by have := HJ6.out; have := HJ18.out; have := HJ27.out; have := HJ39.out; have := HJ48.out; have := HJ60.out; have := HJ66.out; have := HK8.out; have := HK9.out; omega⟩, ⟨by (with_reducible repeat (first | apply Kd.S_alloc | apply Kd.S_drewN | apply Kd.S_drew)); exact HO_14.out⟩, ⟨by repeat (first | (with_reducible first | exact HB.out | apply below_alloc | apply pw_below_drewN | apply below_drew1) | exact HB.out)⟩⟩
                                  ·rw [if_neg c96] at H
                                   have c96b0 : ((rd (rd_L3 t262 x37_8) x38_9) == (rd (rd_L3 t262 x38_9) x37_8)) = false := beq_eq_false_iff_ne.mpr c96
                                   have c96b1 : ((rd (rd_L3 t262 x37_8) x38_9) != (rd (rd_L3 t262 x38_9) x37_8)) = true := bne_iff_ne.mpr c96
                                   obtain rfl := Option.some.inj H
                                   have p299 : 0 ≤ (x37_8 : Int) := of_decide_eq_true (by first | (with_reducible assumption) | assumption)
                                   have q299 : x37_8 < (t262.length : Int) := of_decide_eq_true (by first | (with_reducible assumption) | assumption)
                                   obtain ⟨ad299, A299_0, c299_0, e299, hx299_0, hl299_0, hi299_0⟩ := at_L3 (Kd.S_reads' HO_14.out).2.2 x37_8 p299 q299
                                   cases e299
                                   obtain ⟨ce299, hce299, hMe299, hcc299⟩ := Kd.S_get HO_14.out [] x37_8 p299 (by first | exact q299 | exact of_decide_eq_true (by first | (with_reducible assumption) | assumption) | (have e_ := (Kd.S_reads' HO_14.out).1; omega))
                                   obtain ⟨ve299_0, rfl, ge299_0⟩ := hMe299
                                   have hv299_0 := hcc299 0 _ rfl
                                   rw [Nat.add_zero, show ((Kd.slice 2 (Kd.int .i64))).sz = 1 from rfl, Nat.mul_one] at hv299_0
                                   replace hv299_0 := Option.some.inj (hv299_0.symm.trans hx299_0)
                                   rw [hv299_0] at ge299_0
                                   have HL299_0 := Aside0.mk (show Kd.R (Kd.int .i64) 2 _ _ _ _ (rd_L3 t262 x37_8) from ge299_0)
                                   clear hv299_0 ge299_0
                                   clear hcc299 hce299
                                   have HR299_0 := Aside0.mk hi299_0
                                   have HC299_0 := Aside0.mk hl299_0
                                   clear hi299_0 hl299_0
                                   replace p299 := eq_true p299
                                   replace q299 := eq_true q299
                                   have p300 : 0 ≤ (x38_9 : Int) := of_decide_eq_true (by first | (with_reducible assumption) | assumption)
                                   have q300 : x38_9 < ((rd_L3 t262 x37_8).length : Int) := of_decide_eq_true (by first | (with_reducible assumption) | assumption)
                                   obtain ⟨ad300, e300, hx300_0⟩ := Kd.at_int (by repeat (first | (with_reducible exact HR299_0.out) | (with_reducible refine Kd.C_alloc ?_ _) | (with_reducible refine Kd.C_drewN ?_ _) | (with_reducible refine Kd.C_drew ?_) | exact HR299_0.out)) x38_9 p300 q300
                                   cases e300
                                   replace p300 := eq_true p300
                                   replace q300 := eq_true q300
                                   have p301 : 0 ≤ (x38_9 : Int) := of_decide_eq_true (by first | (with_reducible assumption) | assumption)
                                   have q301 : x38_9 < (t262.length : Int) := of_decide_eq_true (by first | (with_reducible assumption) | assumption)
                                   obtain ⟨ad301, A301_0, c301_0, e301, hx301_0, hl301_0, hi301_0⟩ := at_L3 (Kd.S_reads' HO_14.out).2.2 x38_9 p301 q301
                                   obtain rfl : ad299 = ad301 := (by injection e301)
                                   obtain ⟨ce301, hce301, hMe301, hcc301⟩ := Kd.S_get HO_14.out [] x38_9 p301 (by first | exact q301 | exact of_decide_eq_true (by first | (with_reducible assumption) | assumption) | (have e_ := (Kd.S_reads' HO_14.out).1; omega))
                                   obtain ⟨ve301_0, rfl, ge301_0⟩ := hMe301
                                   have hv301_0 := hcc301 0 _ rfl
                                   rw [Nat.add_zero, show ((Kd.slice 2 (Kd.int .i64))).sz = 1 from rfl, Nat.mul_one] at hv301_0
                                   replace hv301_0 := Option.some.inj (hv301_0.symm.trans hx301_0)
                                   rw [hv301_0] at ge301_0
                                   have HL301_0 := Aside0.mk (show Kd.R (Kd.int .i64) 2 _ _ _ _ (rd_L3 t262 x38_9) from ge301_0)
                                   clear hv301_0 ge301_0
                                   clear hcc301 hce301
                                   have HR301_0 := Aside0.mk hi301_0
                                   have HC301_0 := Aside0.mk hl301_0
                                   clear hi301_0 hl301_0
                                   replace p301 := eq_true p301
                                   replace q301 := eq_true q301
                                   have p302 : 0 ≤ (x37_8 : Int) := of_decide_eq_true (by first | (with_reducible assumption) | assumption)
                                   have q302 : x37_8 < ((rd_L3 t262 x38_9).length : Int) := of_decide_eq_true (by first | (with_reducible assumption) | assumption)
                                   obtain ⟨ad302, e302, hx302_0⟩ := Kd.at_int (by repeat (first | (with_reducible exact HR301_0.out) | (with_reducible refine Kd.C_alloc ?_ _) | (with_reducible refine Kd.C_drewN ?_ _) | (with_reducible refine Kd.C_drew ?_) | exact HR301_0.out)) x37_8 p302 q302
                                   cases e302
                                   replace p302 := eq_true p302
                                   replace q302 := eq_true q302
                                   go_wp2
                                   repeat (go_quiet (fail); try go_wp2)
                                   go_ret
                                   exact ⟨by first | rfl | (simp [errW_none, errW_some] <;> rfl) | (simp [*, errW_none, errW_some] <;> rfl), by repeat (first | (with_reducible first | exact HB.out | apply below_alloc | apply pw_below_drewN | apply below_drew1) | exact HB.out)⟩
                                 ·rw [if_neg c95] at H
                                  exact absurd H (by simp)
                                ·rw [if_neg c94] at H
                                 exact absurd H (by simp)
                               ·rw [if_neg c93] at H
                                exact absurd H (by simp)
                              ·rw [if_neg c92] at H
                               exact absurd H (by simp)
                             ·rw [if_neg c91] at H
                              exact absurd H (by simp)
                            ·rw [if_neg c90] at H
                             exact absurd H (by simp)
                           ·rw [if_neg c89] at H
                            have c89b0 : decide (x38_9 ≤ x37_8) = false := decide_eq_false c89
                            clear c89
                            have H' := Aside0.mk H
                            clear H
                            go_wp2
                            repeat (go_quiet (fail); try go_wp2)
                            go_roundg k9
                            case measure => have := HJ6.out; have := HJ18.out; have := HJ27.out; have := HJ39.out; have := HJ48.out; have := HJ60.out; have := HJ66.out; have := HK8.out; have := HK9.out; omega
                            case rel => exact ⟨(wrap64 (x37_8 + 1)), (by first | rfl | (simp; done) | (simp [*]; done)), H', ⟨by have := HJ6.out; have := HJ18.out; have := HJ27.out; have := HJ39.out; have := HJ48.out; have := HJ60.out; have := HJ66.out; have := HK8.out; have := HK9.out; omega⟩, ⟨by (with_reducible repeat (first | apply Kd.S_alloc | apply Kd.S_drewN | apply Kd.S_drew)); exact HO_14.out⟩, ⟨by repeat (first | (with_reducible first | exact HB.out | apply below_alloc | apply pw_below_drewN | apply below_drew1) | exact HB.out)⟩⟩
                        ·rw [if_neg c87] at H
                         have c87b0 : decide (x37_8 < (t262.length : Int)) = false := decide_eq_false c87
                         clear c87
                         obtain rfl := Option.some.inj H
                         obtain ⟨Ao98, co98, eo98⟩ := Kd.S_slice HO_14.out
                         subst eo98
                         go_wp2
                         repeat (go_quiet (fail); try go_wp2)
                         go_ret
                         exact ⟨by first | rfl | (simp [errW_none, errW_some] <;> rfl) | (simp [*, errW_none, errW_some] <;> rfl), by repeat (first | (with_reducible first | exact HB.out | apply below_alloc | apply pw_below_drewN | apply below_drew1) | exact HB.out)⟩

/-- THE ONE PURE STATEMENT of laws_FnMeanderCounts: yours. -/
def laws_FnMeanderCounts.Pure : Prop := ∀ (l0 : List Int), l0.length ≤ maxLen → l0.length * 1 ≤ 140737488351232 → (∀ x ∈ l0, (Lit.int .u8 x).wf = true) → ∃ k, laws_FnMeanderCounts.f k l0 = some true
theorem laws_FnMeanderCounts.walk (P : laws_FnMeanderCounts.Pure) (a0 : Option Addr) (len0 cap0 : Nat) (z0 : List Int) (w : World) (w0 : (a0 = none ∧ len0 = 0 ∧ cap0 = 0 ∧ z0 = []) ∨ ∃ x, a0 = some x ∧ len0 ≤ cap0 ∧ cap0 ≤ maxLen ∧ z0.length = cap0 ∧ (∀ i, i < z0.length → w.cell? (x.add i) = some (.int .u8 (z0.getD i 0))) ∧ ∀ n ∈ z0, (Lit.int .u8 n).wf = true) (y0 : len0 * 1 ≤ 140737488351232) :
  Calls Try.prog 4 #[.slice a0 len0 cap0] w fun e w' => e = .returned (.bool true) ∧ Below w.heap.size w w' := by
 obtain ⟨l0, rfl, hr0, hm0, hw0, hc0⟩ := ReadsInt.ofRowC w0
 obtain ⟨k, h⟩ := P l0 hm0 y0 hw0
 refine (laws_FnMeanderCounts.calls k _ _ l0 true w (Kd.C_of_reads (d := (0 : Int)) (h1 := fun _ => rfl) hr0) hc0 h).mono ?_
 rintro e w' ⟨rfl, hd⟩
 exact ⟨rfl, hd⟩

end Go.Proofs.Ytaaemhjdnncgdaa.Q
