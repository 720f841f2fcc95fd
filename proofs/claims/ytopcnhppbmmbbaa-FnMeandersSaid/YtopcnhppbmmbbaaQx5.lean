/- Contracts, walks and rows for laws of the seat Ytopcnhppbmmbbaa, written by a program of this session out of the translation: plain Lean, checked by Lean. No condition. -/
import Derived.Test.YtopcnhppbmmbbaaQx0
import Derived.Test.YtopcnhppbmmbbaaQx1
import Derived.Test.YtopcnhppbmmbbaaQx2
import Derived.Test.YtopcnhppbmmbbaaQx3
import Derived.Test.YtopcnhppbmmbbaaQx4
namespace Go.Proofs.Ytopcnhppbmmbbaa.Q
open Go.Proofs.Ytopcnhppbmmbbaa.Hand
open Go.RowKit Go.Proofs.YtopcnhppbmmbbaaW.PrintWords Go.Proofs.YtopcnhppbmmbbaaW.PrintLast Go.Proofs.YtopcnhppbmmbbaaW.PrintMore
attribute [local go_sem] max2_int min2_int max_two min_two max_three min_three max_four min_four   -- for this text's walks alone
set_option linter.unusedVariables false
set_option linter.unusedSimpArgs false

/-! ### laws_FnMeanders: function 3 -/
mutual
def laws_FnMeanders.j0 : Nat → List Int → ByteArray → ByteArray → Int → Int → Bool → Option (Bool)
  | 0, _, _, _, _, _, _ => none
  | k + 1, x0, x3, x4, x5, x6, x78 => if x78 = true then (some false) else ((spec_DrawOrderOfMeander.f k x0).bind fun bt325 => ((impl_OrderOfMeander.f k bt325.1 bt325.2).bind fun bt327 => ((spec_OrderOfMeander.f k bt325.1 bt325.2).bind fun bt331 => (if bt327.2 = bt331.2 then ((laws_likeInts.f k bt327.1 bt331.1).bind fun t335 => (laws_FnMeanders.j1 k x0 x3 x4 x5 x6 bt325.1 bt325.2 bt327.1 bt327.2 (!t335))) else (laws_FnMeanders.j1 k x0 x3 x4 x5 x6 bt325.1 bt325.2 bt327.1 bt327.2 true)))))
def laws_FnMeanders.j1 : Nat → List Int → ByteArray → ByteArray → Int → Int → ByteArray → ByteArray → List Int → Int → Bool → Option (Bool)
  | 0, _, _, _, _, _, _, _, _, _, _ => none
  | k + 1, x0, x3, x4, x5, x6, x9, x10, x11, x12, x104 => if x104 = true then (some false) else ((spec_DrawMeanderOfOrder.f k x0).bind fun t336 => ((impl_MeanderOfOrder.f k t336).bind fun bt339 => ((spec_MeanderOfOrder.f k t336).bind fun bt342 => (if bt339.2.2 = bt342.2.2 then (if bt339.1.toList = bt342.1.toList then (laws_FnMeanders.j2 k x0 x3 x4 x5 x6 x9 x10 x11 x12 t336 bt339.1 bt339.2.1 bt339.2.2 (bt339.2.1.toList != bt342.2.1.toList)) else (laws_FnMeanders.j2 k x0 x3 x4 x5 x6 x9 x10 x11 x12 t336 bt339.1 bt339.2.1 bt339.2.2 true)) else (laws_FnMeanders.j2 k x0 x3 x4 x5 x6 x9 x10 x11 x12 t336 bt339.1 bt339.2.1 bt339.2.2 true)))))
def laws_FnMeanders.j2 : Nat → List Int → ByteArray → ByteArray → Int → Int → ByteArray → ByteArray → List Int → Int → List Int → ByteArray → ByteArray → Int → Bool → Option (Bool)
  | 0, _, _, _, _, _, _, _, _, _, _, _, _, _, _ => none
  | k + 1, x0, x3, x4, x5, x6, x9, x10, x11, x12, x15, x16, x17, x18, x131 => if x131 = true then (some false) else ((impl_TurnSystem.f k x3).bind fun bt345 => ((spec_TurnSystem.f k x3).bind fun bt347 => (if bt345.2 = bt347.2 then (laws_FnMeanders.j3 k x0 x3 x4 x5 x6 x9 x10 x11 x12 x15 x16 x17 x18 bt345.1 bt345.2 (bt345.1.toList != bt347.1.toList)) else (laws_FnMeanders.j3 k x0 x3 x4 x5 x6 x9 x10 x11 x12 x15 x16 x17 x18 bt345.1 bt345.2 true))))
def laws_FnMeanders.j3 : Nat → List Int → ByteArray → ByteArray → Int → Int → ByteArray → ByteArray → List Int → Int → List Int → ByteArray → ByteArray → Int → ByteArray → Int → Bool → Option (Bool)
  | 0, _, _, _, _, _, _, _, _, _, _, _, _, _, _, _, _ => none
  | k + 1, x0, x3, x4, x5, x6, x9, x10, x11, x12, x15, x16, x17, x18, x22, x23, x149 => if x149 = true then (some false) else ((spec_DrawIsIrreduciblePair.f k x0).bind fun bt349 => ((impl_IsIrreduciblePair.f k bt349.1 bt349.2).bind fun bt351 => ((spec_IsIrreduciblePair.f k bt349.1 bt349.2).bind fun bt353 => (if bt351.2 = bt353.2 then (laws_FnMeanders.j4 k x3 x4 x5 x6 x9 x10 x11 x12 x15 x16 x17 x18 x22 x23 bt351.2 (bt351.1 != bt353.1)) else (laws_FnMeanders.j4 k x3 x4 x5 x6 x9 x10 x11 x12 x15 x16 x17 x18 x22 x23 bt351.2 true)))))
def laws_FnMeanders.j4 : Nat → ByteArray → ByteArray → Int → Int → ByteArray → ByteArray → List Int → Int → List Int → ByteArray → ByteArray → Int → ByteArray → Int → Int → Bool → Option (Bool)
  | 0, _, _, _, _, _, _, _, _, _, _, _, _, _, _, _, _ => none
  | k + 1, x3, x4, x5, x6, x9, x10, x11, x12, x15, x16, x17, x18, x22, x23, x29, x174 => if x174 = true then (some false) else (if x29 = 0 then (laws_FnMeanders.j5 k x3 x4 x5 x6 x9 x10 x11 x12 x15 x16 x17 x18 x22 x23 (x12 == 0)) else (laws_FnMeanders.j5 k x3 x4 x5 x6 x9 x10 x11 x12 x15 x16 x17 x18 x22 x23 false))
def laws_FnMeanders.j5 : Nat → ByteArray → ByteArray → Int → Int → ByteArray → ByteArray → List Int → Int → List Int → ByteArray → ByteArray → Int → ByteArray → Int → Bool → Option (Bool)
  | 0, _, _, _, _, _, _, _, _, _, _, _, _, _, _, _ => none
  | k + 1, x3, x4, x5, x6, x9, x10, x11, x12, x15, x16, x17, x18, x22, x23, x180 => if x180 = true then ((impl_IsIrreduciblePair.f k x9 x10).bind fun bt355 => (if bt355.2 = 0 then (if bt355.1 = true then (laws_FnMeanders.j6 k x3 x4 x5 x6 x9 x10 x11 x12 x15 x16 x17 x18 x22 x23) else (some false)) else (some false))) else (laws_FnMeanders.j6 k x3 x4 x5 x6 x9 x10 x11 x12 x15 x16 x17 x18 x22 x23)
def laws_FnMeanders.j6 : Nat → ByteArray → ByteArray → Int → Int → ByteArray → ByteArray → List Int → Int → List Int → ByteArray → ByteArray → Int → ByteArray → Int → Option (Bool)
  | 0, _, _, _, _, _, _, _, _, _, _, _, _, _, _ => none
  | k + 1, x3, x4, x5, x6, x9, x10, x11, x12, x15, x16, x17, x18, x22, x23 => if x12 = 0 then ((impl_MeanderOfOrder.f k x11).bind fun bt357 => (if bt357.2.2 = 0 then (if bt357.1.toList = x9.toList then (if bt357.2.1.toList = x10.toList then (laws_FnMeanders.j7 k x3 x4 x5 x6 x15 x16 x17 x18 x22 x23) else (some false)) else (some false)) else (some false))) else (laws_FnMeanders.j7 k x3 x4 x5 x6 x15 x16 x17 x18 x22 x23)
def laws_FnMeanders.j7 : Nat → ByteArray → ByteArray → Int → Int → List Int → ByteArray → ByteArray → Int → ByteArray → Int → Option (Bool)
  | 0, _, _, _, _, _, _, _, _, _, _ => none
  | k + 1, x3, x4, x5, x6, x15, x16, x17, x18, x22, x23 => if x18 = 0 then ((impl_OrderOfMeander.f k x16 x17).bind fun bt360 => (if bt360.2 = 0 then ((laws_likeInts.f k bt360.1 x15).bind fun t364 => (if t364 = true then (laws_FnMeanders.j8 k x3 x4 x5 x6 x22 x23) else (some false))) else (some false))) else (laws_FnMeanders.j8 k x3 x4 x5 x6 x22 x23)
def laws_FnMeanders.j8 : Nat → ByteArray → ByteArray → Int → Int → ByteArray → Int → Option (Bool)
  | 0, _, _, _, _, _, _ => none
  | k + 1, x3, x4, x5, x6, x22, x23 => if x6 = 0 then ((impl_ComponentsOfPair.f k x3 x3).bind fun bt365 => ((impl_TurnSystem.f k x4).bind fun bt367 => ((impl_ComponentsOfPair.f k x22 bt367.1).bind fun bt369 => (if bt365.2 = 0 then (if bt365.1 = (wrap64 ((x3.size : Int) / 2)) then (if x23 = 0 then (if bt367.2 = 0 then (if bt369.2 = 0 then (some (bt369.1 == x5)) else (some false)) else (some false)) else (some false)) else (some false)) else (some false))))) else (some (x5 == 0))
end
def laws_FnMeanders.f (k : Nat) (l0 : List Int) : Option (Bool) := (laws_big.f l0).bind fun t316 => (if t316 = true then (some true) else ((spec_DrawComponentsOfPair.f k l0).bind fun bt317 => ((impl_ComponentsOfPair.f k bt317.1 bt317.2).bind fun bt319 => ((spec_ComponentsOfPair.f k bt317.1 bt317.2).bind fun bt321 => (if bt319.2 = bt321.2 then (if bt319.1 = bt321.1 then ((impl_IsSystem.f k bt317.1).bind fun t323 => ((spec_IsSystem.f k bt317.1).bind fun t324 => (laws_FnMeanders.j0 k l0 bt317.1 bt317.2 bt319.1 bt319.2 (t323 != t324)))) else (laws_FnMeanders.j0 k l0 bt317.1 bt317.2 bt319.1 bt319.2 true)) else (laws_FnMeanders.j0 k l0 bt317.1 bt317.2 bt319.1 bt319.2 true))))))
theorem laws_FnMeanders.mono_l : ∀ k, (∀ y0 y1 y2 y3 y4 y5, LeO (laws_FnMeanders.j0 k y0 y1 y2 y3 y4 y5) (laws_FnMeanders.j0 (k + 1) y0 y1 y2 y3 y4 y5)) ∧ (∀ y0 y1 y2 y3 y4 y5 y6 y7 y8 y9, LeO (laws_FnMeanders.j1 k y0 y1 y2 y3 y4 y5 y6 y7 y8 y9) (laws_FnMeanders.j1 (k + 1) y0 y1 y2 y3 y4 y5 y6 y7 y8 y9)) ∧ (∀ y0 y1 y2 y3 y4 y5 y6 y7 y8 y9 y10 y11 y12 y13, LeO (laws_FnMeanders.j2 k y0 y1 y2 y3 y4 y5 y6 y7 y8 y9 y10 y11 y12 y13) (laws_FnMeanders.j2 (k + 1) y0 y1 y2 y3 y4 y5 y6 y7 y8 y9 y10 y11 y12 y13)) ∧ (∀ y0 y1 y2 y3 y4 y5 y6 y7 y8 y9 y10 y11 y12 y13 y14 y15, LeO (laws_FnMeanders.j3 k y0 y1 y2 y3 y4 y5 y6 y7 y8 y9 y10 y11 y12 y13 y14 y15) (laws_FnMeanders.j3 (k + 1) y0 y1 y2 y3 y4 y5 y6 y7 y8 y9 y10 y11 y12 y13 y14 y15)) ∧ (∀ y0 y1 y2 y3 y4 y5 y6 y7 y8 y9 y10 y11 y12 y13 y14 y15, LeO (laws_FnMeanders.j4 k y0 y1 y2 y3 y4 y5 y6 y7 y8 y9 y10 y11 y12 y13 y14 y15) (laws_FnMeanders.j4 (k + 1) y0 y1 y2 y3 y4 y5 y6 y7 y8 y9 y10 y11 y12 y13 y14 y15)) ∧ (∀ y0 y1 y2 y3 y4 y5 y6 y7 y8 y9 y10 y11 y12 y13 y14, LeO (laws_FnMeanders.j5 k y0 y1 y2 y3 y4 y5 y6 y7 y8 y9 y10 y11 y12 y13 y14) (laws_FnMeanders.j5 (k + 1) y0 y1 y2 y3 y4 y5 y6 y7 y8 y9 y10 y11 y12 y13 y14)) ∧ (∀ y0 y1 y2 y3 y4 y5 y6 y7 y8 y9 y10 y11 y12 y13, LeO (laws_FnMeanders.j6 k y0 y1 y2 y3 y4 y5 y6 y7 y8 y9 y10 y11 y12 y13) (laws_FnMeanders.j6 (k + 1) y0 y1 y2 y3 y4 y5 y6 y7 y8 y9 y10 y11 y12 y13)) ∧ (∀ y0 y1 y2 y3 y4 y5 y6 y7 y8 y9, LeO (laws_FnMeanders.j7 k y0 y1 y2 y3 y4 y5 y6 y7 y8 y9) (laws_FnMeanders.j7 (k + 1) y0 y1 y2 y3 y4 y5 y6 y7 y8 y9)) ∧ (∀ y0 y1 y2 y3 y4 y5, LeO (laws_FnMeanders.j8 k y0 y1 y2 y3 y4 y5) (laws_FnMeanders.j8 (k + 1) y0 y1 y2 y3 y4 y5))
  | 0 => ⟨fun _ _ _ _ _ _ r h => by simp [laws_FnMeanders.j0] at h, fun _ _ _ _ _ _ _ _ _ _ r h => by simp [laws_FnMeanders.j1] at h, fun _ _ _ _ _ _ _ _ _ _ _ _ _ _ r h => by simp [laws_FnMeanders.j2] at h, fun _ _ _ _ _ _ _ _ _ _ _ _ _ _ _ _ r h => by simp [laws_FnMeanders.j3] at h, fun _ _ _ _ _ _ _ _ _ _ _ _ _ _ _ _ r h => by simp [laws_FnMeanders.j4] at h, fun _ _ _ _ _ _ _ _ _ _ _ _ _ _ _ r h => by simp [laws_FnMeanders.j5] at h, fun _ _ _ _ _ _ _ _ _ _ _ _ _ _ r h => by simp [laws_FnMeanders.j6] at h, fun _ _ _ _ _ _ _ _ _ _ r h => by simp [laws_FnMeanders.j7] at h, fun _ _ _ _ _ _ r h => by simp [laws_FnMeanders.j8] at h⟩
  | k + 1 => by
    obtain ⟨ih0, ih1, ih2, ih3, ih4, ih5, ih6, ih7, ih8⟩ := laws_FnMeanders.mono_l k
    refine ⟨?_, ?_, ?_, ?_, ?_, ?_, ?_, ?_, ?_⟩
    · intro y0 y1 y2 y3 y4 y5
      unfold laws_FnMeanders.j0
      repeat' first
      | (with_reducible exact ih0 _ _ _ _ _ _)
      | (with_reducible exact ih1 _ _ _ _ _ _ _ _ _ _)
      | (with_reducible exact ih2 _ _ _ _ _ _ _ _ _ _ _ _ _ _)
      | (with_reducible exact ih3 _ _ _ _ _ _ _ _ _ _ _ _ _ _ _ _)
      | (with_reducible exact ih4 _ _ _ _ _ _ _ _ _ _ _ _ _ _ _ _)
      | (with_reducible exact ih5 _ _ _ _ _ _ _ _ _ _ _ _ _ _ _)
      | (with_reducible exact ih6 _ _ _ _ _ _ _ _ _ _ _ _ _ _)
      | (with_reducible exact ih7 _ _ _ _ _ _ _ _ _ _)
      | (with_reducible exact ih8 _ _ _ _ _ _)
      | (with_reducible exact impl_ComponentsOfPair.mono _ _ _)
      | (with_reducible exact impl_IsIrreduciblePair.mono _ _ _)
      | (with_reducible exact impl_IsSystem.mono _ _)
      | (with_reducible exact impl_MeanderOfOrder.mono _ _)
      | (with_reducible exact impl_OrderOfMeander.mono _ _ _)
      | (with_reducible exact impl_TurnSystem.mono _ _)
      | (with_reducible exact laws_likeInts.mono _ _ _)
      | (with_reducible exact spec_ComponentsOfPair.mono _ _ _)
      | (with_reducible exact spec_DrawComponentsOfPair.mono _ _)
      | (with_reducible exact spec_DrawIsIrreduciblePair.mono _ _)
      | (with_reducible exact spec_DrawMeanderOfOrder.mono _ _)
      | (with_reducible exact spec_DrawOrderOfMeander.mono _ _)
      | (with_reducible exact spec_IsIrreduciblePair.mono _ _ _)
      | (with_reducible exact spec_IsSystem.mono _ _)
      | (with_reducible exact spec_MeanderOfOrder.mono _ _)
      | (with_reducible exact spec_OrderOfMeander.mono _ _ _)
      | (with_reducible exact spec_TurnSystem.mono _ _)
      | (with_reducible exact LeO.refl _)
      | (with_reducible exact LeO.none _)
      | (with_reducible refine LeO.ite ?_ ?_)
      | (with_reducible refine LeO.bind ?_ (fun _ => ?_))
      | exact ih0 _ _ _ _ _ _
      | exact ih1 _ _ _ _ _ _ _ _ _ _
      | exact ih2 _ _ _ _ _ _ _ _ _ _ _ _ _ _
      | exact ih3 _ _ _ _ _ _ _ _ _ _ _ _ _ _ _ _
      | exact ih4 _ _ _ _ _ _ _ _ _ _ _ _ _ _ _ _
      | exact ih5 _ _ _ _ _ _ _ _ _ _ _ _ _ _ _
      | exact ih6 _ _ _ _ _ _ _ _ _ _ _ _ _ _
      | exact ih7 _ _ _ _ _ _ _ _ _ _
      | exact ih8 _ _ _ _ _ _
      | exact impl_ComponentsOfPair.mono _ _ _
      | exact impl_IsIrreduciblePair.mono _ _ _
      | exact impl_IsSystem.mono _ _
      | exact impl_MeanderOfOrder.mono _ _
      | exact impl_OrderOfMeander.mono _ _ _
      | exact impl_TurnSystem.mono _ _
      | exact laws_likeInts.mono _ _ _
      | exact spec_ComponentsOfPair.mono _ _ _
      | exact spec_DrawComponentsOfPair.mono _ _
      | exact spec_DrawIsIrreduciblePair.mono _ _
      | exact spec_DrawMeanderOfOrder.mono _ _
      | exact spec_DrawOrderOfMeander.mono _ _
      | exact spec_IsIrreduciblePair.mono _ _ _
      | exact spec_IsSystem.mono _ _
      | exact spec_MeanderOfOrder.mono _ _
      | exact spec_OrderOfMeander.mono _ _ _
      | exact spec_TurnSystem.mono _ _
      | exact LeO.none _
      | refine LeO.ite ?_ ?_
      | refine LeO.bind ?_ (fun _ => ?_)
    · intro y0 y1 y2 y3 y4 y5 y6 y7 y8 y9
      unfold laws_FnMeanders.j1
      repeat' first
      | (with_reducible exact ih0 _ _ _ _ _ _)
      | (with_reducible exact ih1 _ _ _ _ _ _ _ _ _ _)
      | (with_reducible exact ih2 _ _ _ _ _ _ _ _ _ _ _ _ _ _)
      | (with_reducible exact ih3 _ _ _ _ _ _ _ _ _ _ _ _ _ _ _ _)
      | (with_reducible exact ih4 _ _ _ _ _ _ _ _ _ _ _ _ _ _ _ _)
      | (with_reducible exact ih5 _ _ _ _ _ _ _ _ _ _ _ _ _ _ _)
      | (with_reducible exact ih6 _ _ _ _ _ _ _ _ _ _ _ _ _ _)
      | (with_reducible exact ih7 _ _ _ _ _ _ _ _ _ _)
      | (with_reducible exact ih8 _ _ _ _ _ _)
      | (with_reducible exact impl_ComponentsOfPair.mono _ _ _)
      | (with_reducible exact impl_IsIrreduciblePair.mono _ _ _)
      | (with_reducible exact impl_IsSystem.mono _ _)
      | (with_reducible exact impl_MeanderOfOrder.mono _ _)
      | (with_reducible exact impl_OrderOfMeander.mono _ _ _)
      | (with_reducible exact impl_TurnSystem.mono _ _)
      | (with_reducible exact laws_likeInts.mono _ _ _)
      | (with_reducible exact spec_ComponentsOfPair.mono _ _ _)
      | (with_reducible exact spec_DrawComponentsOfPair.mono _ _)
      | (with_reducible exact spec_DrawIsIrreduciblePair.mono _ _)
      | (with_reducible exact spec_DrawMeanderOfOrder.mono _ _)
      | (with_reducible exact spec_DrawOrderOfMeander.mono _ _)
      | (with_reducible exact spec_IsIrreduciblePair.mono _ _ _)
      | (with_reducible exact spec_IsSystem.mono _ _)
      | (with_reducible exact spec_MeanderOfOrder.mono _ _)
      | (with_reducible exact spec_OrderOfMeander.mono _ _ _)
      | (with_reducible exact spec_TurnSystem.mono _ _)
      | (with_reducible exact LeO.refl _)
      | (with_reducible exact LeO.none _)
      | (with_reducible refine LeO.ite ?_ ?_)
      | (with_reducible refine LeO.bind ?_ (fun _ => ?_))
      | exact ih0 _ _ _ _ _ _
      | exact ih1 _ _ _ _ _ _ _ _ _ _
      | exact ih2 _ _ _ _ _ _ _ _ _ _ _ _ _ _
      | exact ih3 _ _ _ _ _ _ _ _ _ _ _ _ _ _ _ _
      | exact ih4 _ _ _ _ _ _ _ _ _ _ _ _ _ _ _ _
      | exact ih5 _ _ _ _ _ _ _ _ _ _ _ _ _ _ _
      | exact ih6 _ _ _ _ _ _ _ _ _ _ _ _ _ _
      | exact ih7 _ _ _ _ _ _ _ _ _ _
      | exact ih8 _ _ _ _ _ _
      | exact impl_ComponentsOfPair.mono _ _ _
      | exact impl_IsIrreduciblePair.mono _ _ _
      | exact impl_IsSystem.mono _ _
      | exact impl_MeanderOfOrder.mono _ _
      | exact impl_OrderOfMeander.mono _ _ _
      | exact impl_TurnSystem.mono _ _
      | exact laws_likeInts.mono _ _ _
      | exact spec_ComponentsOfPair.mono _ _ _
      | exact spec_DrawComponentsOfPair.mono _ _
      | exact spec_DrawIsIrreduciblePair.mono _ _
      | exact spec_DrawMeanderOfOrder.mono _ _
      | exact spec_DrawOrderOfMeander.mono _ _
      | exact spec_IsIrreduciblePair.mono _ _ _
      | exact spec_IsSystem.mono _ _
      | exact spec_MeanderOfOrder.mono _ _
      | exact spec_OrderOfMeander.mono _ _ _
      | exact spec_TurnSystem.mono _ _
      | exact LeO.none _
      | refine LeO.ite ?_ ?_
      | refine LeO.bind ?_ (fun _ => ?_)
    · intro y0 y1 y2 y3 y4 y5 y6 y7 y8 y9 y10 y11 y12 y13
      unfold laws_FnMeanders.j2
      repeat' first
      | (with_reducible exact ih0 _ _ _ _ _ _)
      | (with_reducible exact ih1 _ _ _ _ _ _ _ _ _ _)
      | (with_reducible exact ih2 _ _ _ _ _ _ _ _ _ _ _ _ _ _)
      | (with_reducible exact ih3 _ _ _ _ _ _ _ _ _ _ _ _ _ _ _ _)
      | (with_reducible exact ih4 _ _ _ _ _ _ _ _ _ _ _ _ _ _ _ _)
      | (with_reducible exact ih5 _ _ _ _ _ _ _ _ _ _ _ _ _ _ _)
      | (with_reducible exact ih6 _ _ _ _ _ _ _ _ _ _ _ _ _ _)
      | (with_reducible exact ih7 _ _ _ _ _ _ _ _ _ _)
      | (with_reducible exact ih8 _ _ _ _ _ _)
      | (with_reducible exact impl_ComponentsOfPair.mono _ _ _)
      | (with_reducible exact impl_IsIrreduciblePair.mono _ _ _)
      | (with_reducible exact impl_IsSystem.mono _ _)
      | (with_reducible exact impl_MeanderOfOrder.mono _ _)
      | (with_reducible exact impl_OrderOfMeander.mono _ _ _)
      | (with_reducible exact impl_TurnSystem.mono _ _)
      | (with_reducible exact laws_likeInts.mono _ _ _)
      | (with_reducible exact spec_ComponentsOfPair.mono _ _ _)
      | (with_reducible exact spec_DrawComponentsOfPair.mono _ _)
      | (with_reducible exact spec_DrawIsIrreduciblePair.mono _ _)
      | (with_reducible exact spec_DrawMeanderOfOrder.mono _ _)
      | (with_reducible exact spec_DrawOrderOfMeander.mono _ _)
      | (with_reducible exact spec_IsIrreduciblePair.mono _ _ _)
      | (with_reducible exact spec_IsSystem.mono _ _)
      | (with_reducible exact spec_MeanderOfOrder.mono _ _)
      | (with_reducible exact spec_OrderOfMeander.mono _ _ _)
      | (with_reducible exact spec_TurnSystem.mono _ _)
      | (with_reducible exact LeO.refl _)
      | (with_reducible exact LeO.none _)
      | (with_reducible refine LeO.ite ?_ ?_)
      | (with_reducible refine LeO.bind ?_ (fun _ => ?_))
      | exact ih0 _ _ _ _ _ _
      | exact ih1 _ _ _ _ _ _ _ _ _ _
      | exact ih2 _ _ _ _ _ _ _ _ _ _ _ _ _ _
      | exact ih3 _ _ _ _ _ _ _ _ _ _ _ _ _ _ _ _
      | exact ih4 _ _ _ _ _ _ _ _ _ _ _ _ _ _ _ _
      | exact ih5 _ _ _ _ _ _ _ _ _ _ _ _ _ _ _
      | exact ih6 _ _ _ _ _ _ _ _ _ _ _ _ _ _
      | exact ih7 _ _ _ _ _ _ _ _ _ _
      | exact ih8 _ _ _ _ _ _
      | exact impl_ComponentsOfPair.mono _ _ _
      | exact impl_IsIrreduciblePair.mono _ _ _
      | exact impl_IsSystem.mono _ _
      | exact impl_MeanderOfOrder.mono _ _
      | exact impl_OrderOfMeander.mono _ _ _
      | exact impl_TurnSystem.mono _ _
      | exact laws_likeInts.mono _ _ _
      | exact spec_ComponentsOfPair.mono _ _ _
      | exact spec_DrawComponentsOfPair.mono _ _
      | exact spec_DrawIsIrreduciblePair.mono _ _
      | exact spec_DrawMeanderOfOrder.mono _ _
      | exact spec_DrawOrderOfMeander.mono _ _
      | exact spec_IsIrreduciblePair.mono _ _ _
      | exact spec_IsSystem.mono _ _
      | exact spec_MeanderOfOrder.mono _ _
      | exact spec_OrderOfMeander.mono _ _ _
      | exact spec_TurnSystem.mono _ _
      | exact LeO.none _
      | refine LeO.ite ?_ ?_
      | refine LeO.bind ?_ (fun _ => ?_)
    · intro y0 y1 y2 y3 y4 y5 y6 y7 y8 y9 y10 y11 y12 y13 y14 y15
      unfold laws_FnMeanders.j3
      repeat' first
      | (with_reducible exact ih0 _ _ _ _ _ _)
      | (with_reducible exact ih1 _ _ _ _ _ _ _ _ _ _)
      | (with_reducible exact ih2 _ _ _ _ _ _ _ _ _ _ _ _ _ _)
      | (with_reducible exact ih3 _ _ _ _ _ _ _ _ _ _ _ _ _ _ _ _)
      | (with_reducible exact ih4 _ _ _ _ _ _ _ _ _ _ _ _ _ _ _ _)
      | (with_reducible exact ih5 _ _ _ _ _ _ _ _ _ _ _ _ _ _ _)
      | (with_reducible exact ih6 _ _ _ _ _ _ _ _ _ _ _ _ _ _)
      | (with_reducible exact ih7 _ _ _ _ _ _ _ _ _ _)
      | (with_reducible exact ih8 _ _ _ _ _ _)
      | (with_reducible exact impl_ComponentsOfPair.mono _ _ _)
      | (with_reducible exact impl_IsIrreduciblePair.mono _ _ _)
      | (with_reducible exact impl_IsSystem.mono _ _)
      | (with_reducible exact impl_MeanderOfOrder.mono _ _)
      | (with_reducible exact impl_OrderOfMeander.mono _ _ _)
      | (with_reducible exact impl_TurnSystem.mono _ _)
      | (with_reducible exact laws_likeInts.mono _ _ _)
      | (with_reducible exact spec_ComponentsOfPair.mono _ _ _)
      | (with_reducible exact spec_DrawComponentsOfPair.mono _ _)
      | (with_reducible exact spec_DrawIsIrreduciblePair.mono _ _)
      | (with_reducible exact spec_DrawMeanderOfOrder.mono _ _)
      | (with_reducible exact spec_DrawOrderOfMeander.mono _ _)
      | (with_reducible exact spec_IsIrreduciblePair.mono _ _ _)
      | (with_reducible exact spec_IsSystem.mono _ _)
      | (with_reducible exact spec_MeanderOfOrder.mono _ _)
      | (with_reducible exact spec_OrderOfMeander.mono _ _ _)
      | (with_reducible exact spec_TurnSystem.mono _ _)
      | (with_reducible exact LeO.refl _)
      | (with_reducible exact LeO.none _)
      | (with_reducible refine LeO.ite ?_ ?_)
      | (with_reducible refine LeO.bind ?_ (fun _ => ?_))
      | exact ih0 _ _ _ _ _ _
      | exact ih1 _ _ _ _ _ _ _ _ _ _
      | exact ih2 _ _ _ _ _ _ _ _ _ _ _ _ _ _
      | exact ih3 _ _ _ _ _ _ _ _ _ _ _ _ _ _ _ _
      | exact ih4 _ _ _ _ _ _ _ _ _ _ _ _ _ _ _ _
      | exact ih5 _ _ _ _ _ _ _ _ _ _ _ _ _ _ _
      | exact ih6 _ _ _ _ _ _ _ _ _ _ _ _ _ _
      | exact ih7 _ _ _ _ _ _ _ _ _ _
      | exact ih8 _ _ _ _ _ _
      | exact impl_ComponentsOfPair.mono _ _ _
      | exact impl_IsIrreduciblePair.mono _ _ _
      | exact impl_IsSystem.mono _ _
      | exact impl_MeanderOfOrder.mono _ _
      | exact impl_OrderOfMeander.mono _ _ _
      | exact impl_TurnSystem.mono _ _
      | exact laws_likeInts.mono _ _ _
      | exact spec_ComponentsOfPair.mono _ _ _
      | exact spec_DrawComponentsOfPair.mono _ _
      | exact spec_DrawIsIrreduciblePair.mono _ _
      | exact spec_DrawMeanderOfOrder.mono _ _
      | exact spec_DrawOrderOfMeander.mono _ _
      | exact spec_IsIrreduciblePair.mono _ _ _
      | exact spec_IsSystem.mono _ _
      | exact spec_MeanderOfOrder.mono _ _
      | exact spec_OrderOfMeander.mono _ _ _
      | exact spec_TurnSystem.mono _ _
      | exact LeO.none _
      | refine LeO.ite ?_ ?_
      | refine LeO.bind ?_ (fun _ => ?_)
    · intro y0 y1 y2 y3 y4 y5 y6 y7 y8 y9 y10 y11 y12 y13 y14 y15
      unfold laws_FnMeanders.j4
      repeat' first
      | (with_reducible exact ih0 _ _ _ _ _ _)
      | (with_reducible exact ih1 _ _ _ _ _ _ _ _ _ _)
      | (with_reducible exact ih2 _ _ _ _ _ _ _ _ _ _ _ _ _ _)
      | (with_reducible exact ih3 _ _ _ _ _ _ _ _ _ _ _ _ _ _ _ _)
      | (with_reducible exact ih4 _ _ _ _ _ _ _ _ _ _ _ _ _ _ _ _)
      | (with_reducible exact ih5 _ _ _ _ _ _ _ _ _ _ _ _ _ _ _)
      | (with_reducible exact ih6 _ _ _ _ _ _ _ _ _ _ _ _ _ _)
      | (with_reducible exact ih7 _ _ _ _ _ _ _ _ _ _)
      | (with_reducible exact ih8 _ _ _ _ _ _)
      | (with_reducible exact impl_ComponentsOfPair.mono _ _ _)
      | (with_reducible exact impl_IsIrreduciblePair.mono _ _ _)
      | (with_reducible exact impl_IsSystem.mono _ _)
      | (with_reducible exact impl_MeanderOfOrder.mono _ _)
      | (with_reducible exact impl_OrderOfMeander.mono _ _ _)
      | (with_reducible exact impl_TurnSystem.mono _ _)
      | (with_reducible exact laws_likeInts.mono _ _ _)
      | (with_reducible exact spec_ComponentsOfPair.mono _ _ _)
      | (with_reducible exact spec_DrawComponentsOfPair.mono _ _)
      | (with_reducible exact spec_DrawIsIrreduciblePair.mono _ _)
      | (with_reducible exact spec_DrawMeanderOfOrder.mono _ _)
      | (with_reducible exact spec_DrawOrderOfMeander.mono _ _)
      | (with_reducible exact spec_IsIrreduciblePair.mono _ _ _)
      | (with_reducible exact spec_IsSystem.mono _ _)
      | (with_reducible exact spec_MeanderOfOrder.mono _ _)
      | (with_reducible exact spec_OrderOfMeander.mono _ _ _)
      | (with_reducible exact spec_TurnSystem.mono _ _)
      | (with_reducible exact LeO.refl _)
      | (with_reducible exact LeO.none _)
      | (with_reducible refine LeO.ite ?_ ?_)
      | (with_reducible refine LeO.bind ?_ (fun _ => ?_))
      | exact ih0 _ _ _ _ _ _
      | exact ih1 _ _ _ _ _ _ _ _ _ _
      | exact ih2 _ _ _ _ _ _ _ _ _ _ _ _ _ _
      | exact ih3 _ _ _ _ _ _ _ _ _ _ _ _ _ _ _ _
      | exact ih4 _ _ _ _ _ _ _ _ _ _ _ _ _ _ _ _
      | exact ih5 _ _ _ _ _ _ _ _ _ _ _ _ _ _ _
      | exact ih6 _ _ _ _ _ _ _ _ _ _ _ _ _ _
      | exact ih7 _ _ _ _ _ _ _ _ _ _
      | exact ih8 _ _ _ _ _ _
      | exact impl_ComponentsOfPair.mono _ _ _
      | exact impl_IsIrreduciblePair.mono _ _ _
      | exact impl_IsSystem.mono _ _
      | exact impl_MeanderOfOrder.mono _ _
      | exact impl_OrderOfMeander.mono _ _ _
      | exact impl_TurnSystem.mono _ _
      | exact laws_likeInts.mono _ _ _
      | exact spec_ComponentsOfPair.mono _ _ _
      | exact spec_DrawComponentsOfPair.mono _ _
      | exact spec_DrawIsIrreduciblePair.mono _ _
      | exact spec_DrawMeanderOfOrder.mono _ _
      | exact spec_DrawOrderOfMeander.mono _ _
      | exact spec_IsIrreduciblePair.mono _ _ _
      | exact spec_IsSystem.mono _ _
      | exact spec_MeanderOfOrder.mono _ _
      | exact spec_OrderOfMeander.mono _ _ _
      | exact spec_TurnSystem.mono _ _
      | exact LeO.none _
      | refine LeO.ite ?_ ?_
      | refine LeO.bind ?_ (fun _ => ?_)
    · intro y0 y1 y2 y3 y4 y5 y6 y7 y8 y9 y10 y11 y12 y13 y14
      unfold laws_FnMeanders.j5
      repeat' first
      | (with_reducible exact ih0 _ _ _ _ _ _)
      | (with_reducible exact ih1 _ _ _ _ _ _ _ _ _ _)
      | (with_reducible exact ih2 _ _ _ _ _ _ _ _ _ _ _ _ _ _)
      | (with_reducible exact ih3 _ _ _ _ _ _ _ _ _ _ _ _ _ _ _ _)
      | (with_reducible exact ih4 _ _ _ _ _ _ _ _ _ _ _ _ _ _ _ _)
      | (with_reducible exact ih5 _ _ _ _ _ _ _ _ _ _ _ _ _ _ _)
      | (with_reducible exact ih6 _ _ _ _ _ _ _ _ _ _ _ _ _ _)
      | (with_reducible exact ih7 _ _ _ _ _ _ _ _ _ _)
      | (with_reducible exact ih8 _ _ _ _ _ _)
      | (with_reducible exact impl_ComponentsOfPair.mono _ _ _)
      | (with_reducible exact impl_IsIrreduciblePair.mono _ _ _)
      | (with_reducible exact impl_IsSystem.mono _ _)
      | (with_reducible exact impl_MeanderOfOrder.mono _ _)
      | (with_reducible exact impl_OrderOfMeander.mono _ _ _)
      | (with_reducible exact impl_TurnSystem.mono _ _)
      | (with_reducible exact laws_likeInts.mono _ _ _)
      | (with_reducible exact spec_ComponentsOfPair.mono _ _ _)
      | (with_reducible exact spec_DrawComponentsOfPair.mono _ _)
      | (with_reducible exact spec_DrawIsIrreduciblePair.mono _ _)
      | (with_reducible exact spec_DrawMeanderOfOrder.mono _ _)
      | (with_reducible exact spec_DrawOrderOfMeander.mono _ _)
      | (with_reducible exact spec_IsIrreduciblePair.mono _ _ _)
      | (with_reducible exact spec_IsSystem.mono _ _)
      | (with_reducible exact spec_MeanderOfOrder.mono _ _)
      | (with_reducible exact spec_OrderOfMeander.mono _ _ _)
      | (with_reducible exact spec_TurnSystem.mono _ _)
      | (with_reducible exact LeO.refl _)
      | (with_reducible exact LeO.none _)
      | (with_reducible refine LeO.ite ?_ ?_)
      | (with_reducible refine LeO.bind ?_ (fun _ => ?_))
      | exact ih0 _ _ _ _ _ _
      | exact ih1 _ _ _ _ _ _ _ _ _ _
      | exact ih2 _ _ _ _ _ _ _ _ _ _ _ _ _ _
      | exact ih3 _ _ _ _ _ _ _ _ _ _ _ _ _ _ _ _
      | exact ih4 _ _ _ _ _ _ _ _ _ _ _ _ _ _ _ _
      | exact ih5 _ _ _ _ _ _ _ _ _ _ _ _ _ _ _
      | exact ih6 _ _ _ _ _ _ _ _ _ _ _ _ _ _
      | exact ih7 _ _ _ _ _ _ _ _ _ _
      | exact ih8 _ _ _ _ _ _
      | exact impl_ComponentsOfPair.mono _ _ _
      | exact impl_IsIrreduciblePair.mono _ _ _
      | exact impl_IsSystem.mono _ _
      | exact impl_MeanderOfOrder.mono _ _
      | exact impl_OrderOfMeander.mono _ _ _
      | exact impl_TurnSystem.mono _ _
      | exact laws_likeInts.mono _ _ _
      | exact spec_ComponentsOfPair.mono _ _ _
      | exact spec_DrawComponentsOfPair.mono _ _
      | exact spec_DrawIsIrreduciblePair.mono _ _
      | exact spec_DrawMeanderOfOrder.mono _ _
      | exact spec_DrawOrderOfMeander.mono _ _
      | exact spec_IsIrreduciblePair.mono _ _ _
      | exact spec_IsSystem.mono _ _
      | exact spec_MeanderOfOrder.mono _ _
      | exact spec_OrderOfMeander.mono _ _ _
      | exact spec_TurnSystem.mono _ _
      | exact LeO.none _
      | refine LeO.ite ?_ ?_
      | refine LeO.bind ?_ (fun _ => ?_)
    · intro y0 y1 y2 y3 y4 y5 y6 y7 y8 y9 y10 y11 y12 y13
      unfold laws_FnMeanders.j6
      repeat' first
      | (with_reducible exact ih0 _ _ _ _ _ _)
      | (with_reducible exact ih1 _ _ _ _ _ _ _ _ _ _)
      | (with_reducible exact ih2 _ _ _ _ _ _ _ _ _ _ _ _ _ _)
      | (with_reducible exact ih3 _ _ _ _ _ _ _ _ _ _ _ _ _ _ _ _)
      | (with_reducible exact ih4 _ _ _ _ _ _ _ _ _ _ _ _ _ _ _ _)
      | (with_reducible exact ih5 _ _ _ _ _ _ _ _ _ _ _ _ _ _ _)
      | (with_reducible exact ih6 _ _ _ _ _ _ _ _ _ _ _ _ _ _)
      | (with_reducible exact ih7 _ _ _ _ _ _ _ _ _ _)
      | (with_reducible exact ih8 _ _ _ _ _ _)
      | (with_reducible exact impl_ComponentsOfPair.mono _ _ _)
      | (with_reducible exact impl_IsIrreduciblePair.mono _ _ _)
      | (with_reducible exact impl_IsSystem.mono _ _)
      | (with_reducible exact impl_MeanderOfOrder.mono _ _)
      | (with_reducible exact impl_OrderOfMeander.mono _ _ _)
      | (with_reducible exact impl_TurnSystem.mono _ _)
      | (with_reducible exact laws_likeInts.mono _ _ _)
      | (with_reducible exact spec_ComponentsOfPair.mono _ _ _)
      | (with_reducible exact spec_DrawComponentsOfPair.mono _ _)
      | (with_reducible exact spec_DrawIsIrreduciblePair.mono _ _)
      | (with_reducible exact spec_DrawMeanderOfOrder.mono _ _)
      | (with_reducible exact spec_DrawOrderOfMeander.mono _ _)
      | (with_reducible exact spec_IsIrreduciblePair.mono _ _ _)
      | (with_reducible exact spec_IsSystem.mono _ _)
      | (with_reducible exact spec_MeanderOfOrder.mono _ _)
      | (with_reducible exact spec_OrderOfMeander.mono _ _ _)
      | (with_reducible exact spec_TurnSystem.mono _ _)
      | (with_reducible exact LeO.refl _)
      | (with_reducible exact LeO.none _)
      | (with_reducible refine LeO.ite ?_ ?_)
      | (with_reducible refine LeO.bind ?_ (fun _ => ?_))
      | exact ih0 _ _ _ _ _ _
      | exact ih1 _ _ _ _ _ _ _ _ _ _
      | exact ih2 _ _ _ _ _ _ _ _ _ _ _ _ _ _
      | exact ih3 _ _ _ _ _ _ _ _ _ _ _ _ _ _ _ _
      | exact ih4 _ _ _ _ _ _ _ _ _ _ _ _ _ _ _ _
      | exact ih5 _ _ _ _ _ _ _ _ _ _ _ _ _ _ _
      | exact ih6 _ _ _ _ _ _ _ _ _ _ _ _ _ _
      | exact ih7 _ _ _ _ _ _ _ _ _ _
      | exact ih8 _ _ _ _ _ _
      | exact impl_ComponentsOfPair.mono _ _ _
      | exact impl_IsIrreduciblePair.mono _ _ _
      | exact impl_IsSystem.mono _ _
      | exact impl_MeanderOfOrder.mono _ _
      | exact impl_OrderOfMeander.mono _ _ _
      | exact impl_TurnSystem.mono _ _
      | exact laws_likeInts.mono _ _ _
      | exact spec_ComponentsOfPair.mono _ _ _
      | exact spec_DrawComponentsOfPair.mono _ _
      | exact spec_DrawIsIrreduciblePair.mono _ _
      | exact spec_DrawMeanderOfOrder.mono _ _
      | exact spec_DrawOrderOfMeander.mono _ _
      | exact spec_IsIrreduciblePair.mono _ _ _
      | exact spec_IsSystem.mono _ _
      | exact spec_MeanderOfOrder.mono _ _
      | exact spec_OrderOfMeander.mono _ _ _
      | exact spec_TurnSystem.mono _ _
      | exact LeO.none _
      | refine LeO.ite ?_ ?_
      | refine LeO.bind ?_ (fun _ => ?_)
    · intro y0 y1 y2 y3 y4 y5 y6 y7 y8 y9
      unfold laws_FnMeanders.j7
      repeat' first
      | (with_reducible exact ih0 _ _ _ _ _ _)
      | (with_reducible exact ih1 _ _ _ _ _ _ _ _ _ _)
      | (with_reducible exact ih2 _ _ _ _ _ _ _ _ _ _ _ _ _ _)
      | (with_reducible exact ih3 _ _ _ _ _ _ _ _ _ _ _ _ _ _ _ _)
      | (with_reducible exact ih4 _ _ _ _ _ _ _ _ _ _ _ _ _ _ _ _)
      | (with_reducible exact ih5 _ _ _ _ _ _ _ _ _ _ _ _ _ _ _)
      | (with_reducible exact ih6 _ _ _ _ _ _ _ _ _ _ _ _ _ _)
      | (with_reducible exact ih7 _ _ _ _ _ _ _ _ _ _)
      | (with_reducible exact ih8 _ _ _ _ _ _)
      | (with_reducible exact impl_ComponentsOfPair.mono _ _ _)
      | (with_reducible exact impl_IsIrreduciblePair.mono _ _ _)
      | (with_reducible exact impl_IsSystem.mono _ _)
      | (with_reducible exact impl_MeanderOfOrder.mono _ _)
      | (with_reducible exact impl_OrderOfMeander.mono _ _ _)
      | (with_reducible exact impl_TurnSystem.mono _ _)
      | (with_reducible exact laws_likeInts.mono _ _ _)
      | (with_reducible exact spec_ComponentsOfPair.mono _ _ _)
      | (with_reducible exact spec_DrawComponentsOfPair.mono _ _)
      | (with_reducible exact spec_DrawIsIrreduciblePair.mono _ _)
      | (with_reducible exact spec_DrawMeanderOfOrder.mono _ _)
      | (with_reducible exact spec_DrawOrderOfMeander.mono _ _)
      | (with_reducible exact spec_IsIrreduciblePair.mono _ _ _)
      | (with_reducible exact spec_IsSystem.mono _ _)
      | (with_reducible exact spec_MeanderOfOrder.mono _ _)
      | (with_reducible exact spec_OrderOfMeander.mono _ _ _)
      | (with_reducible exact spec_TurnSystem.mono _ _)
      | (with_reducible exact LeO.refl _)
      | (with_reducible exact LeO.none _)
      | (with_reducible refine LeO.ite ?_ ?_)
      | (with_reducible refine LeO.bind ?_ (fun _ => ?_))
      | exact ih0 _ _ _ _ _ _
      | exact ih1 _ _ _ _ _ _ _ _ _ _
      | exact ih2 _ _ _ _ _ _ _ _ _ _ _ _ _ _
      | exact ih3 _ _ _ _ _ _ _ _ _ _ _ _ _ _ _ _
      | exact ih4 _ _ _ _ _ _ _ _ _ _ _ _ _ _ _ _
      | exact ih5 _ _ _ _ _ _ _ _ _ _ _ _ _ _ _
      | exact ih6 _ _ _ _ _ _ _ _ _ _ _ _ _ _
      | exact ih7 _ _ _ _ _ _ _ _ _ _
      | exact ih8 _ _ _ _ _ _
      | exact impl_ComponentsOfPair.mono _ _ _
      | exact impl_IsIrreduciblePair.mono _ _ _
      | exact impl_IsSystem.mono _ _
      | exact impl_MeanderOfOrder.mono _ _
      | exact impl_OrderOfMeander.mono _ _ _
      | exact impl_TurnSystem.mono _ _
      | exact laws_likeInts.mono _ _ _
      | exact spec_ComponentsOfPair.mono _ _ _
      | exact spec_DrawComponentsOfPair.mono _ _
      | exact spec_DrawIsIrreduciblePair.mono _ _
      | exact spec_DrawMeanderOfOrder.mono _ _
      | exact spec_DrawOrderOfMeander.mono _ _
      | exact spec_IsIrreduciblePair.mono _ _ _
      | exact spec_IsSystem.mono _ _
      | exact spec_MeanderOfOrder.mono _ _
      | exact spec_OrderOfMeander.mono _ _ _
      | exact spec_TurnSystem.mono _ _
      | exact LeO.none _
      | refine LeO.ite ?_ ?_
      | refine LeO.bind ?_ (fun _ => ?_)
    · intro y0 y1 y2 y3 y4 y5
      unfold laws_FnMeanders.j8
      repeat' first
      | (with_reducible exact ih0 _ _ _ _ _ _)
      | (with_reducible exact ih1 _ _ _ _ _ _ _ _ _ _)
      | (with_reducible exact ih2 _ _ _ _ _ _ _ _ _ _ _ _ _ _)
      | (with_reducible exact ih3 _ _ _ _ _ _ _ _ _ _ _ _ _ _ _ _)
      | (with_reducible exact ih4 _ _ _ _ _ _ _ _ _ _ _ _ _ _ _ _)
      | (with_reducible exact ih5 _ _ _ _ _ _ _ _ _ _ _ _ _ _ _)
      | (with_reducible exact ih6 _ _ _ _ _ _ _ _ _ _ _ _ _ _)
      | (with_reducible exact ih7 _ _ _ _ _ _ _ _ _ _)
      | (with_reducible exact ih8 _ _ _ _ _ _)
      | (with_reducible exact impl_ComponentsOfPair.mono _ _ _)
      | (with_reducible exact impl_IsIrreduciblePair.mono _ _ _)
      | (with_reducible exact impl_IsSystem.mono _ _)
      | (with_reducible exact impl_MeanderOfOrder.mono _ _)
      | (with_reducible exact impl_OrderOfMeander.mono _ _ _)
      | (with_reducible exact impl_TurnSystem.mono _ _)
      | (with_reducible exact laws_likeInts.mono _ _ _)
      | (with_reducible exact spec_ComponentsOfPair.mono _ _ _)
      | (with_reducible exact spec_DrawComponentsOfPair.mono _ _)
      | (with_reducible exact spec_DrawIsIrreduciblePair.mono _ _)
      | (with_reducible exact spec_DrawMeanderOfOrder.mono _ _)
      | (with_reducible exact spec_DrawOrderOfMeander.mono _ _)
      | (with_reducible exact spec_IsIrreduciblePair.mono _ _ _)
      | (with_reducible exact spec_IsSystem.mono _ _)
      | (with_reducible exact spec_MeanderOfOrder.mono _ _)
      | (with_reducible exact spec_OrderOfMeander.mono _ _ _)
      | (with_reducible exact spec_TurnSystem.mono _ _)
      | (with_reducible exact LeO.refl _)
      | (with_reducible exact LeO.none _)
      | (with_reducible refine LeO.ite ?_ ?_)
      | (with_reducible refine LeO.bind ?_ (fun _ => ?_))
      | exact ih0 _ _ _ _ _ _
      | exact ih1 _ _ _ _ _ _ _ _ _ _
      | exact ih2 _ _ _ _ _ _ _ _ _ _ _ _ _ _
      | exact ih3 _ _ _ _ _ _ _ _ _ _ _ _ _ _ _ _
      | exact ih4 _ _ _ _ _ _ _ _ _ _ _ _ _ _ _ _
      | exact ih5 _ _ _ _ _ _ _ _ _ _ _ _ _ _ _
      | exact ih6 _ _ _ _ _ _ _ _ _ _ _ _ _ _
      | exact ih7 _ _ _ _ _ _ _ _ _ _
      | exact ih8 _ _ _ _ _ _
      | exact impl_ComponentsOfPair.mono _ _ _
      | exact impl_IsIrreduciblePair.mono _ _ _
      | exact impl_IsSystem.mono _ _
      | exact impl_MeanderOfOrder.mono _ _
      | exact impl_OrderOfMeander.mono _ _ _
      | exact impl_TurnSystem.mono _ _
      | exact laws_likeInts.mono _ _ _
      | exact spec_ComponentsOfPair.mono _ _ _
      | exact spec_DrawComponentsOfPair.mono _ _
      | exact spec_DrawIsIrreduciblePair.mono _ _
      | exact spec_DrawMeanderOfOrder.mono _ _
      | exact spec_DrawOrderOfMeander.mono _ _
      | exact spec_IsIrreduciblePair.mono _ _ _
      | exact spec_IsSystem.mono _ _
      | exact spec_MeanderOfOrder.mono _ _
      | exact spec_OrderOfMeander.mono _ _ _
      | exact spec_TurnSystem.mono _ _
      | exact LeO.none _
      | refine LeO.ite ?_ ?_
      | refine LeO.bind ?_ (fun _ => ?_)
theorem laws_FnMeanders.mono : ∀ a0 k, LeO (laws_FnMeanders.f k a0) (laws_FnMeanders.f (k + 1) a0) := by
  intro a0 k
  obtain ⟨ih0, ih1, ih2, ih3, ih4, ih5, ih6, ih7, ih8⟩ := laws_FnMeanders.mono_l k
  unfold laws_FnMeanders.f
  repeat' first
      | (with_reducible exact ih0 _ _ _ _ _ _)
      | (with_reducible exact ih1 _ _ _ _ _ _ _ _ _ _)
      | (with_reducible exact ih2 _ _ _ _ _ _ _ _ _ _ _ _ _ _)
      | (with_reducible exact ih3 _ _ _ _ _ _ _ _ _ _ _ _ _ _ _ _)
      | (with_reducible exact ih4 _ _ _ _ _ _ _ _ _ _ _ _ _ _ _ _)
      | (with_reducible exact ih5 _ _ _ _ _ _ _ _ _ _ _ _ _ _ _)
      | (with_reducible exact ih6 _ _ _ _ _ _ _ _ _ _ _ _ _ _)
      | (with_reducible exact ih7 _ _ _ _ _ _ _ _ _ _)
      | (with_reducible exact ih8 _ _ _ _ _ _)
      | (with_reducible exact impl_ComponentsOfPair.mono _ _ _)
      | (with_reducible exact impl_IsIrreduciblePair.mono _ _ _)
      | (with_reducible exact impl_IsSystem.mono _ _)
      | (with_reducible exact impl_MeanderOfOrder.mono _ _)
      | (with_reducible exact impl_OrderOfMeander.mono _ _ _)
      | (with_reducible exact impl_TurnSystem.mono _ _)
      | (with_reducible exact laws_likeInts.mono _ _ _)
      | (with_reducible exact spec_ComponentsOfPair.mono _ _ _)
      | (with_reducible exact spec_DrawComponentsOfPair.mono _ _)
      | (with_reducible exact spec_DrawIsIrreduciblePair.mono _ _)
      | (with_reducible exact spec_DrawMeanderOfOrder.mono _ _)
      | (with_reducible exact spec_DrawOrderOfMeander.mono _ _)
      | (with_reducible exact spec_IsIrreduciblePair.mono _ _ _)
      | (with_reducible exact spec_IsSystem.mono _ _)
      | (with_reducible exact spec_MeanderOfOrder.mono _ _)
      | (with_reducible exact spec_OrderOfMeander.mono _ _ _)
      | (with_reducible exact spec_TurnSystem.mono _ _)
      | (with_reducible exact LeO.refl _)
      | (with_reducible exact LeO.none _)
      | (with_reducible refine LeO.ite ?_ ?_)
      | (with_reducible refine LeO.bind ?_ (fun _ => ?_))
      | exact ih0 _ _ _ _ _ _
      | exact ih1 _ _ _ _ _ _ _ _ _ _
      | exact ih2 _ _ _ _ _ _ _ _ _ _ _ _ _ _
      | exact ih3 _ _ _ _ _ _ _ _ _ _ _ _ _ _ _ _
      | exact ih4 _ _ _ _ _ _ _ _ _ _ _ _ _ _ _ _
      | exact ih5 _ _ _ _ _ _ _ _ _ _ _ _ _ _ _
      | exact ih6 _ _ _ _ _ _ _ _ _ _ _ _ _ _
      | exact ih7 _ _ _ _ _ _ _ _ _ _
      | exact ih8 _ _ _ _ _ _
      | exact impl_ComponentsOfPair.mono _ _ _
      | exact impl_IsIrreduciblePair.mono _ _ _
      | exact impl_IsSystem.mono _ _
      | exact impl_MeanderOfOrder.mono _ _
      | exact impl_OrderOfMeander.mono _ _ _
      | exact impl_TurnSystem.mono _ _
      | exact laws_likeInts.mono _ _ _
      | exact spec_ComponentsOfPair.mono _ _ _
      | exact spec_DrawComponentsOfPair.mono _ _
      | exact spec_DrawIsIrreduciblePair.mono _ _
      | exact spec_DrawMeanderOfOrder.mono _ _
      | exact spec_DrawOrderOfMeander.mono _ _
      | exact spec_IsIrreduciblePair.mono _ _ _
      | exact spec_IsSystem.mono _ _
      | exact spec_MeanderOfOrder.mono _ _
      | exact spec_OrderOfMeander.mono _ _ _
      | exact spec_TurnSystem.mono _ _
      | exact LeO.none _
      | refine LeO.ite ?_ ?_
      | refine LeO.bind ?_ (fun _ => ?_)
set_option maxHeartbeats 8000000 in
set_option maxRecDepth 100000 in
theorem laws_FnMeanders.calls (k : Nat) (A0 : Option Addr) (c0 : Nat) (l0 : List Int) (r : Bool) (w : World) (hr0 : Kd.C (Kd.int .u8) w A0 l0.length l0) (hc0 : l0.length ≤ c0) (h : laws_FnMeanders.f k l0 = some r) :
    Calls Try.prog 3 #[.slice A0 l0.length c0] w fun e w' => e = .returned (.bool r) ∧ Below w.heap.size w w' := by
  have HR0 := Aside0.mk hr0
  have HC0 := Aside0.mk hc0
  clear hr0 hc0
  have HB := Aside0.mk (Below.refl w.heap.size w)
  have H : ((laws_big.f l0).bind fun t316 => (if t316 = true then (some true) else ((spec_DrawComponentsOfPair.f k l0).bind fun bt317 => ((impl_ComponentsOfPair.f k bt317.1 bt317.2).bind fun bt319 => ((spec_ComponentsOfPair.f k bt317.1 bt317.2).bind fun bt321 => (if bt319.2 = bt321.2 then (if bt319.1 = bt321.1 then ((impl_IsSystem.f k bt317.1).bind fun t323 => ((spec_IsSystem.f k bt317.1).bind fun t324 => (laws_FnMeanders.j0 k l0 bt317.1 bt317.2 bt319.1 bt319.2 (t323 != t324)))) else (laws_FnMeanders.j0 k l0 bt317.1 bt317.2 bt319.1 bt319.2 true)) else (laws_FnMeanders.j0 k l0 bt317.1 bt317.2 bt319.1 bt319.2 true))))))) = some r := h
  clear h
  replace H := Option.bind_eq_some_iff.mp H
  obtain ⟨t316, A20, H⟩ := H
  replace H : (if t316 = true then (some true) else ((spec_DrawComponentsOfPair.f k l0).bind fun bt317 => ((impl_ComponentsOfPair.f k bt317.1 bt317.2).bind fun bt319 => ((spec_ComponentsOfPair.f k bt317.1 bt317.2).bind fun bt321 => (if bt319.2 = bt321.2 then (if bt319.1 = bt321.1 then ((impl_IsSystem.f k bt317.1).bind fun t323 => ((spec_IsSystem.f k bt317.1).bind fun t324 => (laws_FnMeanders.j0 k l0 bt317.1 bt317.2 bt319.1 bt319.2 (t323 != t324)))) else (laws_FnMeanders.j0 k l0 bt317.1 bt317.2 bt319.1 bt319.2 true)) else (laws_FnMeanders.j0 k l0 bt317.1 bt317.2 bt319.1 bt319.2 true)))))) = some r := H
  have A2 := Aside0.mk A20
  clear A20
  by_cases c3 : t316 = true
  · subst c3
    have H1 : (some true) = some r := by rw [if_pos rfl] at H; exact H
    clear H
    have H := H1
    clear H1
    obtain rfl := Option.some.inj H
    go_enter Try.func3, Try.ntmps3
    go_wp2_with (first | ((with_reducible refine gate_callee (f := 4) rfl ?_); refine goesL_ (some 46) rfl rfl Try.func4 (by kernel_rfl) rfl #[.slice A0 l0.length c0] rfl (by (try simp only [List.map_toArray, List.map_cons, List.map_nil]); first | done | rfl | (simp only [List.length_drop, List.length_take]; rfl)) ?_; (with_reducible refine (laws_big.calls _ _ l0 true _ ?side1 ?side2 A2.out).mono ?_); (case side1 => repeat (first | exact HR0.out | (with_reducible refine Kd.C_alloc ?_ _) | (with_reducible refine Kd.C_drewN ?_ _) | (with_reducible refine Kd.C_drew ?_))); (case side2 => exact HC0.out); rintro e w' ⟨rfl, ⟨nd, rfl⟩⟩; refine ⟨_, rfl, ?_⟩))
    go_ret
    exact ⟨by first | rfl | (simp [errW_none, errW_some] <;> rfl) | (simp [*, errW_none, errW_some] <;> rfl), by repeat (first | (with_reducible first | exact HB.out | apply below_alloc | apply pw_below_drewN | apply below_drew1) | exact HB.out)⟩
  · replace c3 := Bool.eq_false_iff.mpr c3
    subst c3
    have H1 : ((spec_DrawComponentsOfPair.f k l0).bind fun bt317 => ((impl_ComponentsOfPair.f k bt317.1 bt317.2).bind fun bt319 => ((spec_ComponentsOfPair.f k bt317.1 bt317.2).bind fun bt321 => (if bt319.2 = bt321.2 then (if bt319.1 = bt321.1 then ((impl_IsSystem.f k bt317.1).bind fun t323 => ((spec_IsSystem.f k bt317.1).bind fun t324 => (laws_FnMeanders.j0 k l0 bt317.1 bt317.2 bt319.1 bt319.2 (t323 != t324)))) else (laws_FnMeanders.j0 k l0 bt317.1 bt317.2 bt319.1 bt319.2 true)) else (laws_FnMeanders.j0 k l0 bt317.1 bt317.2 bt319.1 bt319.2 true))))) = some r := by rw [if_neg (show ¬ (false = true) by decide)] at H; exact H
    clear H
    have H := H1
    clear H1
    replace H := Option.bind_eq_some_iff.mp H
    obtain ⟨⟨t317, t318⟩, A40, H⟩ := H
    replace H : ((impl_ComponentsOfPair.f k t317 t318).bind fun bt319 => ((spec_ComponentsOfPair.f k t317 t318).bind fun bt321 => (if bt319.2 = bt321.2 then (if bt319.1 = bt321.1 then ((impl_IsSystem.f k t317).bind fun t323 => ((spec_IsSystem.f k t317).bind fun t324 => (laws_FnMeanders.j0 k l0 t317 t318 bt319.1 bt319.2 (t323 != t324)))) else (laws_FnMeanders.j0 k l0 t317 t318 bt319.1 bt319.2 true)) else (laws_FnMeanders.j0 k l0 t317 t318 bt319.1 bt319.2 true)))) = some r := H
    have A4 := Aside0.mk A40
    clear A40
    replace H := Option.bind_eq_some_iff.mp H
    obtain ⟨⟨t319, t320⟩, A50, H⟩ := H
    replace H : ((spec_ComponentsOfPair.f k t317 t318).bind fun bt321 => (if t320 = bt321.2 then (if t319 = bt321.1 then ((impl_IsSystem.f k t317).bind fun t323 => ((spec_IsSystem.f k t317).bind fun t324 => (laws_FnMeanders.j0 k l0 t317 t318 t319 t320 (t323 != t324)))) else (laws_FnMeanders.j0 k l0 t317 t318 t319 t320 true)) else (laws_FnMeanders.j0 k l0 t317 t318 t319 t320 true))) = some r := H
    have A5 := Aside0.mk A50
    clear A50
    replace H := Option.bind_eq_some_iff.mp H
    obtain ⟨⟨t321, t322⟩, A60, H⟩ := H
    replace H : (if t320 = t322 then (if t319 = t321 then ((impl_IsSystem.f k t317).bind fun t323 => ((spec_IsSystem.f k t317).bind fun t324 => (laws_FnMeanders.j0 k l0 t317 t318 t319 t320 (t323 != t324)))) else (laws_FnMeanders.j0 k l0 t317 t318 t319 t320 true)) else (laws_FnMeanders.j0 k l0 t317 t318 t319 t320 true)) = some r := H
    have A6 := Aside0.mk A60
    clear A60
    have HC7 := Aside0.mk H
    clear H
    go_enter Try.func3, Try.ntmps3
    go_upto_region 6 with (first | ((with_reducible refine gate_callee (f := 4) rfl ?_); refine goesL_ (some 46) rfl rfl Try.func4 (by kernel_rfl) rfl #[.slice A0 l0.length c0] rfl (by (try simp only [List.map_toArray, List.map_cons, List.map_nil]); first | done | rfl | (simp only [List.length_drop, List.length_take]; rfl)) ?_; (with_reducible refine (laws_big.calls _ _ l0 false _ ?side1 ?side2 A2.out).mono ?_); (case side1 => repeat (first | exact HR0.out | (with_reducible refine Kd.C_alloc ?_ _) | (with_reducible refine Kd.C_drewN ?_ _) | (with_reducible refine Kd.C_drew ?_))); (case side2 => exact HC0.out); rintro e w' ⟨rfl, ⟨nd, rfl⟩⟩; refine ⟨_, rfl, ?_⟩) | ((with_reducible refine gate_callee (f := 5) rfl ?_); refine goesL_ (some 49) rfl rfl Try.func5 (by kernel_rfl) rfl #[.slice A0 l0.length c0] rfl (by (try simp only [List.map_toArray, List.map_cons, List.map_nil]); first | done | rfl | (simp only [List.length_drop, List.length_take]; rfl)) ?_; (with_reducible refine (spec_DrawComponentsOfPair.calls k _ _ l0 t317 t318 _ ?side1 ?side2 A4.out).mono ?_); (case side1 => repeat (first | exact HR0.out | (with_reducible refine Kd.C_alloc ?_ _) | (with_reducible refine Kd.C_drewN ?_ _) | (with_reducible refine Kd.C_drew ?_))); (case side2 => exact HC0.out); rintro e w8 ⟨rfl, hb⟩; refine ⟨_, rfl, ?_⟩; have n0_ := Aside0.mk (below_step (by repeat (first | (with_reducible first | exact HB.out | apply below_alloc | apply pw_below_drewN | apply below_drew1) | exact HB.out)) hb); clear HB; have HB := n0_; clear n0_; (try clear hb); (try clear hb2); (try clear hk); (try clear hi)) | ((with_reducible refine gate_callee (f := 6) rfl ?_); refine goesL_ (some 55) rfl rfl Try.func6 (by kernel_rfl) rfl #[.string t317, .string t318] rfl (by (try simp only [List.map_toArray, List.map_cons, List.map_nil]); first | done | rfl | (simp only [List.length_drop, List.length_take]; rfl)) ?_; (with_reducible refine (impl_ComponentsOfPair.calls k t317 t318 t319 t320 _ A5.out).mono ?_); rintro e w9 ⟨rfl, hb⟩; refine ⟨_, rfl, ?_⟩; have n0_ := Aside0.mk (below_step (by repeat (first | (with_reducible first | exact HB.out | apply below_alloc | apply pw_below_drewN | apply below_drew1) | exact HB.out)) hb); clear HB; have HB := n0_; clear n0_; (try clear hb); (try clear hb2); (try clear hk); (try clear hi)) | ((with_reducible refine gate_callee (f := 7) rfl ?_); refine goesL_ (some 61) rfl rfl Try.func7 (by kernel_rfl) rfl #[.string t317, .string t318] rfl (by (try simp only [List.map_toArray, List.map_cons, List.map_nil]); first | done | rfl | (simp only [List.length_drop, List.length_take]; rfl)) ?_; (with_reducible refine (spec_ComponentsOfPair.calls k t317 t318 t321 t322 _ A6.out).mono ?_); rintro e w10 ⟨rfl, hb⟩; refine ⟨_, rfl, ?_⟩; have n0_ := Aside0.mk (below_step (by repeat (first | (with_reducible first | exact HB.out | apply below_alloc | apply pw_below_drewN | apply below_drew1) | exact HB.out)) hb); clear HB; have HB := n0_; clear n0_; (try clear hb); (try clear hb2); (try clear hk); (try clear hi)))
    (try simp only [Act.put, List.setIfInBounds_toArray, List.set_cons_zero, List.set_cons_succ])
    go_cut [78] (fun v78 wc => ∃ (kq : Nat) (x78_6 : Bool), v78 = .bool x78_6 ∧ Aside0 (laws_FnMeanders.j0 kq l0 t317 t318 t319 t320 x78_6 = some r) ∧ Aside0 (kq ≤ k) ∧ Aside0 (Below w.heap.size w wc))
    case first => as_aux_lemma =>
      have H := HC7.out
      clear HC7
      by_cases c11 : t320 = t322
      · rw [if_pos c11] at H
        have c11b0 : (t320 == t322) = true := beq_iff_eq.mpr c11
        have c11b1 : (t320 != t322) = false := bne_eq_false_iff_eq.mpr c11
        clear c11
        (first | rw [c11b0] | (simp only [i64_w, i32_w]; rw [c11b0]) | skip)
        by_cases c12 : t319 = t321
        · rw [if_pos c12] at H
          have c12b0 : (t319 == t321) = true := beq_iff_eq.mpr c12
          have c12b1 : (t319 != t321) = false := bne_eq_false_iff_eq.mpr c12
          clear c12
          replace H := Option.bind_eq_some_iff.mp H
          obtain ⟨t323, A130, H⟩ := H
          replace H : ((spec_IsSystem.f k t317).bind fun t324 => (laws_FnMeanders.j0 k l0 t317 t318 t319 t320 (t323 != t324))) = some r := H
          have A13 := Aside0.mk A130
          clear A130
          replace H := Option.bind_eq_some_iff.mp H
          obtain ⟨t324, A140, H⟩ := H
          replace H : (laws_FnMeanders.j0 k l0 t317 t318 t319 t320 (t323 != t324)) = some r := H
          have A14 := Aside0.mk A140
          clear A140
          have H' := Aside0.mk H
          clear H
          go_wp2_with (first | (go_at_call 8; (with_reducible refine (impl_IsSystem.calls k t317 t323 _ A13.out).mono ?_); rintro e w15 ⟨rfl, hb⟩; have n0_ := Aside0.mk (below_step (by repeat (first | (with_reducible first | exact HB.out | apply below_alloc | apply pw_below_drewN | apply below_drew1) | exact HB.out)) hb); clear HB; have HB := n0_; clear n0_; (try clear hb); (try clear hb2); (try clear hk); (try clear hi)) | (go_at_call 9; (with_reducible refine (spec_IsSystem.calls k t317 t324 _ A14.out).mono ?_); rintro e w16 ⟨rfl, hb⟩; have n0_ := Aside0.mk (below_step (by repeat (first | (with_reducible first | exact HB.out | apply below_alloc | apply pw_below_drewN | apply below_drew1) | exact HB.out)) hb); clear HB; have HB := n0_; clear n0_; (try clear hb); (try clear hb2); (try clear hk); (try clear hi)))
          go_meet
          case rel => exact ⟨_, ((t323 != t324)), (by first | rfl | (simp; done) | (simp [*]; done)), H', ⟨by first | omega | exact Nat.le_refl _⟩, ⟨by repeat (first | (with_reducible first | exact HB.out | apply below_alloc | apply pw_below_drewN | apply below_drew1) | exact HB.out)⟩⟩
        · rw [if_neg c12] at H
          have c12b0 : (t319 == t321) = false := beq_eq_false_iff_ne.mpr c12
          have c12b1 : (t319 != t321) = true := bne_iff_ne.mpr c12
          have H' := Aside0.mk H
          clear H
          go_wp2
          go_meet
          case rel => exact ⟨_, (true), (by first | rfl | (simp; done) | (simp [*]; done)), H', ⟨by first | omega | exact Nat.le_refl _⟩, ⟨by repeat (first | (with_reducible first | exact HB.out | apply below_alloc | apply pw_below_drewN | apply below_drew1) | exact HB.out)⟩⟩
      · rw [if_neg c11] at H
        have c11b0 : (t320 == t322) = false := beq_eq_false_iff_ne.mpr c11
        have c11b1 : (t320 != t322) = true := bne_iff_ne.mpr c11
        (first | rw [c11b0] | (simp only [i64_w, i32_w]; rw [c11b0]) | skip)
        have H' := Aside0.mk H
        clear H
        go_wp2
        go_meet
        case rel => exact ⟨_, (true), (by first | rfl | (simp; done) | (simp [*]; done)), H', ⟨by first | omega | exact Nat.le_refl _⟩, ⟨by repeat (first | (with_reducible first | exact HB.out | apply below_alloc | apply pw_below_drewN | apply below_drew1) | exact HB.out)⟩⟩
    case rest => as_aux_lemma =>
      clear HC7
      try clear c1
      try clear p2
      try clear c3
      try clear c4
      try clear c5
      try clear c6
      try clear c7
      try clear c11
      try clear c11b0
      try clear c11b1
      try clear c12
      try clear c12b0
      try clear c12b1
      obtain ⟨kq, x78_6, rfl, HA, HJ6, HB⟩ := hcut
      cases kq with
      | zero => exact absurd HA.out (by simp [laws_FnMeanders.j0])
      | succ kj6 =>
        have H := HA.out
        clear HA
        simp only [laws_FnMeanders.j0] at H
        by_cases c17 : x78_6 = true
        · subst c17
          have H1 : (some false) = some r := by rw [if_pos rfl] at H; exact H
          clear H
          have H := H1
          clear H1
          obtain rfl := Option.some.inj H
          go_wp2
          go_ret
          exact ⟨by first | rfl | (simp [errW_none, errW_some] <;> rfl) | (simp [*, errW_none, errW_some] <;> rfl), by repeat (first | (with_reducible first | exact HB.out | apply below_alloc | apply pw_below_drewN | apply below_drew1) | exact HB.out)⟩
        · replace c17 := Bool.eq_false_iff.mpr c17
          subst c17
          have H1 : ((spec_DrawOrderOfMeander.f kj6 l0).bind fun bt325 => ((impl_OrderOfMeander.f kj6 bt325.1 bt325.2).bind fun bt327 => ((spec_OrderOfMeander.f kj6 bt325.1 bt325.2).bind fun bt331 => (if bt327.2 = bt331.2 then ((laws_likeInts.f kj6 bt327.1 bt331.1).bind fun t335 => (laws_FnMeanders.j1 kj6 l0 t317 t318 t319 t320 bt325.1 bt325.2 bt327.1 bt327.2 (!t335))) else (laws_FnMeanders.j1 kj6 l0 t317 t318 t319 t320 bt325.1 bt325.2 bt327.1 bt327.2 true))))) = some r := by rw [if_neg (show ¬ (false = true) by decide)] at H; exact H
          clear H
          have H := H1
          clear H1
          replace H := Option.bind_eq_some_iff.mp H
          obtain ⟨⟨t325, t326⟩, A180, H⟩ := H
          replace H : ((impl_OrderOfMeander.f kj6 t325 t326).bind fun bt327 => ((spec_OrderOfMeander.f kj6 t325 t326).bind fun bt331 => (if bt327.2 = bt331.2 then ((laws_likeInts.f kj6 bt327.1 bt331.1).bind fun t335 => (laws_FnMeanders.j1 kj6 l0 t317 t318 t319 t320 t325 t326 bt327.1 bt327.2 (!t335))) else (laws_FnMeanders.j1 kj6 l0 t317 t318 t319 t320 t325 t326 bt327.1 bt327.2 true)))) = some r := H
          have A18 := Aside0.mk A180
          clear A180
          replace H := Option.bind_eq_some_iff.mp H
          obtain ⟨⟨t327, t328⟩, A190, H⟩ := H
          replace H : ((spec_OrderOfMeander.f kj6 t325 t326).bind fun bt331 => (if t328 = bt331.2 then ((laws_likeInts.f kj6 t327 bt331.1).bind fun t335 => (laws_FnMeanders.j1 kj6 l0 t317 t318 t319 t320 t325 t326 t327 t328 (!t335))) else (laws_FnMeanders.j1 kj6 l0 t317 t318 t319 t320 t325 t326 t327 t328 true))) = some r := H
          have A19 := Aside0.mk A190
          clear A190
          replace H := Option.bind_eq_some_iff.mp H
          obtain ⟨⟨t331, t332⟩, A200, H⟩ := H
          replace H : (if t328 = t332 then ((laws_likeInts.f kj6 t327 t331).bind fun t335 => (laws_FnMeanders.j1 kj6 l0 t317 t318 t319 t320 t325 t326 t327 t328 (!t335))) else (laws_FnMeanders.j1 kj6 l0 t317 t318 t319 t320 t325 t326 t327 t328 true)) = some r := H
          have A20 := Aside0.mk A200
          clear A200
          have HC21 := Aside0.mk H
          clear H
          go_upto_region 11 with (first | ((with_reducible refine gate_callee (f := 10) rfl ?_); refine goesL_ (some 81) rfl rfl Try.func10 (by kernel_rfl) rfl #[.slice A0 l0.length c0] rfl (by (try simp only [List.map_toArray, List.map_cons, List.map_nil]); first | done | rfl | (simp only [List.length_drop, List.length_take]; rfl)) ?_; (with_reducible refine (spec_DrawOrderOfMeander.calls kj6 _ _ l0 t325 t326 _ ?side1 ?side2 A18.out).mono ?_); (case side1 => repeat (first | exact (Kd.C_below HR0.out HB.out) | (with_reducible refine Kd.C_alloc ?_ _) | (with_reducible refine Kd.C_drewN ?_ _) | (with_reducible refine Kd.C_drew ?_))); (case side2 => exact HC0.out); rintro e w22 ⟨rfl, hb⟩; refine ⟨_, rfl, ?_⟩; have n0_ := Aside0.mk (below_step (by repeat (first | (with_reducible first | exact HB.out | apply below_alloc | apply pw_below_drewN | apply below_drew1) | exact HB.out)) hb); clear HB; have HB := n0_; clear n0_; (try clear hb); (try clear hb2); (try clear hk); (try clear hi)) | ((with_reducible refine gate_callee (f := 11) rfl ?_); refine goesL_ (some 87) rfl rfl Try.func11 (by kernel_rfl) rfl #[.string t325, .string t326] rfl (by (try simp only [List.map_toArray, List.map_cons, List.map_nil]); first | done | rfl | (simp only [List.length_drop, List.length_take]; rfl)) ?_; (with_reducible refine (impl_OrderOfMeander.calls kj6 t325 t326 t327 t328 _ A19.out).mono ?_); rintro e w23 ⟨v329, rfl, ho0, hb⟩; refine ⟨_, rfl, ?_⟩; have n0_ := Aside0.mk (Kd.R_lower ho0 (below_size (by repeat (first | (with_reducible first | exact HB.out | apply below_alloc | apply pw_below_drewN | apply below_drew1) | exact HB.out)))); have n1_ := Aside0.mk (below_step (by repeat (first | (with_reducible first | exact HB.out | apply below_alloc | apply pw_below_drewN | apply below_drew1) | exact HB.out)) hb); clear HB; have HO330 := n0_; have HB := n1_; clear n0_ n1_; (try clear hb); (try clear hb2); (try clear hk); (try clear hi); (try clear ho0)) | ((with_reducible refine gate_callee (f := 12) rfl ?_); refine goesL_ (some 93) rfl rfl Try.func12 (by kernel_rfl) rfl #[.string t325, .string t326] rfl (by (try simp only [List.map_toArray, List.map_cons, List.map_nil]); first | done | rfl | (simp only [List.length_drop, List.length_take]; rfl)) ?_; (with_reducible refine (spec_OrderOfMeander.calls kj6 t325 t326 t331 t332 _ A20.out).mono ?_); rintro e w24 ⟨v333, rfl, ho0, hb⟩; refine ⟨_, rfl, ?_⟩; have n0_ := Aside0.mk (Kd.R_elder' (by (with_reducible repeat (first | apply Kd.R_alloc | apply Kd.R_drewN | apply Kd.R_drew)); exact HO330.out) (Kd.R_base ho0) hb); have n1_ := Aside0.mk (Kd.R_lower (Kd.R_new' ho0 (Kd.R_lt (by (with_reducible repeat (first | apply Kd.R_alloc | apply Kd.R_drewN | apply Kd.R_drew)); exact HO330.out))) (below_size (by repeat (first | (with_reducible first | exact HB.out | apply below_alloc | apply pw_below_drewN | apply below_drew1) | exact HB.out)))); have n2_ := Aside0.mk (below_step (by repeat (first | (with_reducible first | exact HB.out | apply below_alloc | apply pw_below_drewN | apply below_drew1) | exact HB.out)) hb); clear HO330; clear HB; have HO330 := n0_; have HO334 := n1_; have HB := n2_; clear n0_ n1_ n2_; (try clear hb); (try clear hb2); (try clear hk); (try clear hi); (try clear ho0)))
          (try simp only [Act.put, List.setIfInBounds_toArray, List.set_cons_zero, List.set_cons_succ])
          go_cut [104] (fun v104 wc => ∃ (kq : Nat) (x104_20 : Bool), v104 = .bool x104_20 ∧ Aside0 (laws_FnMeanders.j1 kq l0 t317 t318 t319 t320 t325 t326 t327 t328 x104_20 = some r) ∧ Aside0 (kq ≤ kj6) ∧ Aside0 (Kd.R (Kd.int .i64) 2 wc w.heap.size (fun _ => True) v329 t327) ∧ Aside0 (Below w.heap.size w wc))
          case first => as_aux_lemma =>
            have H := HC21.out
            clear HC21
            by_cases c25 : t328 = t332
            · rw [if_pos c25] at H
              have c25b0 : (t328 == t332) = true := beq_iff_eq.mpr c25
              have c25b1 : (t328 != t332) = false := bne_eq_false_iff_eq.mpr c25
              clear c25
              (first | rw [c25b0] | (simp only [i64_w, i32_w]; rw [c25b0]) | skip)
              replace H := Option.bind_eq_some_iff.mp H
              obtain ⟨t335, A260, H⟩ := H
              replace H : (laws_FnMeanders.j1 kj6 l0 t317 t318 t319 t320 t325 t326 t327 t328 (!t335)) = some r := H
              have A26 := Aside0.mk A260
              clear A260
              have H' := Aside0.mk H
              clear H
              obtain ⟨Ao27, co27, eo27⟩ := Kd.R_slice HO330.out
              subst eo27
              obtain ⟨Ao28, co28, eo28⟩ := Kd.R_slice HO334.out
              subst eo28
              go_wp2_with (first | (go_at_call 13; (with_reducible refine (laws_likeInts.calls kj6 _ _ t327 _ _ t331 t335 _ ?side1 ?side2 ?side3 ?side4 A26.out).mono ?_); (case side1 => repeat (first | exact (Kd.R_reads' HO330.out).2.2 | (with_reducible refine Kd.C_alloc ?_ _) | (with_reducible refine Kd.C_drewN ?_ _) | (with_reducible refine Kd.C_drew ?_))); (case side2 => exact (Kd.R_reads' HO330.out).2.1); (case side3 => repeat (first | exact (Kd.R_reads' HO334.out).2.2 | (with_reducible refine Kd.C_alloc ?_ _) | (with_reducible refine Kd.C_drewN ?_ _) | (with_reducible refine Kd.C_drew ?_))); (case side4 => exact (Kd.R_reads' HO334.out).2.1); rintro e w' ⟨rfl, ⟨nd, rfl⟩⟩))
              go_meet
              case rel => exact ⟨_, (!t335), (by first | rfl | (simp; done) | (simp [*]; done)), H', ⟨by have := HJ6.out; first | omega | exact Nat.le_refl _⟩, ⟨by (with_reducible repeat (first | apply Kd.R_alloc | apply Kd.R_drewN | apply Kd.R_drew)); exact Kd.R_mono HO330.out (fun _ hk => trivial)⟩, ⟨by repeat (first | (with_reducible first | exact HB.out | apply below_alloc | apply pw_below_drewN | apply below_drew1) | exact HB.out)⟩⟩
            · rw [if_neg c25] at H
              have c25b0 : (t328 == t332) = false := beq_eq_false_iff_ne.mpr c25
              have c25b1 : (t328 != t332) = true := bne_iff_ne.mpr c25
              (first | rw [c25b0] | (simp only [i64_w, i32_w]; rw [c25b0]) | skip)
              have H' := Aside0.mk H
              clear H
              go_wp2
              go_meet
              case rel => exact ⟨_, (true), (by first | rfl | (simp; done) | (simp [*]; done)), H', ⟨by have := HJ6.out; first | omega | exact Nat.le_refl _⟩, ⟨by (with_reducible repeat (first | apply Kd.R_alloc | apply Kd.R_drewN | apply Kd.R_drew)); exact Kd.R_mono HO330.out (fun _ hk => trivial)⟩, ⟨by repeat (first | (with_reducible first | exact HB.out | apply below_alloc | apply pw_below_drewN | apply below_drew1) | exact HB.out)⟩⟩
          case rest => as_aux_lemma =>
            clear HC21
            try clear c1
            try clear c2
            try clear p2
            try clear c3
            try clear c4
            try clear c5
            try clear c6
            try clear c7
            try clear c10
            try clear c11
            try clear c11b0
            try clear c11b1
            try clear c12
            try clear c12b0
            try clear c12b1
            try clear c17
            try clear c25
            try clear c25b0
            try clear c25b1
            try clear p2
            obtain ⟨kq, x104_20, rfl, HA, HJ20, HO_11, HB⟩ := hcut
            cases kq with
            | zero => exact absurd HA.out (by simp [laws_FnMeanders.j1])
            | succ kj20 =>
              have H := HA.out
              clear HA
              simp only [laws_FnMeanders.j1] at H
              by_cases c29 : x104_20 = true
              · subst c29
                have H1 : (some false) = some r := by rw [if_pos rfl] at H; exact H
                clear H
                have H := H1
                clear H1
                obtain rfl := Option.some.inj H
                go_wp2
                go_ret
                exact ⟨by first | rfl | (simp [errW_none, errW_some] <;> rfl) | (simp [*, errW_none, errW_some] <;> rfl), by repeat (first | (with_reducible first | exact HB.out | apply below_alloc | apply pw_below_drewN | apply below_drew1) | exact HB.out)⟩
              · replace c29 := Bool.eq_false_iff.mpr c29
                subst c29
                have H1 : ((spec_DrawMeanderOfOrder.f kj20 l0).bind fun t336 => ((impl_MeanderOfOrder.f kj20 t336).bind fun bt339 => ((spec_MeanderOfOrder.f kj20 t336).bind fun bt342 => (if bt339.2.2 = bt342.2.2 then (if bt339.1.toList = bt342.1.toList then (laws_FnMeanders.j2 kj20 l0 t317 t318 t319 t320 t325 t326 t327 t328 t336 bt339.1 bt339.2.1 bt339.2.2 (bt339.2.1.toList != bt342.2.1.toList)) else (laws_FnMeanders.j2 kj20 l0 t317 t318 t319 t320 t325 t326 t327 t328 t336 bt339.1 bt339.2.1 bt339.2.2 true)) else (laws_FnMeanders.j2 kj20 l0 t317 t318 t319 t320 t325 t326 t327 t328 t336 bt339.1 bt339.2.1 bt339.2.2 true))))) = some r := by rw [if_neg (show ¬ (false = true) by decide)] at H; exact H
                clear H
                have H := H1
                clear H1
                replace H := Option.bind_eq_some_iff.mp H
                obtain ⟨t336, A300, H⟩ := H
                replace H : ((impl_MeanderOfOrder.f kj20 t336).bind fun bt339 => ((spec_MeanderOfOrder.f kj20 t336).bind fun bt342 => (if bt339.2.2 = bt342.2.2 then (if bt339.1.toList = bt342.1.toList then (laws_FnMeanders.j2 kj20 l0 t317 t318 t319 t320 t325 t326 t327 t328 t336 bt339.1 bt339.2.1 bt339.2.2 (bt339.2.1.toList != bt342.2.1.toList)) else (laws_FnMeanders.j2 kj20 l0 t317 t318 t319 t320 t325 t326 t327 t328 t336 bt339.1 bt339.2.1 bt339.2.2 true)) else (laws_FnMeanders.j2 kj20 l0 t317 t318 t319 t320 t325 t326 t327 t328 t336 bt339.1 bt339.2.1 bt339.2.2 true)))) = some r := H
                have A30 := Aside0.mk A300
                clear A300
                replace H := Option.bind_eq_some_iff.mp H
                obtain ⟨⟨t339, t340, t341⟩, A310, H⟩ := H
                replace H : ((spec_MeanderOfOrder.f kj20 t336).bind fun bt342 => (if t341 = bt342.2.2 then (if t339.toList = bt342.1.toList then (laws_FnMeanders.j2 kj20 l0 t317 t318 t319 t320 t325 t326 t327 t328 t336 t339 t340 t341 (t340.toList != bt342.2.1.toList)) else (laws_FnMeanders.j2 kj20 l0 t317 t318 t319 t320 t325 t326 t327 t328 t336 t339 t340 t341 true)) else (laws_FnMeanders.j2 kj20 l0 t317 t318 t319 t320 t325 t326 t327 t328 t336 t339 t340 t341 true))) = some r := H
                have A31 := Aside0.mk A310
                clear A310
                replace H := Option.bind_eq_some_iff.mp H
                obtain ⟨⟨t342, t343, t344⟩, A320, H⟩ := H
                replace H : (if t341 = t344 then (if t339.toList = t342.toList then (laws_FnMeanders.j2 kj20 l0 t317 t318 t319 t320 t325 t326 t327 t328 t336 t339 t340 t341 (t340.toList != t343.toList)) else (laws_FnMeanders.j2 kj20 l0 t317 t318 t319 t320 t325 t326 t327 t328 t336 t339 t340 t341 true)) else (laws_FnMeanders.j2 kj20 l0 t317 t318 t319 t320 t325 t326 t327 t328 t336 t339 t340 t341 true)) = some r := H
                have A32 := Aside0.mk A320
                clear A320
                have HC33 := Aside0.mk H
                clear H
                go_upto_region 16 with (first | ((with_reducible refine gate_callee (f := 14) rfl ?_); refine goesL_ (some 106) rfl rfl Try.func14 (by kernel_rfl) rfl #[.slice A0 l0.length c0] rfl (by (try simp only [List.map_toArray, List.map_cons, List.map_nil]); first | done | rfl | (simp only [List.length_drop, List.length_take]; rfl)) ?_; (with_reducible refine (spec_DrawMeanderOfOrder.calls kj20 _ _ l0 t336 _ ?side1 ?side2 A30.out).mono ?_); (case side1 => repeat (first | exact (Kd.C_below HR0.out HB.out) | (with_reducible refine Kd.C_alloc ?_ _) | (with_reducible refine Kd.C_drewN ?_ _) | (with_reducible refine Kd.C_drew ?_))); (case side2 => exact HC0.out); rintro e w34 ⟨v337, rfl, ho0, hb⟩; refine ⟨_, rfl, ?_⟩; have n0_ := Aside0.mk (Kd.R_below (by (with_reducible repeat (first | apply Kd.R_alloc | apply Kd.R_drewN | apply Kd.R_drew)); exact HO_11.out) hb); have n1_ := Aside0.mk (Kd.V_lower (Kd.V_mono (ok' := fun k_ => some k_ ≠ (v329 : Value).ownBlock) ho0 (fun k_ hk_ => (Kd.fresh' (Kd.R_lt (by (with_reducible repeat (first | apply Kd.R_alloc | apply Kd.R_drewN | apply Kd.R_drew)); exact HO_11.out)) k_ hk_))) (below_size (by repeat (first | (with_reducible first | exact HB.out | apply below_alloc | apply pw_below_drewN | apply below_drew1) | exact HB.out)))); have n2_ := Aside0.mk (below_step (by repeat (first | (with_reducible first | exact HB.out | apply below_alloc | apply pw_below_drewN | apply below_drew1) | exact HB.out)) hb); clear HO_11; clear HB; have HO_11 := n0_; have HO338 := n1_; have HB := n2_; clear n0_ n1_ n2_; (try clear hb); (try clear hb2); (try clear hk); (try clear hi); (try clear ho0); obtain ⟨Ao35, co35, eo35⟩ := Kd.V_slice HO338.out; subst eo35) | ((with_reducible refine gate_callee (f := 15) rfl ?_); refine goesL_ (some 109) rfl rfl Try.func15 (by kernel_rfl) rfl #[.slice Ao35 t336.length co35] rfl (by (try simp only [List.map_toArray, List.map_cons, List.map_nil]); first | done | rfl | (simp only [List.length_drop, List.length_take]; rfl)) ?_; (with_reducible refine (impl_MeanderOfOrder.calls kj20 _ _ t336 t339 t340 t341 _ ?side1 ?side2 A31.out).mono ?_); (case side1 => repeat (first | exact (Kd.V_reads' HO338.out).2.2 | (with_reducible refine Kd.C_alloc ?_ _) | (with_reducible refine Kd.C_drewN ?_ _) | (with_reducible refine Kd.C_drew ?_))); (case side2 => exact (Kd.V_reads' HO338.out).2.1); rintro e w36 ⟨rfl, hb⟩; refine ⟨_, rfl, ?_⟩; have n0_ := Aside0.mk (Kd.R_below (by (with_reducible repeat (first | apply Kd.R_alloc | apply Kd.R_drewN | apply Kd.R_drew)); exact HO_11.out) hb); have n1_ := Aside0.mk (Kd.V_below (by (with_reducible repeat (first | apply Kd.V_alloc | apply Kd.V_drewN | apply Kd.V_drew)); exact HO338.out) hb); have n2_ := Aside0.mk (below_step (by repeat (first | (with_reducible first | exact HB.out | apply below_alloc | apply pw_below_drewN | apply below_drew1) | exact HB.out)) hb); clear HO_11; clear HO338; clear HB; have HO_11 := n0_; have HO338 := n1_; have HB := n2_; clear n0_ n1_ n2_; (try clear hb); (try clear hb2); (try clear hk); (try clear hi)) | ((with_reducible refine gate_callee (f := 16) rfl ?_); refine goesL_ (some 115) rfl rfl Try.func16 (by kernel_rfl) rfl #[.slice Ao35 t336.length co35] rfl (by (try simp only [List.map_toArray, List.map_cons, List.map_nil]); first | done | rfl | (simp only [List.length_drop, List.length_take]; rfl)) ?_; (with_reducible refine (spec_MeanderOfOrder.calls kj20 _ _ t336 t342 t343 t344 _ ?side1 ?side2 A32.out).mono ?_); (case side1 => repeat (first | exact (Kd.V_reads' HO338.out).2.2 | (with_reducible refine Kd.C_alloc ?_ _) | (with_reducible refine Kd.C_drewN ?_ _) | (with_reducible refine Kd.C_drew ?_))); (case side2 => exact (Kd.V_reads' HO338.out).2.1); rintro e w37 ⟨rfl, hb⟩; refine ⟨_, rfl, ?_⟩; have n0_ := Aside0.mk (Kd.R_below (by (with_reducible repeat (first | apply Kd.R_alloc | apply Kd.R_drewN | apply Kd.R_drew)); exact HO_11.out) hb); have n1_ := Aside0.mk (Kd.V_below (by (with_reducible repeat (first | apply Kd.V_alloc | apply Kd.V_drewN | apply Kd.V_drew)); exact HO338.out) hb); have n2_ := Aside0.mk (below_step (by repeat (first | (with_reducible first | exact HB.out | apply below_alloc | apply pw_below_drewN | apply below_drew1) | exact HB.out)) hb); clear HO_11; clear HO338; clear HB; have HO_11 := n0_; have HO338 := n1_; have HB := n2_; clear n0_ n1_ n2_; (try clear hb); (try clear hb2); (try clear hk); (try clear hi)))
                (try simp only [Act.put, List.setIfInBounds_toArray, List.set_cons_zero, List.set_cons_succ])
                go_cut [131] (fun v131 wc => ∃ (kq : Nat) (x131_32 : Bool), v131 = .bool x131_32 ∧ Aside0 (laws_FnMeanders.j2 kq l0 t317 t318 t319 t320 t325 t326 t327 t328 t336 t339 t340 t341 x131_32 = some r) ∧ Aside0 (kq ≤ kj20) ∧ Aside0 (Kd.R (Kd.int .i64) 2 wc w.heap.size (fun _ => True) v329 t327) ∧ Aside0 (Kd.V (Kd.int .i64) 2 wc w.heap.size (fun k_ => some k_ ≠ (v329 : Value).ownBlock) (.slice Ao35 t336.length co35) t336) ∧ Aside0 (Below w.heap.size w wc))
                case first => as_aux_lemma =>
                  have H := HC33.out
                  clear HC33
                  by_cases c38 : t341 = t344
                  · rw [if_pos c38] at H
                    have c38b0 : (t341 == t344) = true := beq_iff_eq.mpr c38
                    have c38b1 : (t341 != t344) = false := bne_eq_false_iff_eq.mpr c38
                    clear c38
                    (first | rw [c38b0] | (simp only [i64_w, i32_w]; rw [c38b0]) | skip)
                    by_cases c39 : t339.toList = t342.toList
                    · rw [if_pos c39] at H
                      have c39b0 : (t339.toList == t342.toList) = true := beq_iff_eq.mpr c39
                      have c39b1 : (t339.toList != t342.toList) = false := bne_eq_false_iff_eq.mpr c39
                      clear c39
                      have H' := Aside0.mk H
                      clear H
                      go_wp2
                      go_meet
                      case rel => exact ⟨_, ((t340.toList != t343.toList)), (by first | rfl | (simp; done) | (simp [*]; done)), H', ⟨by have := HJ6.out; have := HJ20.out; first | omega | exact Nat.le_refl _⟩, ⟨by (with_reducible repeat (first | apply Kd.R_alloc | apply Kd.R_drewN | apply Kd.R_drew)); exact HO_11.out⟩, ⟨by (with_reducible repeat (first | apply Kd.V_alloc | apply Kd.V_drewN | apply Kd.V_drew)); exact HO338.out⟩, ⟨by repeat (first | (with_reducible first | exact HB.out | apply below_alloc | apply pw_below_drewN | apply below_drew1) | exact HB.out)⟩⟩
                    · rw [if_neg c39] at H
                      have c39b0 : (t339.toList == t342.toList) = false := beq_eq_false_iff_ne.mpr c39
                      have c39b1 : (t339.toList != t342.toList) = true := bne_iff_ne.mpr c39
                      have H' := Aside0.mk H
                      clear H
                      go_wp2
                      go_meet
                      case rel => exact ⟨_, (true), (by first | rfl | (simp; done) | (simp [*]; done)), H', ⟨by have := HJ6.out; have := HJ20.out; first | omega | exact Nat.le_refl _⟩, ⟨by (with_reducible repeat (first | apply Kd.R_alloc | apply Kd.R_drewN | apply Kd.R_drew)); exact HO_11.out⟩, ⟨by (with_reducible repeat (first | apply Kd.V_alloc | apply Kd.V_drewN | apply Kd.V_drew)); exact HO338.out⟩, ⟨by repeat (first | (with_reducible first | exact HB.out | apply below_alloc | apply pw_below_drewN | apply below_drew1) | exact HB.out)⟩⟩
                  · rw [if_neg c38] at H
                    have c38b0 : (t341 == t344) = false := beq_eq_false_iff_ne.mpr c38
                    have c38b1 : (t341 != t344) = true := bne_iff_ne.mpr c38
                    (first | rw [c38b0] | (simp only [i64_w, i32_w]; rw [c38b0]) | skip)
                    have H' := Aside0.mk H
                    clear H
                    go_wp2
                    go_meet
                    case rel => exact ⟨_, (true), (by first | rfl | (simp; done) | (simp [*]; done)), H', ⟨by have := HJ6.out; have := HJ20.out; first | omega | exact Nat.le_refl _⟩, ⟨by (with_reducible repeat (first | apply Kd.R_alloc | apply Kd.R_drewN | apply Kd.R_drew)); exact HO_11.out⟩, ⟨by (with_reducible repeat (first | apply Kd.V_alloc | apply Kd.V_drewN | apply Kd.V_drew)); exact HO338.out⟩, ⟨by repeat (first | (with_reducible first | exact HB.out | apply below_alloc | apply pw_below_drewN | apply below_drew1) | exact HB.out)⟩⟩
                case rest => as_aux_lemma =>
                  clear HC33
                  try clear c1
                  try clear c2
                  try clear p2
                  try clear c3
                  try clear c4
                  try clear c5
                  try clear c6
                  try clear c7
                  try clear c10
                  try clear c11
                  try clear c11b0
                  try clear c11b1
                  try clear c12
                  try clear c12b0
                  try clear c12b1
                  try clear c14
                  try clear c15
                  try clear c16
                  try clear c17
                  try clear c25
                  try clear c25b0
                  try clear c25b1
                  try clear c29
                  try clear c38
                  try clear c38b0
                  try clear c38b1
                  try clear c39
                  try clear c39b0
                  try clear c39b1
                  try clear p2
                  obtain ⟨kq, x131_32, rfl, HA, HJ32, HO_11, HO_15, HB⟩ := hcut
                  cases kq with
                  | zero => exact absurd HA.out (by simp [laws_FnMeanders.j2])
                  | succ kj32 =>
                    have H := HA.out
                    clear HA
                    simp only [laws_FnMeanders.j2] at H
                    by_cases c40 : x131_32 = true
                    · subst c40
                      have H1 : (some false) = some r := by rw [if_pos rfl] at H; exact H
                      clear H
                      have H := H1
                      clear H1
                      obtain rfl := Option.some.inj H
                      go_wp2
                      go_ret
                      exact ⟨by first | rfl | (simp [errW_none, errW_some] <;> rfl) | (simp [*, errW_none, errW_some] <;> rfl), by repeat (first | (with_reducible first | exact HB.out | apply below_alloc | apply pw_below_drewN | apply below_drew1) | exact HB.out)⟩
                    · replace c40 := Bool.eq_false_iff.mpr c40
                      subst c40
                      have H1 : ((impl_TurnSystem.f kj32 t317).bind fun bt345 => ((spec_TurnSystem.f kj32 t317).bind fun bt347 => (if bt345.2 = bt347.2 then (laws_FnMeanders.j3 kj32 l0 t317 t318 t319 t320 t325 t326 t327 t328 t336 t339 t340 t341 bt345.1 bt345.2 (bt345.1.toList != bt347.1.toList)) else (laws_FnMeanders.j3 kj32 l0 t317 t318 t319 t320 t325 t326 t327 t328 t336 t339 t340 t341 bt345.1 bt345.2 true)))) = some r := by rw [if_neg (show ¬ (false = true) by decide)] at H; exact H
                      clear H
                      have H := H1
                      clear H1
                      replace H := Option.bind_eq_some_iff.mp H
                      obtain ⟨⟨t345, t346⟩, A410, H⟩ := H
                      replace H : ((spec_TurnSystem.f kj32 t317).bind fun bt347 => (if t346 = bt347.2 then (laws_FnMeanders.j3 kj32 l0 t317 t318 t319 t320 t325 t326 t327 t328 t336 t339 t340 t341 t345 t346 (t345.toList != bt347.1.toList)) else (laws_FnMeanders.j3 kj32 l0 t317 t318 t319 t320 t325 t326 t327 t328 t336 t339 t340 t341 t345 t346 true))) = some r := H
                      have A41 := Aside0.mk A410
                      clear A410
                      replace H := Option.bind_eq_some_iff.mp H
                      obtain ⟨⟨t347, t348⟩, A420, H⟩ := H
                      replace H : (if t346 = t348 then (laws_FnMeanders.j3 kj32 l0 t317 t318 t319 t320 t325 t326 t327 t328 t336 t339 t340 t341 t345 t346 (t345.toList != t347.toList)) else (laws_FnMeanders.j3 kj32 l0 t317 t318 t319 t320 t325 t326 t327 t328 t336 t339 t340 t341 t345 t346 true)) = some r := H
                      have A42 := Aside0.mk A420
                      clear A420
                      have HC43 := Aside0.mk H
                      clear H
                      go_upto_region 20 with (first | ((with_reducible refine gate_callee (f := 17) rfl ?_); refine goesL_ (some 134) rfl rfl Try.func17 (by kernel_rfl) rfl #[.string t317] rfl (by (try simp only [List.map_toArray, List.map_cons, List.map_nil]); first | done | rfl | (simp only [List.length_drop, List.length_take]; rfl)) ?_; (with_reducible refine (impl_TurnSystem.calls kj32 t317 t345 t346 _ A41.out).mono ?_); rintro e w44 ⟨rfl, hb⟩; refine ⟨_, rfl, ?_⟩; have n0_ := Aside0.mk (Kd.R_below (by (with_reducible repeat (first | apply Kd.R_alloc | apply Kd.R_drewN | apply Kd.R_drew)); exact HO_11.out) hb); have n1_ := Aside0.mk (Kd.V_below (by (with_reducible repeat (first | apply Kd.V_alloc | apply Kd.V_drewN | apply Kd.V_drew)); exact HO_15.out) hb); have n2_ := Aside0.mk (below_step (by repeat (first | (with_reducible first | exact HB.out | apply below_alloc | apply pw_below_drewN | apply below_drew1) | exact HB.out)) hb); clear HO_11; clear HO_15; clear HB; have HO_11 := n0_; have HO_15 := n1_; have HB := n2_; clear n0_ n1_ n2_; (try clear hb); (try clear hb2); (try clear hk); (try clear hi)) | ((with_reducible refine gate_callee (f := 18) rfl ?_); refine goesL_ (some 139) rfl rfl Try.func18 (by kernel_rfl) rfl #[.string t317] rfl (by (try simp only [List.map_toArray, List.map_cons, List.map_nil]); first | done | rfl | (simp only [List.length_drop, List.length_take]; rfl)) ?_; (with_reducible refine (spec_TurnSystem.calls kj32 t317 t347 t348 _ A42.out).mono ?_); rintro e w45 ⟨rfl, hb⟩; refine ⟨_, rfl, ?_⟩; have n0_ := Aside0.mk (Kd.R_below (by (with_reducible repeat (first | apply Kd.R_alloc | apply Kd.R_drewN | apply Kd.R_drew)); exact HO_11.out) hb); have n1_ := Aside0.mk (Kd.V_below (by (with_reducible repeat (first | apply Kd.V_alloc | apply Kd.V_drewN | apply Kd.V_drew)); exact HO_15.out) hb); have n2_ := Aside0.mk (below_step (by repeat (first | (with_reducible first | exact HB.out | apply below_alloc | apply pw_below_drewN | apply below_drew1) | exact HB.out)) hb); clear HO_11; clear HO_15; clear HB; have HO_11 := n0_; have HO_15 := n1_; have HB := n2_; clear n0_ n1_ n2_; (try clear hb); (try clear hb2); (try clear hk); (try clear hi)))
                      (try simp only [Act.put, List.setIfInBounds_toArray, List.set_cons_zero, List.set_cons_succ])
                      go_cut [149] (fun v149 wc => ∃ (kq : Nat) (x149_42 : Bool), v149 = .bool x149_42 ∧ Aside0 (laws_FnMeanders.j3 kq l0 t317 t318 t319 t320 t325 t326 t327 t328 t336 t339 t340 t341 t345 t346 x149_42 = some r) ∧ Aside0 (kq ≤ kj32) ∧ Aside0 (Kd.R (Kd.int .i64) 2 wc w.heap.size (fun _ => True) v329 t327) ∧ Aside0 (Kd.V (Kd.int .i64) 2 wc w.heap.size (fun k_ => some k_ ≠ (v329 : Value).ownBlock) (.slice Ao35 t336.length co35) t336) ∧ Aside0 (Below w.heap.size w wc))
                      case first => as_aux_lemma =>
                        have H := HC43.out
                        clear HC43
                        by_cases c46 : t346 = t348
                        · rw [if_pos c46] at H
                          have c46b0 : (t346 == t348) = true := beq_iff_eq.mpr c46
                          have c46b1 : (t346 != t348) = false := bne_eq_false_iff_eq.mpr c46
                          clear c46
                          (first | rw [c46b0] | (simp only [i64_w, i32_w]; rw [c46b0]) | skip)
                          have H' := Aside0.mk H
                          clear H
                          go_wp2
                          go_meet
                          case rel => exact ⟨_, ((t345.toList != t347.toList)), (by first | rfl | (simp; done) | (simp [*]; done)), H', ⟨by have := HJ6.out; have := HJ20.out; have := HJ32.out; first | omega | exact Nat.le_refl _⟩, ⟨by (with_reducible repeat (first | apply Kd.R_alloc | apply Kd.R_drewN | apply Kd.R_drew)); exact HO_11.out⟩, ⟨by (with_reducible repeat (first | apply Kd.V_alloc | apply Kd.V_drewN | apply Kd.V_drew)); exact HO_15.out⟩, ⟨by repeat (first | (with_reducible first | exact HB.out | apply below_alloc | apply pw_below_drewN | apply below_drew1) | exact HB.out)⟩⟩
                        · rw [if_neg c46] at H
                          have c46b0 : (t346 == t348) = false := beq_eq_false_iff_ne.mpr c46
                          have c46b1 : (t346 != t348) = true := bne_iff_ne.mpr c46
                          (first | rw [c46b0] | (simp only [i64_w, i32_w]; rw [c46b0]) | skip)
                          have H' := Aside0.mk H
                          clear H
                          go_wp2
                          go_meet
                          case rel => exact ⟨_, (true), (by first | rfl | (simp; done) | (simp [*]; done)), H', ⟨by have := HJ6.out; have := HJ20.out; have := HJ32.out; first | omega | exact Nat.le_refl _⟩, ⟨by (with_reducible repeat (first | apply Kd.R_alloc | apply Kd.R_drewN | apply Kd.R_drew)); exact HO_11.out⟩, ⟨by (with_reducible repeat (first | apply Kd.V_alloc | apply Kd.V_drewN | apply Kd.V_drew)); exact HO_15.out⟩, ⟨by repeat (first | (with_reducible first | exact HB.out | apply below_alloc | apply pw_below_drewN | apply below_drew1) | exact HB.out)⟩⟩
                      case rest => as_aux_lemma =>
                        clear HC43
                        try clear c1
                        try clear c2
                        try clear p2
                        try clear c3
                        try clear c4
                        try clear c5
                        try clear c6
                        try clear c7
                        try clear c10
                        try clear c11
                        try clear c11b0
                        try clear c11b1
                        try clear c12
                        try clear c12b0
                        try clear c12b1
                        try clear c14
                        try clear c15
                        try clear c16
                        try clear c17
                        try clear c18
                        try clear c25
                        try clear c25b0
                        try clear c25b1
                        try clear c29
                        try clear c38
                        try clear c38b0
                        try clear c38b1
                        try clear c39
                        try clear c39b0
                        try clear c39b1
                        try clear c40
                        try clear c46
                        try clear c46b0
                        try clear c46b1
                        try clear p2
                        obtain ⟨kq, x149_42, rfl, HA, HJ42, HO_11, HO_15, HB⟩ := hcut
                        cases kq with
                        | zero => exact absurd HA.out (by simp [laws_FnMeanders.j3])
                        | succ kj42 =>
                          have H := HA.out
                          clear HA
                          simp only [laws_FnMeanders.j3] at H
                          by_cases c47 : x149_42 = true
                          · subst c47
                            have H1 : (some false) = some r := by rw [if_pos rfl] at H; exact H
                            clear H
                            have H := H1
                            clear H1
                            obtain rfl := Option.some.inj H
                            go_wp2
                            go_ret
                            exact ⟨by first | rfl | (simp [errW_none, errW_some] <;> rfl) | (simp [*, errW_none, errW_some] <;> rfl), by repeat (first | (with_reducible first | exact HB.out | apply below_alloc | apply pw_below_drewN | apply below_drew1) | exact HB.out)⟩
                          · replace c47 := Bool.eq_false_iff.mpr c47
                            subst c47
                            have H1 : ((spec_DrawIsIrreduciblePair.f kj42 l0).bind fun bt349 => ((impl_IsIrreduciblePair.f kj42 bt349.1 bt349.2).bind fun bt351 => ((spec_IsIrreduciblePair.f kj42 bt349.1 bt349.2).bind fun bt353 => (if bt351.2 = bt353.2 then (laws_FnMeanders.j4 kj42 t317 t318 t319 t320 t325 t326 t327 t328 t336 t339 t340 t341 t345 t346 bt351.2 (bt351.1 != bt353.1)) else (laws_FnMeanders.j4 kj42 t317 t318 t319 t320 t325 t326 t327 t328 t336 t339 t340 t341 t345 t346 bt351.2 true))))) = some r := by rw [if_neg (show ¬ (false = true) by decide)] at H; exact H
                            clear H
                            have H := H1
                            clear H1
                            replace H := Option.bind_eq_some_iff.mp H
                            obtain ⟨⟨t349, t350⟩, A480, H⟩ := H
                            replace H : ((impl_IsIrreduciblePair.f kj42 t349 t350).bind fun bt351 => ((spec_IsIrreduciblePair.f kj42 t349 t350).bind fun bt353 => (if bt351.2 = bt353.2 then (laws_FnMeanders.j4 kj42 t317 t318 t319 t320 t325 t326 t327 t328 t336 t339 t340 t341 t345 t346 bt351.2 (bt351.1 != bt353.1)) else (laws_FnMeanders.j4 kj42 t317 t318 t319 t320 t325 t326 t327 t328 t336 t339 t340 t341 t345 t346 bt351.2 true)))) = some r := H
                            have A48 := Aside0.mk A480
                            clear A480
                            replace H := Option.bind_eq_some_iff.mp H
                            obtain ⟨⟨t351, t352⟩, A490, H⟩ := H
                            replace H : ((spec_IsIrreduciblePair.f kj42 t349 t350).bind fun bt353 => (if t352 = bt353.2 then (laws_FnMeanders.j4 kj42 t317 t318 t319 t320 t325 t326 t327 t328 t336 t339 t340 t341 t345 t346 t352 (t351 != bt353.1)) else (laws_FnMeanders.j4 kj42 t317 t318 t319 t320 t325 t326 t327 t328 t336 t339 t340 t341 t345 t346 t352 true))) = some r := H
                            have A49 := Aside0.mk A490
                            clear A490
                            replace H := Option.bind_eq_some_iff.mp H
                            obtain ⟨⟨t353, t354⟩, A500, H⟩ := H
                            replace H : (if t352 = t354 then (laws_FnMeanders.j4 kj42 t317 t318 t319 t320 t325 t326 t327 t328 t336 t339 t340 t341 t345 t346 t352 (t351 != t353)) else (laws_FnMeanders.j4 kj42 t317 t318 t319 t320 t325 t326 t327 t328 t336 t339 t340 t341 t345 t346 t352 true)) = some r := H
                            have A50 := Aside0.mk A500
                            clear A500
                            have HC51 := Aside0.mk H
                            clear H
                            go_upto_region 25 with (first | ((with_reducible refine gate_callee (f := 19) rfl ?_); refine goesL_ (some 152) rfl rfl Try.func19 (by kernel_rfl) rfl #[.slice A0 l0.length c0] rfl (by (try simp only [List.map_toArray, List.map_cons, List.map_nil]); first | done | rfl | (simp only [List.length_drop, List.length_take]; rfl)) ?_; (with_reducible refine (spec_DrawIsIrreduciblePair.calls kj42 _ _ l0 t349 t350 _ ?side1 ?side2 A48.out).mono ?_); (case side1 => repeat (first | exact (Kd.C_below HR0.out HB.out) | (with_reducible refine Kd.C_alloc ?_ _) | (with_reducible refine Kd.C_drewN ?_ _) | (with_reducible refine Kd.C_drew ?_))); (case side2 => exact HC0.out); rintro e w52 ⟨rfl, hb⟩; refine ⟨_, rfl, ?_⟩; have n0_ := Aside0.mk (Kd.R_below (by (with_reducible repeat (first | apply Kd.R_alloc | apply Kd.R_drewN | apply Kd.R_drew)); exact HO_11.out) hb); have n1_ := Aside0.mk (Kd.V_below (by (with_reducible repeat (first | apply Kd.V_alloc | apply Kd.V_drewN | apply Kd.V_drew)); exact HO_15.out) hb); have n2_ := Aside0.mk (below_step (by repeat (first | (with_reducible first | exact HB.out | apply below_alloc | apply pw_below_drewN | apply below_drew1) | exact HB.out)) hb); clear HO_11; clear HO_15; clear HB; have HO_11 := n0_; have HO_15 := n1_; have HB := n2_; clear n0_ n1_ n2_; (try clear hb); (try clear hb2); (try clear hk); (try clear hi)) | ((with_reducible refine gate_callee (f := 20) rfl ?_); refine goesL_ (some 158) rfl rfl Try.func20 (by kernel_rfl) rfl #[.string t349, .string t350] rfl (by (try simp only [List.map_toArray, List.map_cons, List.map_nil]); first | done | rfl | (simp only [List.length_drop, List.length_take]; rfl)) ?_; (with_reducible refine (impl_IsIrreduciblePair.calls kj42 t349 t350 t351 t352 _ A49.out).mono ?_); rintro e w53 ⟨rfl, hb⟩; refine ⟨_, rfl, ?_⟩; have n0_ := Aside0.mk (Kd.R_below (by (with_reducible repeat (first | apply Kd.R_alloc | apply Kd.R_drewN | apply Kd.R_drew)); exact HO_11.out) hb); have n1_ := Aside0.mk (Kd.V_below (by (with_reducible repeat (first | apply Kd.V_alloc | apply Kd.V_drewN | apply Kd.V_drew)); exact HO_15.out) hb); have n2_ := Aside0.mk (below_step (by repeat (first | (with_reducible first | exact HB.out | apply below_alloc | apply pw_below_drewN | apply below_drew1) | exact HB.out)) hb); clear HO_11; clear HO_15; clear HB; have HO_11 := n0_; have HO_15 := n1_; have HB := n2_; clear n0_ n1_ n2_; (try clear hb); (try clear hb2); (try clear hk); (try clear hi)) | ((with_reducible refine gate_callee (f := 21) rfl ?_); refine goesL_ (some 164) rfl rfl Try.func21 (by kernel_rfl) rfl #[.string t349, .string t350] rfl (by (try simp only [List.map_toArray, List.map_cons, List.map_nil]); first | done | rfl | (simp only [List.length_drop, List.length_take]; rfl)) ?_; (with_reducible refine (spec_IsIrreduciblePair.calls kj42 t349 t350 t353 t354 _ A50.out).mono ?_); rintro e w54 ⟨rfl, hb⟩; refine ⟨_, rfl, ?_⟩; have n0_ := Aside0.mk (Kd.R_below (by (with_reducible repeat (first | apply Kd.R_alloc | apply Kd.R_drewN | apply Kd.R_drew)); exact HO_11.out) hb); have n1_ := Aside0.mk (Kd.V_below (by (with_reducible repeat (first | apply Kd.V_alloc | apply Kd.V_drewN | apply Kd.V_drew)); exact HO_15.out) hb); have n2_ := Aside0.mk (below_step (by repeat (first | (with_reducible first | exact HB.out | apply below_alloc | apply pw_below_drewN | apply below_drew1) | exact HB.out)) hb); clear HO_11; clear HO_15; clear HB; have HO_11 := n0_; have HO_15 := n1_; have HB := n2_; clear n0_ n1_ n2_; (try clear hb); (try clear hb2); (try clear hk); (try clear hi)))
                            (try simp only [Act.put, List.setIfInBounds_toArray, List.set_cons_zero, List.set_cons_succ])
                            go_cut [174] (fun v174 wc => ∃ (kq : Nat) (x174_50 : Bool), v174 = .bool x174_50 ∧ Aside0 (laws_FnMeanders.j4 kq t317 t318 t319 t320 t325 t326 t327 t328 t336 t339 t340 t341 t345 t346 t352 x174_50 = some r) ∧ Aside0 (kq ≤ kj42) ∧ Aside0 (Kd.R (Kd.int .i64) 2 wc w.heap.size (fun _ => True) v329 t327) ∧ Aside0 (Kd.V (Kd.int .i64) 2 wc w.heap.size (fun k_ => some k_ ≠ (v329 : Value).ownBlock) (.slice Ao35 t336.length co35) t336) ∧ Aside0 (Below w.heap.size w wc))
                            case first => as_aux_lemma =>
                              have H := HC51.out
                              clear HC51
                              by_cases c55 : t352 = t354
                              · rw [if_pos c55] at H
                                have c55b0 : (t352 == t354) = true := beq_iff_eq.mpr c55
                                have c55b1 : (t352 != t354) = false := bne_eq_false_iff_eq.mpr c55
                                clear c55
                                (first | rw [c55b0] | (simp only [i64_w, i32_w]; rw [c55b0]) | skip)
                                have H' := Aside0.mk H
                                clear H
                                go_wp2
                                go_meet
                                case rel => exact ⟨_, ((t351 != t353)), (by first | rfl | (simp; done) | (simp [*]; done)), H', ⟨by have := HJ6.out; have := HJ20.out; have := HJ32.out; have := HJ42.out; first | omega | exact Nat.le_refl _⟩, ⟨by (with_reducible repeat (first | apply Kd.R_alloc | apply Kd.R_drewN | apply Kd.R_drew)); exact HO_11.out⟩, ⟨by (with_reducible repeat (first | apply Kd.V_alloc | apply Kd.V_drewN | apply Kd.V_drew)); exact HO_15.out⟩, ⟨by repeat (first | (with_reducible first | exact HB.out | apply below_alloc | apply pw_below_drewN | apply below_drew1) | exact HB.out)⟩⟩
                              · rw [if_neg c55] at H
                                have c55b0 : (t352 == t354) = false := beq_eq_false_iff_ne.mpr c55
                                have c55b1 : (t352 != t354) = true := bne_iff_ne.mpr c55
                                (first | rw [c55b0] | (simp only [i64_w, i32_w]; rw [c55b0]) | skip)
                                have H' := Aside0.mk H
                                clear H
                                go_wp2
                                go_meet
                                case rel => exact ⟨_, (true), (by first | rfl | (simp; done) | (simp [*]; done)), H', ⟨by have := HJ6.out; have := HJ20.out; have := HJ32.out; have := HJ42.out; first | omega | exact Nat.le_refl _⟩, ⟨by (with_reducible repeat (first | apply Kd.R_alloc | apply Kd.R_drewN | apply Kd.R_drew)); exact HO_11.out⟩, ⟨by (with_reducible repeat (first | apply Kd.V_alloc | apply Kd.V_drewN | apply Kd.V_drew)); exact HO_15.out⟩, ⟨by repeat (first | (with_reducible first | exact HB.out | apply below_alloc | apply pw_below_drewN | apply below_drew1) | exact HB.out)⟩⟩
                            case rest => as_aux_lemma =>
                              clear HC51
                              try clear c1
                              try clear c2
                              try clear p2
                              try clear c3
                              try clear c4
                              try clear c5
                              try clear c6
                              try clear c7
                              try clear c10
                              try clear c11
                              try clear c11b0
                              try clear c11b1
                              try clear c12
                              try clear c12b0
                              try clear c12b1
                              try clear c14
                              try clear c15
                              try clear c16
                              try clear c17
                              try clear c18
                              try clear c19
                              try clear c20
                              try clear c21
                              try clear c25
                              try clear c25b0
                              try clear c25b1
                              try clear c29
                              try clear c38
                              try clear c38b0
                              try clear c38b1
                              try clear c39
                              try clear c39b0
                              try clear c39b1
                              try clear c40
                              try clear c46
                              try clear c46b0
                              try clear c46b1
                              try clear c47
                              try clear c55
                              try clear c55b0
                              try clear c55b1
                              try clear p2
                              obtain ⟨kq, x174_50, rfl, HA, HJ50, HO_11, HO_15, HB⟩ := hcut
                              cases kq with
                              | zero => exact absurd HA.out (by simp [laws_FnMeanders.j4])
                              | succ kj50 =>
                                have H := HA.out
                                clear HA
                                simp only [laws_FnMeanders.j4] at H
                                by_cases c56 : x174_50 = true
                                · subst c56
                                  have H1 : (some false) = some r := by rw [if_pos rfl] at H; exact H
                                  clear H
                                  have H := H1
                                  clear H1
                                  obtain rfl := Option.some.inj H
                                  go_wp2
                                  go_ret
                                  exact ⟨by first | rfl | (simp [errW_none, errW_some] <;> rfl) | (simp [*, errW_none, errW_some] <;> rfl), by repeat (first | (with_reducible first | exact HB.out | apply below_alloc | apply pw_below_drewN | apply below_drew1) | exact HB.out)⟩
                                · replace c56 := Bool.eq_false_iff.mpr c56
                                  subst c56
                                  have H1 : (if t352 = 0 then (laws_FnMeanders.j5 kj50 t317 t318 t319 t320 t325 t326 t327 t328 t336 t339 t340 t341 t345 t346 (t328 == 0)) else (laws_FnMeanders.j5 kj50 t317 t318 t319 t320 t325 t326 t327 t328 t336 t339 t340 t341 t345 t346 false)) = some r := by rw [if_neg (show ¬ (false = true) by decide)] at H; exact H
                                  clear H
                                  have H := H1
                                  clear H1
                                  have HC57 := Aside0.mk H
                                  clear H
                                  go_upto_region 27 with (fail)
                                  go_cut [180] (fun v180 wc => ∃ (kq : Nat) (x180_56 : Bool), v180 = .bool x180_56 ∧ Aside0 (laws_FnMeanders.j5 kq t317 t318 t319 t320 t325 t326 t327 t328 t336 t339 t340 t341 t345 t346 x180_56 = some r) ∧ Aside0 (kq ≤ kj50) ∧ Aside0 (Kd.R (Kd.int .i64) 2 wc w.heap.size (fun _ => True) v329 t327) ∧ Aside0 (Kd.V (Kd.int .i64) 2 wc w.heap.size (fun k_ => some k_ ≠ (v329 : Value).ownBlock) (.slice Ao35 t336.length co35) t336) ∧ Aside0 (Below w.heap.size w wc))
                                  case first => as_aux_lemma =>
                                    have H := HC57.out
                                    clear HC57
                                    by_cases c58 : t352 = 0
                                    · rw [if_pos c58] at H
                                      have c58b0 : (t352 == 0) = true := beq_iff_eq.mpr c58
                                      have c58b1 : (t352 != 0) = false := bne_eq_false_iff_eq.mpr c58
                                      clear c58
                                      (first | rw [c58b0] | (simp only [i64_w, i32_w]; rw [c58b0]) | skip)
                                      have H' := Aside0.mk H
                                      clear H
                                      go_wp2
                                      go_meet
                                      case rel => exact ⟨_, ((t328 == 0)), (by first | rfl | (simp; done) | (simp [*]; done)), H', ⟨by have := HJ6.out; have := HJ20.out; have := HJ32.out; have := HJ42.out; have := HJ50.out; first | omega | exact Nat.le_refl _⟩, ⟨by (with_reducible repeat (first | apply Kd.R_alloc | apply Kd.R_drewN | apply Kd.R_drew)); exact HO_11.out⟩, ⟨by (with_reducible repeat (first | apply Kd.V_alloc | apply Kd.V_drewN | apply Kd.V_drew)); exact HO_15.out⟩, ⟨by repeat (first | (with_reducible first | exact HB.out | apply below_alloc | apply pw_below_drewN | apply below_drew1) | exact HB.out)⟩⟩
                                    · rw [if_neg c58] at H
                                      have c58b0 : (t352 == 0) = false := beq_eq_false_iff_ne.mpr c58
                                      have c58b1 : (t352 != 0) = true := bne_iff_ne.mpr c58
                                      (first | rw [c58b0] | (simp only [i64_w, i32_w]; rw [c58b0]) | skip)
                                      have H' := Aside0.mk H
                                      clear H
                                      go_wp2
                                      go_meet
                                      case rel => exact ⟨_, (false), (by first | rfl | (simp; done) | (simp [*]; done)), H', ⟨by have := HJ6.out; have := HJ20.out; have := HJ32.out; have := HJ42.out; have := HJ50.out; first | omega | exact Nat.le_refl _⟩, ⟨by (with_reducible repeat (first | apply Kd.R_alloc | apply Kd.R_drewN | apply Kd.R_drew)); exact HO_11.out⟩, ⟨by (with_reducible repeat (first | apply Kd.V_alloc | apply Kd.V_drewN | apply Kd.V_drew)); exact HO_15.out⟩, ⟨by repeat (first | (with_reducible first | exact HB.out | apply below_alloc | apply pw_below_drewN | apply below_drew1) | exact HB.out)⟩⟩
                                  case rest => as_aux_lemma =>
                                    clear HC57
                                    try clear c1
                                    try clear c2
                                    try clear p2
                                    try clear c3
                                    try clear c4
                                    try clear c5
                                    try clear c6
                                    try clear c7
                                    try clear c10
                                    try clear c11
                                    try clear c11b0
                                    try clear c11b1
                                    try clear c12
                                    try clear c12b0
                                    try clear c12b1
                                    try clear c14
                                    try clear c15
                                    try clear c16
                                    try clear c17
                                    try clear c18
                                    try clear c19
                                    try clear c20
                                    try clear c21
                                    try clear c25
                                    try clear c25b0
                                    try clear c25b1
                                    try clear c29
                                    try clear c38
                                    try clear c38b0
                                    try clear c38b1
                                    try clear c39
                                    try clear c39b0
                                    try clear c39b1
                                    try clear c40
                                    try clear c46
                                    try clear c46b0
                                    try clear c46b1
                                    try clear c47
                                    try clear c55
                                    try clear c55b0
                                    try clear c55b1
                                    try clear c56
                                    try clear c58
                                    try clear c58b0
                                    try clear c58b1
                                    try clear p2
                                    obtain ⟨kq, x180_56, rfl, HA, HJ56, HO_11, HO_15, HB⟩ := hcut
                                    cases kq with
                                    | zero => exact absurd HA.out (by simp [laws_FnMeanders.j5])
                                    | succ kj56 =>
                                      have H := HA.out
                                      clear HA
                                      simp only [laws_FnMeanders.j5] at H
                                      have HC59 := Aside0.mk H
                                      clear H
                                      go_upto_if 180 with (fail)
                                      go_cut [] (fun wc => ∃ (kq : Nat), Aside0 (laws_FnMeanders.j6 kq t317 t318 t319 t320 t325 t326 t327 t328 t336 t339 t340 t341 t345 t346 = some r) ∧ Aside0 (kq ≤ kj56) ∧ Aside0 (Kd.R (Kd.int .i64) 2 wc w.heap.size (fun _ => True) v329 t327) ∧ Aside0 (Kd.V (Kd.int .i64) 2 wc w.heap.size (fun k_ => some k_ ≠ (v329 : Value).ownBlock) (.slice Ao35 t336.length co35) t336) ∧ Aside0 (Below w.heap.size w wc))
                                      case first => as_aux_lemma =>
                                        have H := HC59.out
                                        clear HC59
                                        by_cases c60 : x180_56 = true
                                        · subst c60
                                          have H1 : ((impl_IsIrreduciblePair.f kj56 t325 t326).bind fun bt355 => (if bt355.2 = 0 then (if bt355.1 = true then (laws_FnMeanders.j6 kj56 t317 t318 t319 t320 t325 t326 t327 t328 t336 t339 t340 t341 t345 t346) else (some false)) else (some false))) = some r := by rw [if_pos rfl] at H; exact H
                                          clear H
                                          have H := H1
                                          clear H1
                                          replace H := Option.bind_eq_some_iff.mp H
                                          obtain ⟨⟨t355, t356⟩, A610, H⟩ := H
                                          replace H : (if t356 = 0 then (if t355 = true then (laws_FnMeanders.j6 kj56 t317 t318 t319 t320 t325 t326 t327 t328 t336 t339 t340 t341 t345 t346) else (some false)) else (some false)) = some r := H
                                          have A61 := Aside0.mk A610
                                          clear A610
                                          by_cases c62 : t356 = 0
                                          · rw [if_pos c62] at H
                                            have c62b0 : (t356 == 0) = true := beq_iff_eq.mpr c62
                                            have c62b1 : (t356 != 0) = false := bne_eq_false_iff_eq.mpr c62
                                            clear c62
                                            (first | rw [c62b0] | (simp only [i64_w, i32_w]; rw [c62b0]) | skip)
                                            by_cases c63 : t355 = true
                                            · subst c63
                                              have H1 : (laws_FnMeanders.j6 kj56 t317 t318 t319 t320 t325 t326 t327 t328 t336 t339 t340 t341 t345 t346) = some r := by rw [if_pos rfl] at H; exact H
                                              clear H
                                              have H := H1
                                              clear H1
                                              have H' := Aside0.mk H
                                              clear H
                                              go_wp2_with (first | ((with_reducible refine gate_callee (f := 20) rfl ?_); refine goesL_ (some 184) rfl rfl Try.func20 (by kernel_rfl) rfl #[.string t325, .string t326] rfl (by (try simp only [List.map_toArray, List.map_cons, List.map_nil]); first | done | rfl | (simp only [List.length_drop, List.length_take]; rfl)) ?_; (with_reducible refine (impl_IsIrreduciblePair.calls kj56 t325 t326 true t356 _ A61.out).mono ?_); rintro e w64 ⟨rfl, hb⟩; refine ⟨_, rfl, ?_⟩; have n0_ := Aside0.mk (Kd.R_below (by (with_reducible repeat (first | apply Kd.R_alloc | apply Kd.R_drewN | apply Kd.R_drew)); exact HO_11.out) hb); have n1_ := Aside0.mk (Kd.V_below (by (with_reducible repeat (first | apply Kd.V_alloc | apply Kd.V_drewN | apply Kd.V_drew)); exact HO_15.out) hb); have n2_ := Aside0.mk (below_step (by repeat (first | (with_reducible first | exact HB.out | apply below_alloc | apply pw_below_drewN | apply below_drew1) | exact HB.out)) hb); clear HO_11; clear HO_15; clear HB; have HO_11 := n0_; have HO_15 := n1_; have HB := n2_; clear n0_ n1_ n2_; (try clear hb); (try clear hb2); (try clear hk); (try clear hi)))
                                              go_meet
                                              case rel => exact ⟨_, H', ⟨by have := HJ6.out; have := HJ20.out; have := HJ32.out; have := HJ42.out; have := HJ50.out; have := HJ56.out; first | omega | exact Nat.le_refl _⟩, ⟨by (with_reducible repeat (first | apply Kd.R_alloc | apply Kd.R_drewN | apply Kd.R_drew)); exact HO_11.out⟩, ⟨by (with_reducible repeat (first | apply Kd.V_alloc | apply Kd.V_drewN | apply Kd.V_drew)); exact HO_15.out⟩, ⟨by repeat (first | (with_reducible first | exact HB.out | apply below_alloc | apply pw_below_drewN | apply below_drew1) | exact HB.out)⟩⟩
                                            · replace c63 := Bool.eq_false_iff.mpr c63
                                              subst c63
                                              have H1 : (some false) = some r := by rw [if_neg (show ¬ (false = true) by decide)] at H; exact H
                                              clear H
                                              have H := H1
                                              clear H1
                                              obtain rfl := Option.some.inj H
                                              go_wp2_with (first | ((with_reducible refine gate_callee (f := 20) rfl ?_); refine goesL_ (some 184) rfl rfl Try.func20 (by kernel_rfl) rfl #[.string t325, .string t326] rfl (by (try simp only [List.map_toArray, List.map_cons, List.map_nil]); first | done | rfl | (simp only [List.length_drop, List.length_take]; rfl)) ?_; (with_reducible refine (impl_IsIrreduciblePair.calls kj56 t325 t326 false t356 _ A61.out).mono ?_); rintro e w65 ⟨rfl, hb⟩; refine ⟨_, rfl, ?_⟩; have n0_ := Aside0.mk (Kd.R_below (by (with_reducible repeat (first | apply Kd.R_alloc | apply Kd.R_drewN | apply Kd.R_drew)); exact HO_11.out) hb); have n1_ := Aside0.mk (Kd.V_below (by (with_reducible repeat (first | apply Kd.V_alloc | apply Kd.V_drewN | apply Kd.V_drew)); exact HO_15.out) hb); have n2_ := Aside0.mk (below_step (by repeat (first | (with_reducible first | exact HB.out | apply below_alloc | apply pw_below_drewN | apply below_drew1) | exact HB.out)) hb); clear HO_11; clear HO_15; clear HB; have HO_11 := n0_; have HO_15 := n1_; have HB := n2_; clear n0_ n1_ n2_; (try clear hb); (try clear hb2); (try clear hk); (try clear hi)))
                                              go_ret
                                              exact ⟨by first | rfl | (simp [errW_none, errW_some] <;> rfl) | (simp [*, errW_none, errW_some] <;> rfl), by repeat (first | (with_reducible first | exact HB.out | apply below_alloc | apply pw_below_drewN | apply below_drew1) | exact HB.out)⟩
                                          · rw [if_neg c62] at H
                                            have c62b0 : (t356 == 0) = false := beq_eq_false_iff_ne.mpr c62
                                            have c62b1 : (t356 != 0) = true := bne_iff_ne.mpr c62
                                            (first | rw [c62b0] | (simp only [i64_w, i32_w]; rw [c62b0]) | skip)
                                            obtain rfl := Option.some.inj H
                                            go_wp2_with (first | ((with_reducible refine gate_callee (f := 20) rfl ?_); refine goesL_ (some 184) rfl rfl Try.func20 (by kernel_rfl) rfl #[.string t325, .string t326] rfl (by (try simp only [List.map_toArray, List.map_cons, List.map_nil]); first | done | rfl | (simp only [List.length_drop, List.length_take]; rfl)) ?_; (with_reducible refine (impl_IsIrreduciblePair.calls kj56 t325 t326 t355 t356 _ A61.out).mono ?_); rintro e w66 ⟨rfl, hb⟩; refine ⟨_, rfl, ?_⟩; have n0_ := Aside0.mk (Kd.R_below (by (with_reducible repeat (first | apply Kd.R_alloc | apply Kd.R_drewN | apply Kd.R_drew)); exact HO_11.out) hb); have n1_ := Aside0.mk (Kd.V_below (by (with_reducible repeat (first | apply Kd.V_alloc | apply Kd.V_drewN | apply Kd.V_drew)); exact HO_15.out) hb); have n2_ := Aside0.mk (below_step (by repeat (first | (with_reducible first | exact HB.out | apply below_alloc | apply pw_below_drewN | apply below_drew1) | exact HB.out)) hb); clear HO_11; clear HO_15; clear HB; have HO_11 := n0_; have HO_15 := n1_; have HB := n2_; clear n0_ n1_ n2_; (try clear hb); (try clear hb2); (try clear hk); (try clear hi)))
                                            go_ret
                                            exact ⟨by first | rfl | (simp [errW_none, errW_some] <;> rfl) | (simp [*, errW_none, errW_some] <;> rfl), by repeat (first | (with_reducible first | exact HB.out | apply below_alloc | apply pw_below_drewN | apply below_drew1) | exact HB.out)⟩
                                        · replace c60 := Bool.eq_false_iff.mpr c60
                                          subst c60
                                          have H1 : (laws_FnMeanders.j6 kj56 t317 t318 t319 t320 t325 t326 t327 t328 t336 t339 t340 t341 t345 t346) = some r := by rw [if_neg (show ¬ (false = true) by decide)] at H; exact H
                                          clear H
                                          have H := H1
                                          clear H1
                                          have H' := Aside0.mk H
                                          clear H
                                          go_wp2
                                          go_meet
                                          case rel => exact ⟨_, H', ⟨by have := HJ6.out; have := HJ20.out; have := HJ32.out; have := HJ42.out; have := HJ50.out; have := HJ56.out; first | omega | exact Nat.le_refl _⟩, ⟨by (with_reducible repeat (first | apply Kd.R_alloc | apply Kd.R_drewN | apply Kd.R_drew)); exact HO_11.out⟩, ⟨by (with_reducible repeat (first | apply Kd.V_alloc | apply Kd.V_drewN | apply Kd.V_drew)); exact HO_15.out⟩, ⟨by repeat (first | (with_reducible first | exact HB.out | apply below_alloc | apply pw_below_drewN | apply below_drew1) | exact HB.out)⟩⟩
                                      case rest => as_aux_lemma =>
                                        clear HC59
                                        try clear c1
                                        try clear c2
                                        try clear p2
                                        try clear c3
                                        try clear c4
                                        try clear c5
                                        try clear c6
                                        try clear c7
                                        try clear c10
                                        try clear c11
                                        try clear c11b0
                                        try clear c11b1
                                        try clear c12
                                        try clear c12b0
                                        try clear c12b1
                                        try clear c14
                                        try clear c15
                                        try clear c16
                                        try clear c17
                                        try clear c18
                                        try clear c19
                                        try clear c20
                                        try clear c21
                                        try clear c25
                                        try clear c25b0
                                        try clear c25b1
                                        try clear c29
                                        try clear c38
                                        try clear c38b0
                                        try clear c38b1
                                        try clear c39
                                        try clear c39b0
                                        try clear c39b1
                                        try clear c40
                                        try clear c46
                                        try clear c46b0
                                        try clear c46b1
                                        try clear c47
                                        try clear c55
                                        try clear c55b0
                                        try clear c55b1
                                        try clear c56
                                        try clear c58
                                        try clear c58b0
                                        try clear c58b1
                                        try clear c60
                                        try clear c62
                                        try clear c62b0
                                        try clear c62b1
                                        try clear c63
                                        try clear p2
                                        obtain ⟨kq, HA, HJ58, HO_11, HO_15, HB⟩ := hcut
                                        cases kq with
                                        | zero => exact absurd HA.out (by simp [laws_FnMeanders.j6])
                                        | succ kj58 =>
                                          have H := HA.out
                                          clear HA
                                          simp only [laws_FnMeanders.j6] at H
                                          have HC67 := Aside0.mk H
                                          clear H
                                          go_upto_if 194 with (fail)
                                          go_cut [] (fun wc => ∃ (kq : Nat), Aside0 (laws_FnMeanders.j7 kq t317 t318 t319 t320 t336 t339 t340 t341 t345 t346 = some r) ∧ Aside0 (kq ≤ kj58) ∧ Aside0 (Kd.V (Kd.int .i64) 2 wc w.heap.size (fun _ => True) (.slice Ao35 t336.length co35) t336) ∧ Aside0 (Below w.heap.size w wc))
                                          case first => as_aux_lemma =>
                                            have H := HC67.out
                                            clear HC67
                                            by_cases c68 : t328 = 0
                                            · rw [if_pos c68] at H
                                              have c68b0 : (t328 == 0) = true := beq_iff_eq.mpr c68
                                              have c68b1 : (t328 != 0) = false := bne_eq_false_iff_eq.mpr c68
                                              clear c68
                                              (first | rw [c68b0] | (simp only [i64_w, i32_w]; rw [c68b0]) | skip)
                                              replace H := Option.bind_eq_some_iff.mp H
                                              obtain ⟨⟨t357, t358, t359⟩, A690, H⟩ := H
                                              replace H : (if t359 = 0 then (if t357.toList = t325.toList then (if t358.toList = t326.toList then (laws_FnMeanders.j7 kj58 t317 t318 t319 t320 t336 t339 t340 t341 t345 t346) else (some false)) else (some false)) else (some false)) = some r := H
                                              have A69 := Aside0.mk A690
                                              clear A690
                                              by_cases c70 : t359 = 0
                                              · rw [if_pos c70] at H
                                                have c70b0 : (t359 == 0) = true := beq_iff_eq.mpr c70
                                                have c70b1 : (t359 != 0) = false := bne_eq_false_iff_eq.mpr c70
                                                clear c70
                                                by_cases c71 : t357.toList = t325.toList
                                                · rw [if_pos c71] at H
                                                  have c71b0 : (t357.toList == t325.toList) = true := beq_iff_eq.mpr c71
                                                  have c71b1 : (t357.toList != t325.toList) = false := bne_eq_false_iff_eq.mpr c71
                                                  clear c71
                                                  by_cases c72 : t358.toList = t326.toList
                                                  · rw [if_pos c72] at H
                                                    have c72b0 : (t358.toList == t326.toList) = true := beq_iff_eq.mpr c72
                                                    have c72b1 : (t358.toList != t326.toList) = false := bne_eq_false_iff_eq.mpr c72
                                                    clear c72
                                                    have H' := Aside0.mk H
                                                    clear H
                                                    obtain ⟨Ao73, co73, eo73⟩ := Kd.R_slice HO_11.out
                                                    subst eo73
                                                    go_wp2_with (first | ((with_reducible refine gate_callee (f := 15) rfl ?_); refine goesL_ (some 197) rfl rfl Try.func15 (by kernel_rfl) rfl #[.slice Ao73 t327.length co73] rfl (by (try simp only [List.map_toArray, List.map_cons, List.map_nil]); first | done | rfl | (simp only [List.length_drop, List.length_take]; rfl)) ?_; (with_reducible refine (impl_MeanderOfOrder.calls kj58 _ _ t327 t357 t358 t359 _ ?side1 ?side2 A69.out).mono ?_); (case side1 => repeat (first | exact (Kd.R_reads' HO_11.out).2.2 | (with_reducible refine Kd.C_alloc ?_ _) | (with_reducible refine Kd.C_drewN ?_ _) | (with_reducible refine Kd.C_drew ?_))); (case side2 => exact (Kd.R_reads' HO_11.out).2.1); rintro e w74 ⟨rfl, hb⟩; refine ⟨_, rfl, ?_⟩; have n0_ := Aside0.mk (Kd.R_below (by (with_reducible repeat (first | apply Kd.R_alloc | apply Kd.R_drewN | apply Kd.R_drew)); exact HO_11.out) hb); have n1_ := Aside0.mk (Kd.V_below (by (with_reducible repeat (first | apply Kd.V_alloc | apply Kd.V_drewN | apply Kd.V_drew)); exact HO_15.out) hb); have n2_ := Aside0.mk (below_step (by repeat (first | (with_reducible first | exact HB.out | apply below_alloc | apply pw_below_drewN | apply below_drew1) | exact HB.out)) hb); clear HO_11; clear HO_15; clear HB; have HO_11 := n0_; have HO_15 := n1_; have HB := n2_; clear n0_ n1_ n2_; (try clear hb); (try clear hb2); (try clear hk); (try clear hi)))
                                                    go_meet
                                                    case rel => exact ⟨_, H', ⟨by have := HJ6.out; have := HJ20.out; have := HJ32.out; have := HJ42.out; have := HJ50.out; have := HJ56.out; have := HJ58.out; first | omega | exact Nat.le_refl _⟩, ⟨by (with_reducible repeat (first | apply Kd.V_alloc | apply Kd.V_drewN | apply Kd.V_drew)); exact Kd.V_mono HO_15.out (fun _ hk => trivial)⟩, ⟨by repeat (first | (with_reducible first | exact HB.out | apply below_alloc | apply pw_below_drewN | apply below_drew1) | exact HB.out)⟩⟩
                                                  · rw [if_neg c72] at H
                                                    have c72b0 : (t358.toList == t326.toList) = false := beq_eq_false_iff_ne.mpr c72
                                                    have c72b1 : (t358.toList != t326.toList) = true := bne_iff_ne.mpr c72
                                                    obtain rfl := Option.some.inj H
                                                    obtain ⟨Ao75, co75, eo75⟩ := Kd.R_slice HO_11.out
                                                    subst eo75
                                                    go_wp2_with (first | ((with_reducible refine gate_callee (f := 15) rfl ?_); refine goesL_ (some 197) rfl rfl Try.func15 (by kernel_rfl) rfl #[.slice Ao75 t327.length co75] rfl (by (try simp only [List.map_toArray, List.map_cons, List.map_nil]); first | done | rfl | (simp only [List.length_drop, List.length_take]; rfl)) ?_; (with_reducible refine (impl_MeanderOfOrder.calls kj58 _ _ t327 t357 t358 t359 _ ?side1 ?side2 A69.out).mono ?_); (case side1 => repeat (first | exact (Kd.R_reads' HO_11.out).2.2 | (with_reducible refine Kd.C_alloc ?_ _) | (with_reducible refine Kd.C_drewN ?_ _) | (with_reducible refine Kd.C_drew ?_))); (case side2 => exact (Kd.R_reads' HO_11.out).2.1); rintro e w76 ⟨rfl, hb⟩; refine ⟨_, rfl, ?_⟩; have n0_ := Aside0.mk (Kd.R_below (by (with_reducible repeat (first | apply Kd.R_alloc | apply Kd.R_drewN | apply Kd.R_drew)); exact HO_11.out) hb); have n1_ := Aside0.mk (Kd.V_below (by (with_reducible repeat (first | apply Kd.V_alloc | apply Kd.V_drewN | apply Kd.V_drew)); exact HO_15.out) hb); have n2_ := Aside0.mk (below_step (by repeat (first | (with_reducible first | exact HB.out | apply below_alloc | apply pw_below_drewN | apply below_drew1) | exact HB.out)) hb); clear HO_11; clear HO_15; clear HB; have HO_11 := n0_; have HO_15 := n1_; have HB := n2_; clear n0_ n1_ n2_; (try clear hb); (try clear hb2); (try clear hk); (try clear hi)))
                                                    go_ret
                                                    exact ⟨by first | rfl | (simp [errW_none, errW_some] <;> rfl) | (simp [*, errW_none, errW_some] <;> rfl), by repeat (first | (with_reducible first | exact HB.out | apply below_alloc | apply pw_below_drewN | apply below_drew1) | exact HB.out)⟩
                                                · rw [if_neg c71] at H
                                                  have c71b0 : (t357.toList == t325.toList) = false := beq_eq_false_iff_ne.mpr c71
                                                  have c71b1 : (t357.toList != t325.toList) = true := bne_iff_ne.mpr c71
                                                  obtain rfl := Option.some.inj H
                                                  obtain ⟨Ao77, co77, eo77⟩ := Kd.R_slice HO_11.out
                                                  subst eo77
                                                  go_wp2_with (first | ((with_reducible refine gate_callee (f := 15) rfl ?_); refine goesL_ (some 197) rfl rfl Try.func15 (by kernel_rfl) rfl #[.slice Ao77 t327.length co77] rfl (by (try simp only [List.map_toArray, List.map_cons, List.map_nil]); first | done | rfl | (simp only [List.length_drop, List.length_take]; rfl)) ?_; (with_reducible refine (impl_MeanderOfOrder.calls kj58 _ _ t327 t357 t358 t359 _ ?side1 ?side2 A69.out).mono ?_); (case side1 => repeat (first | exact (Kd.R_reads' HO_11.out).2.2 | (with_reducible refine Kd.C_alloc ?_ _) | (with_reducible refine Kd.C_drewN ?_ _) | (with_reducible refine Kd.C_drew ?_))); (case side2 => exact (Kd.R_reads' HO_11.out).2.1); rintro e w78 ⟨rfl, hb⟩; refine ⟨_, rfl, ?_⟩; have n0_ := Aside0.mk (Kd.R_below (by (with_reducible repeat (first | apply Kd.R_alloc | apply Kd.R_drewN | apply Kd.R_drew)); exact HO_11.out) hb); have n1_ := Aside0.mk (Kd.V_below (by (with_reducible repeat (first | apply Kd.V_alloc | apply Kd.V_drewN | apply Kd.V_drew)); exact HO_15.out) hb); have n2_ := Aside0.mk (below_step (by repeat (first | (with_reducible first | exact HB.out | apply below_alloc | apply pw_below_drewN | apply below_drew1) | exact HB.out)) hb); clear HO_11; clear HO_15; clear HB; have HO_11 := n0_; have HO_15 := n1_; have HB := n2_; clear n0_ n1_ n2_; (try clear hb); (try clear hb2); (try clear hk); (try clear hi)))
                                                  go_ret
                                                  exact ⟨by first | rfl | (simp [errW_none, errW_some] <;> rfl) | (simp [*, errW_none, errW_some] <;> rfl), by repeat (first | (with_reducible first | exact HB.out | apply below_alloc | apply pw_below_drewN | apply below_drew1) | exact HB.out)⟩
                                              · rw [if_neg c70] at H
                                                have c70b0 : (t359 == 0) = false := beq_eq_false_iff_ne.mpr c70
                                                have c70b1 : (t359 != 0) = true := bne_iff_ne.mpr c70
                                                obtain rfl := Option.some.inj H
                                                obtain ⟨Ao79, co79, eo79⟩ := Kd.R_slice HO_11.out
                                                subst eo79
                                                go_wp2_with (first | ((with_reducible refine gate_callee (f := 15) rfl ?_); refine goesL_ (some 197) rfl rfl Try.func15 (by kernel_rfl) rfl #[.slice Ao79 t327.length co79] rfl (by (try simp only [List.map_toArray, List.map_cons, List.map_nil]); first | done | rfl | (simp only [List.length_drop, List.length_take]; rfl)) ?_; (with_reducible refine (impl_MeanderOfOrder.calls kj58 _ _ t327 t357 t358 t359 _ ?side1 ?side2 A69.out).mono ?_); (case side1 => repeat (first | exact (Kd.R_reads' HO_11.out).2.2 | (with_reducible refine Kd.C_alloc ?_ _) | (with_reducible refine Kd.C_drewN ?_ _) | (with_reducible refine Kd.C_drew ?_))); (case side2 => exact (Kd.R_reads' HO_11.out).2.1); rintro e w80 ⟨rfl, hb⟩; refine ⟨_, rfl, ?_⟩; have n0_ := Aside0.mk (Kd.R_below (by (with_reducible repeat (first | apply Kd.R_alloc | apply Kd.R_drewN | apply Kd.R_drew)); exact HO_11.out) hb); have n1_ := Aside0.mk (Kd.V_below (by (with_reducible repeat (first | apply Kd.V_alloc | apply Kd.V_drewN | apply Kd.V_drew)); exact HO_15.out) hb); have n2_ := Aside0.mk (below_step (by repeat (first | (with_reducible first | exact HB.out | apply below_alloc | apply pw_below_drewN | apply below_drew1) | exact HB.out)) hb); clear HO_11; clear HO_15; clear HB; have HO_11 := n0_; have HO_15 := n1_; have HB := n2_; clear n0_ n1_ n2_; (try clear hb); (try clear hb2); (try clear hk); (try clear hi)))
                                                go_ret
                                                exact ⟨by first | rfl | (simp [errW_none, errW_some] <;> rfl) | (simp [*, errW_none, errW_some] <;> rfl), by repeat (first | (with_reducible first | exact HB.out | apply below_alloc | apply pw_below_drewN | apply below_drew1) | exact HB.out)⟩
                                            · rw [if_neg c68] at H
                                              have c68b0 : (t328 == 0) = false := beq_eq_false_iff_ne.mpr c68
                                              have c68b1 : (t328 != 0) = true := bne_iff_ne.mpr c68
                                              (first | rw [c68b0] | (simp only [i64_w, i32_w]; rw [c68b0]) | skip)
                                              have H' := Aside0.mk H
                                              clear H
                                              go_wp2
                                              go_meet
                                              case rel => exact ⟨_, H', ⟨by have := HJ6.out; have := HJ20.out; have := HJ32.out; have := HJ42.out; have := HJ50.out; have := HJ56.out; have := HJ58.out; first | omega | exact Nat.le_refl _⟩, ⟨by (with_reducible repeat (first | apply Kd.V_alloc | apply Kd.V_drewN | apply Kd.V_drew)); exact Kd.V_mono HO_15.out (fun _ hk => trivial)⟩, ⟨by repeat (first | (with_reducible first | exact HB.out | apply below_alloc | apply pw_below_drewN | apply below_drew1) | exact HB.out)⟩⟩
                                          case rest => as_aux_lemma =>
                                            clear HC67
                                            try clear c1
                                            try clear c2
                                            try clear p2
                                            try clear c3
                                            try clear c4
                                            try clear c5
                                            try clear c6
                                            try clear c7
                                            try clear c10
                                            try clear c11
                                            try clear c11b0
                                            try clear c11b1
                                            try clear c12
                                            try clear c12b0
                                            try clear c12b1
                                            try clear c14
                                            try clear c15
                                            try clear c16
                                            try clear c17
                                            try clear c18
                                            try clear c19
                                            try clear c20
                                            try clear c21
                                            try clear c25
                                            try clear c25b0
                                            try clear c25b1
                                            try clear c29
                                            try clear c38
                                            try clear c38b0
                                            try clear c38b1
                                            try clear c39
                                            try clear c39b0
                                            try clear c39b1
                                            try clear c40
                                            try clear c46
                                            try clear c46b0
                                            try clear c46b1
                                            try clear c47
                                            try clear c55
                                            try clear c55b0
                                            try clear c55b1
                                            try clear c56
                                            try clear c58
                                            try clear c58b0
                                            try clear c58b1
                                            try clear c60
                                            try clear c62
                                            try clear c62b0
                                            try clear c62b1
                                            try clear c63
                                            try clear c68
                                            try clear c68b0
                                            try clear c68b1
                                            try clear c70
                                            try clear c70b0
                                            try clear c70b1
                                            try clear c71
                                            try clear c71b0
                                            try clear c71b1
                                            try clear c72
                                            try clear c72b0
                                            try clear c72b1
                                            try clear p2
                                            obtain ⟨kq, HA, HJ66, HO_15, HB⟩ := hcut
                                            cases kq with
                                            | zero => exact absurd HA.out (by simp [laws_FnMeanders.j7])
                                            | succ kj66 =>
                                              have H := HA.out
                                              clear HA
                                              simp only [laws_FnMeanders.j7] at H
                                              have HC81 := Aside0.mk H
                                              clear H
                                              go_upto_if 214 with (fail)
                                              go_cut [] (fun wc => ∃ (kq : Nat), Aside0 (laws_FnMeanders.j8 kq t317 t318 t319 t320 t345 t346 = some r) ∧ Aside0 (kq ≤ kj66) ∧ Aside0 (Below w.heap.size w wc))
                                              case first => as_aux_lemma =>
                                                have H := HC81.out
                                                clear HC81
                                                by_cases c82 : t341 = 0
                                                · rw [if_pos c82] at H
                                                  have c82b0 : (t341 == 0) = true := beq_iff_eq.mpr c82
                                                  have c82b1 : (t341 != 0) = false := bne_eq_false_iff_eq.mpr c82
                                                  clear c82
                                                  (first | rw [c82b0] | (simp only [i64_w, i32_w]; rw [c82b0]) | skip)
                                                  replace H := Option.bind_eq_some_iff.mp H
                                                  obtain ⟨⟨t360, t361⟩, A830, H⟩ := H
                                                  replace H : (if t361 = 0 then ((laws_likeInts.f kj66 t360 t336).bind fun t364 => (if t364 = true then (laws_FnMeanders.j8 kj66 t317 t318 t319 t320 t345 t346) else (some false))) else (some false)) = some r := H
                                                  have A83 := Aside0.mk A830
                                                  clear A830
                                                  by_cases c84 : t361 = 0
                                                  · rw [if_pos c84] at H
                                                    have c84b0 : (t361 == 0) = true := beq_iff_eq.mpr c84
                                                    have c84b1 : (t361 != 0) = false := bne_eq_false_iff_eq.mpr c84
                                                    clear c84
                                                    replace H := Option.bind_eq_some_iff.mp H
                                                    obtain ⟨t364, A850, H⟩ := H
                                                    replace H : (if t364 = true then (laws_FnMeanders.j8 kj66 t317 t318 t319 t320 t345 t346) else (some false)) = some r := H
                                                    have A85 := Aside0.mk A850
                                                    clear A850
                                                    by_cases c86 : t364 = true
                                                    · subst c86
                                                      have H1 : (laws_FnMeanders.j8 kj66 t317 t318 t319 t320 t345 t346) = some r := by rw [if_pos rfl] at H; exact H
                                                      clear H
                                                      have H := H1
                                                      clear H1
                                                      have H' := Aside0.mk H
                                                      clear H
                                                      go_wp2_with (first | ((with_reducible refine gate_callee (f := 11) rfl ?_); refine goesL_ (some 218) rfl rfl Try.func11 (by kernel_rfl) rfl #[.string t339, .string t340] rfl (by (try simp only [List.map_toArray, List.map_cons, List.map_nil]); first | done | rfl | (simp only [List.length_drop, List.length_take]; rfl)) ?_; (with_reducible refine (impl_OrderOfMeander.calls kj66 t339 t340 t360 t361 _ A83.out).mono ?_); rintro e w87 ⟨v362, rfl, ho0, hb⟩; refine ⟨_, rfl, ?_⟩; have n0_ := Aside0.mk (Kd.V_elder' (by (with_reducible repeat (first | apply Kd.V_alloc | apply Kd.V_drewN | apply Kd.V_drew)); exact HO_15.out) (Kd.R_base ho0) hb); have n1_ := Aside0.mk (Kd.R_lower ho0 (below_size (by repeat (first | (with_reducible first | exact HB.out | apply below_alloc | apply pw_below_drewN | apply below_drew1) | exact HB.out)))); have n2_ := Aside0.mk (below_step (by repeat (first | (with_reducible first | exact HB.out | apply below_alloc | apply pw_below_drewN | apply below_drew1) | exact HB.out)) hb); clear HO_15; clear HB; have HO_15 := n0_; have HO363 := n1_; have HB := n2_; clear n0_ n1_ n2_; (try clear hb); (try clear hb2); (try clear hk); (try clear hi); (try clear ho0); obtain ⟨Ao88, co88, eo88⟩ := Kd.R_slice HO363.out; subst eo88) | (go_at_call 13; (with_reducible refine (laws_likeInts.calls kj66 _ _ t360 _ _ t336 true _ ?side1 ?side2 ?side3 ?side4 A85.out).mono ?_); (case side1 => repeat (first | exact (Kd.R_reads' HO363.out).2.2 | (with_reducible refine Kd.C_alloc ?_ _) | (with_reducible refine Kd.C_drewN ?_ _) | (with_reducible refine Kd.C_drew ?_))); (case side2 => exact (Kd.R_reads' HO363.out).2.1); (case side3 => repeat (first | exact (Kd.V_reads' HO_15.out).2.2 | (with_reducible refine Kd.C_alloc ?_ _) | (with_reducible refine Kd.C_drewN ?_ _) | (with_reducible refine Kd.C_drew ?_))); (case side4 => exact (Kd.V_reads' HO_15.out).2.1); rintro e w' ⟨rfl, ⟨nd, rfl⟩⟩))
                                                      go_meet
                                                      case rel => exact ⟨_, H', ⟨by have := HJ6.out; have := HJ20.out; have := HJ32.out; have := HJ42.out; have := HJ50.out; have := HJ56.out; have := HJ58.out; have := HJ66.out; first | omega | exact Nat.le_refl _⟩, ⟨by repeat (first | (with_reducible first | exact HB.out | apply below_alloc | apply pw_below_drewN | apply below_drew1) | exact HB.out)⟩⟩
                                                    · replace c86 := Bool.eq_false_iff.mpr c86
                                                      subst c86
                                                      have H1 : (some false) = some r := by rw [if_neg (show ¬ (false = true) by decide)] at H; exact H
                                                      clear H
                                                      have H := H1
                                                      clear H1
                                                      obtain rfl := Option.some.inj H
                                                      go_wp2_with (first | ((with_reducible refine gate_callee (f := 11) rfl ?_); refine goesL_ (some 218) rfl rfl Try.func11 (by kernel_rfl) rfl #[.string t339, .string t340] rfl (by (try simp only [List.map_toArray, List.map_cons, List.map_nil]); first | done | rfl | (simp only [List.length_drop, List.length_take]; rfl)) ?_; (with_reducible refine (impl_OrderOfMeander.calls kj66 t339 t340 t360 t361 _ A83.out).mono ?_); rintro e w89 ⟨v362, rfl, ho0, hb⟩; refine ⟨_, rfl, ?_⟩; have n0_ := Aside0.mk (Kd.V_elder' (by (with_reducible repeat (first | apply Kd.V_alloc | apply Kd.V_drewN | apply Kd.V_drew)); exact HO_15.out) (Kd.R_base ho0) hb); have n1_ := Aside0.mk (Kd.R_lower ho0 (below_size (by repeat (first | (with_reducible first | exact HB.out | apply below_alloc | apply pw_below_drewN | apply below_drew1) | exact HB.out)))); have n2_ := Aside0.mk (below_step (by repeat (first | (with_reducible first | exact HB.out | apply below_alloc | apply pw_below_drewN | apply below_drew1) | exact HB.out)) hb); clear HO_15; clear HB; have HO_15 := n0_; have HO363 := n1_; have HB := n2_; clear n0_ n1_ n2_; (try clear hb); (try clear hb2); (try clear hk); (try clear hi); (try clear ho0); obtain ⟨Ao90, co90, eo90⟩ := Kd.R_slice HO363.out; subst eo90) | (go_at_call 13; (with_reducible refine (laws_likeInts.calls kj66 _ _ t360 _ _ t336 false _ ?side1 ?side2 ?side3 ?side4 A85.out).mono ?_); (case side1 => repeat (first | exact (Kd.R_reads' HO363.out).2.2 | (with_reducible refine Kd.C_alloc ?_ _) | (with_reducible refine Kd.C_drewN ?_ _) | (with_reducible refine Kd.C_drew ?_))); (case side2 => exact (Kd.R_reads' HO363.out).2.1); (case side3 => repeat (first | exact (Kd.V_reads' HO_15.out).2.2 | (with_reducible refine Kd.C_alloc ?_ _) | (with_reducible refine Kd.C_drewN ?_ _) | (with_reducible refine Kd.C_drew ?_))); (case side4 => exact (Kd.V_reads' HO_15.out).2.1); rintro e w' ⟨rfl, ⟨nd, rfl⟩⟩))
                                                      go_ret
                                                      exact ⟨by first | rfl | (simp [errW_none, errW_some] <;> rfl) | (simp [*, errW_none, errW_some] <;> rfl), by repeat (first | (with_reducible first | exact HB.out | apply below_alloc | apply pw_below_drewN | apply below_drew1) | exact HB.out)⟩
                                                  · rw [if_neg c84] at H
                                                    have c84b0 : (t361 == 0) = false := beq_eq_false_iff_ne.mpr c84
                                                    have c84b1 : (t361 != 0) = true := bne_iff_ne.mpr c84
                                                    obtain rfl := Option.some.inj H
                                                    go_wp2_with (first | ((with_reducible refine gate_callee (f := 11) rfl ?_); refine goesL_ (some 218) rfl rfl Try.func11 (by kernel_rfl) rfl #[.string t339, .string t340] rfl (by (try simp only [List.map_toArray, List.map_cons, List.map_nil]); first | done | rfl | (simp only [List.length_drop, List.length_take]; rfl)) ?_; (with_reducible refine (impl_OrderOfMeander.calls kj66 t339 t340 t360 t361 _ A83.out).mono ?_); rintro e w91 ⟨v362, rfl, ho0, hb⟩; refine ⟨_, rfl, ?_⟩; have n0_ := Aside0.mk (Kd.V_elder' (by (with_reducible repeat (first | apply Kd.V_alloc | apply Kd.V_drewN | apply Kd.V_drew)); exact HO_15.out) (Kd.R_base ho0) hb); have n1_ := Aside0.mk (Kd.R_lower ho0 (below_size (by repeat (first | (with_reducible first | exact HB.out | apply below_alloc | apply pw_below_drewN | apply below_drew1) | exact HB.out)))); have n2_ := Aside0.mk (below_step (by repeat (first | (with_reducible first | exact HB.out | apply below_alloc | apply pw_below_drewN | apply below_drew1) | exact HB.out)) hb); clear HO_15; clear HB; have HO_15 := n0_; have HO363 := n1_; have HB := n2_; clear n0_ n1_ n2_; (try clear hb); (try clear hb2); (try clear hk); (try clear hi); (try clear ho0)))
                                                    go_ret
                                                    exact ⟨by first | rfl | (simp [errW_none, errW_some] <;> rfl) | (simp [*, errW_none, errW_some] <;> rfl), by repeat (first | (with_reducible first | exact HB.out | apply below_alloc | apply pw_below_drewN | apply below_drew1) | exact HB.out)⟩
                                                · rw [if_neg c82] at H
                                                  have c82b0 : (t341 == 0) = false := beq_eq_false_iff_ne.mpr c82
                                                  have c82b1 : (t341 != 0) = true := bne_iff_ne.mpr c82
                                                  (first | rw [c82b0] | (simp only [i64_w, i32_w]; rw [c82b0]) | skip)
                                                  have H' := Aside0.mk H
                                                  clear H
                                                  go_wp2
                                                  go_meet
                                                  case rel => exact ⟨_, H', ⟨by have := HJ6.out; have := HJ20.out; have := HJ32.out; have := HJ42.out; have := HJ50.out; have := HJ56.out; have := HJ58.out; have := HJ66.out; first | omega | exact Nat.le_refl _⟩, ⟨by repeat (first | (with_reducible first | exact HB.out | apply below_alloc | apply pw_below_drewN | apply below_drew1) | exact HB.out)⟩⟩
                                              case rest => as_aux_lemma =>
                                                clear HC81
                                                try clear c1
                                                try clear c2
                                                try clear p2
                                                try clear c3
                                                try clear c4
                                                try clear c5
                                                try clear c6
                                                try clear c7
                                                try clear c8
                                                try clear c10
                                                try clear c11
                                                try clear c11b0
                                                try clear c11b1
                                                try clear c12
                                                try clear c12b0
                                                try clear c12b1
                                                try clear c14
                                                try clear c15
                                                try clear c16
                                                try clear c17
                                                try clear c18
                                                try clear c19
                                                try clear c20
                                                try clear c21
                                                try clear c25
                                                try clear c25b0
                                                try clear c25b1
                                                try clear c29
                                                try clear c38
                                                try clear c38b0
                                                try clear c38b1
                                                try clear c39
                                                try clear c39b0
                                                try clear c39b1
                                                try clear c40
                                                try clear c46
                                                try clear c46b0
                                                try clear c46b1
                                                try clear c47
                                                try clear c55
                                                try clear c55b0
                                                try clear c55b1
                                                try clear c56
                                                try clear c58
                                                try clear c58b0
                                                try clear c58b1
                                                try clear c60
                                                try clear c62
                                                try clear c62b0
                                                try clear c62b1
                                                try clear c63
                                                try clear c68
                                                try clear c68b0
                                                try clear c68b1
                                                try clear c70
                                                try clear c70b0
                                                try clear c70b1
                                                try clear c71
                                                try clear c71b0
                                                try clear c71b1
                                                try clear c72
                                                try clear c72b0
                                                try clear c72b1
                                                try clear c82
                                                try clear c82b0
                                                try clear c82b1
                                                try clear c84
                                                try clear c84b0
                                                try clear c84b1
                                                try clear c86
                                                try clear p2
                                                obtain ⟨kq, HA, HJ80, HB⟩ := hcut
                                                cases kq with
                                                | zero => exact absurd HA.out (by simp [laws_FnMeanders.j8])
                                                | succ kj80 =>
                                                  have H := HA.out
                                                  clear HA
                                                  simp only [laws_FnMeanders.j8] at H
                                                  by_cases c92 : t320 = 0
                                                  · rw [if_pos c92] at H
                                                    have c92b0 : (t320 == 0) = true := beq_iff_eq.mpr c92
                                                    have c92b1 : (t320 != 0) = false := bne_eq_false_iff_eq.mpr c92
                                                    clear c92
                                                    replace H := Option.bind_eq_some_iff.mp H
                                                    obtain ⟨⟨t365, t366⟩, A930, H⟩ := H
                                                    replace H : ((impl_TurnSystem.f kj80 t318).bind fun bt367 => ((impl_ComponentsOfPair.f kj80 t345 bt367.1).bind fun bt369 => (if t366 = 0 then (if t365 = (wrap64 ((t317.size : Int) / 2)) then (if t346 = 0 then (if bt367.2 = 0 then (if bt369.2 = 0 then (some (bt369.1 == t319)) else (some false)) else (some false)) else (some false)) else (some false)) else (some false)))) = some r := H
                                                    have A93 := Aside0.mk A930
                                                    clear A930
                                                    replace H := Option.bind_eq_some_iff.mp H
                                                    obtain ⟨⟨t367, t368⟩, A940, H⟩ := H
                                                    replace H : ((impl_ComponentsOfPair.f kj80 t345 t367).bind fun bt369 => (if t366 = 0 then (if t365 = (wrap64 ((t317.size : Int) / 2)) then (if t346 = 0 then (if t368 = 0 then (if bt369.2 = 0 then (some (bt369.1 == t319)) else (some false)) else (some false)) else (some false)) else (some false)) else (some false))) = some r := H
                                                    have A94 := Aside0.mk A940
                                                    clear A940
                                                    replace H := Option.bind_eq_some_iff.mp H
                                                    obtain ⟨⟨t369, t370⟩, A950, H⟩ := H
                                                    replace H : (if t366 = 0 then (if t365 = (wrap64 ((t317.size : Int) / 2)) then (if t346 = 0 then (if t368 = 0 then (if t370 = 0 then (some (t369 == t319)) else (some false)) else (some false)) else (some false)) else (some false)) else (some false)) = some r := H
                                                    have A95 := Aside0.mk A950
                                                    clear A950
                                                    by_cases c96 : t366 = 0
                                                    · rw [if_pos c96] at H
                                                      have c96b0 : (t366 == 0) = true := beq_iff_eq.mpr c96
                                                      have c96b1 : (t366 != 0) = false := bne_eq_false_iff_eq.mpr c96
                                                      clear c96
                                                      by_cases c97 : t365 = (wrap64 ((t317.size : Int) / 2))
                                                      · rw [if_pos c97] at H
                                                        have c97b0 : (t365 == (wrap64 ((t317.size : Int) / 2))) = true := beq_iff_eq.mpr c97
                                                        have c97b1 : (t365 != (wrap64 ((t317.size : Int) / 2))) = false := bne_eq_false_iff_eq.mpr c97
                                                        clear c97
                                                        by_cases c98 : t346 = 0
                                                        · rw [if_pos c98] at H
                                                          have c98b0 : (t346 == 0) = true := beq_iff_eq.mpr c98
                                                          have c98b1 : (t346 != 0) = false := bne_eq_false_iff_eq.mpr c98
                                                          clear c98
                                                          by_cases c99 : t368 = 0
                                                          · rw [if_pos c99] at H
                                                            have c99b0 : (t368 == 0) = true := beq_iff_eq.mpr c99
                                                            have c99b1 : (t368 != 0) = false := bne_eq_false_iff_eq.mpr c99
                                                            clear c99
                                                            by_cases c100 : t370 = 0
                                                            · rw [if_pos c100] at H
                                                              have c100b0 : (t370 == 0) = true := beq_iff_eq.mpr c100
                                                              have c100b1 : (t370 != 0) = false := bne_eq_false_iff_eq.mpr c100
                                                              clear c100
                                                              obtain rfl := Option.some.inj H
                                                              go_wp2_with (first | ((with_reducible refine gate_callee (f := 6) rfl ?_); refine goesL_ (some 236) rfl rfl Try.func6 (by kernel_rfl) rfl #[.string t317, .string t317] rfl (by (try simp only [List.map_toArray, List.map_cons, List.map_nil]); first | done | rfl | (simp only [List.length_drop, List.length_take]; rfl)) ?_; (with_reducible refine (impl_ComponentsOfPair.calls kj80 t317 t317 t365 t366 _ A93.out).mono ?_); rintro e w101 ⟨rfl, hb⟩; refine ⟨_, rfl, ?_⟩; have n0_ := Aside0.mk (below_step (by repeat (first | (with_reducible first | exact HB.out | apply below_alloc | apply pw_below_drewN | apply below_drew1) | exact HB.out)) hb); clear HB; have HB := n0_; clear n0_; (try clear hb); (try clear hb2); (try clear hk); (try clear hi)) | ((with_reducible refine gate_callee (f := 17) rfl ?_); refine goesL_ (some 241) rfl rfl Try.func17 (by kernel_rfl) rfl #[.string t318] rfl (by (try simp only [List.map_toArray, List.map_cons, List.map_nil]); first | done | rfl | (simp only [List.length_drop, List.length_take]; rfl)) ?_; (with_reducible refine (impl_TurnSystem.calls kj80 t318 t367 t368 _ A94.out).mono ?_); rintro e w102 ⟨rfl, hb⟩; refine ⟨_, rfl, ?_⟩; have n0_ := Aside0.mk (below_step (by repeat (first | (with_reducible first | exact HB.out | apply below_alloc | apply pw_below_drewN | apply below_drew1) | exact HB.out)) hb); clear HB; have HB := n0_; clear n0_; (try clear hb); (try clear hb2); (try clear hk); (try clear hi)) | ((with_reducible refine gate_callee (f := 6) rfl ?_); refine goesL_ (some 247) rfl rfl Try.func6 (by kernel_rfl) rfl #[.string t345, .string t367] rfl (by (try simp only [List.map_toArray, List.map_cons, List.map_nil]); first | done | rfl | (simp only [List.length_drop, List.length_take]; rfl)) ?_; (with_reducible refine (impl_ComponentsOfPair.calls kj80 t345 t367 t369 t370 _ A95.out).mono ?_); rintro e w103 ⟨rfl, hb⟩; refine ⟨_, rfl, ?_⟩; have n0_ := Aside0.mk (below_step (by repeat (first | (with_reducible first | exact HB.out | apply below_alloc | apply pw_below_drewN | apply below_drew1) | exact HB.out)) hb); clear HB; have HB := n0_; clear n0_; (try clear hb); (try clear hb2); (try clear hk); (try clear hi)))
                                                              go_ret
                                                              exact ⟨by first | rfl | (simp [errW_none, errW_some] <;> rfl) | (simp [*, errW_none, errW_some] <;> rfl), by repeat (first | (with_reducible first | exact HB.out | apply below_alloc | apply pw_below_drewN | apply below_drew1) | exact HB.out)⟩
                                                            · rw [if_neg c100] at H
                                                              have c100b0 : (t370 == 0) = false := beq_eq_false_iff_ne.mpr c100
                                                              have c100b1 : (t370 != 0) = true := bne_iff_ne.mpr c100
                                                              obtain rfl := Option.some.inj H
                                                              go_wp2_with (first | ((with_reducible refine gate_callee (f := 6) rfl ?_); refine goesL_ (some 236) rfl rfl Try.func6 (by kernel_rfl) rfl #[.string t317, .string t317] rfl (by (try simp only [List.map_toArray, List.map_cons, List.map_nil]); first | done | rfl | (simp only [List.length_drop, List.length_take]; rfl)) ?_; (with_reducible refine (impl_ComponentsOfPair.calls kj80 t317 t317 t365 t366 _ A93.out).mono ?_); rintro e w104 ⟨rfl, hb⟩; refine ⟨_, rfl, ?_⟩; have n0_ := Aside0.mk (below_step (by repeat (first | (with_reducible first | exact HB.out | apply below_alloc | apply pw_below_drewN | apply below_drew1) | exact HB.out)) hb); clear HB; have HB := n0_; clear n0_; (try clear hb); (try clear hb2); (try clear hk); (try clear hi)) | ((with_reducible refine gate_callee (f := 17) rfl ?_); refine goesL_ (some 241) rfl rfl Try.func17 (by kernel_rfl) rfl #[.string t318] rfl (by (try simp only [List.map_toArray, List.map_cons, List.map_nil]); first | done | rfl | (simp only [List.length_drop, List.length_take]; rfl)) ?_; (with_reducible refine (impl_TurnSystem.calls kj80 t318 t367 t368 _ A94.out).mono ?_); rintro e w105 ⟨rfl, hb⟩; refine ⟨_, rfl, ?_⟩; have n0_ := Aside0.mk (below_step (by repeat (first | (with_reducible first | exact HB.out | apply below_alloc | apply pw_below_drewN | apply below_drew1) | exact HB.out)) hb); clear HB; have HB := n0_; clear n0_; (try clear hb); (try clear hb2); (try clear hk); (try clear hi)) | ((with_reducible refine gate_callee (f := 6) rfl ?_); refine goesL_ (some 247) rfl rfl Try.func6 (by kernel_rfl) rfl #[.string t345, .string t367] rfl (by (try simp only [List.map_toArray, List.map_cons, List.map_nil]); first | done | rfl | (simp only [List.length_drop, List.length_take]; rfl)) ?_; (with_reducible refine (impl_ComponentsOfPair.calls kj80 t345 t367 t369 t370 _ A95.out).mono ?_); rintro e w106 ⟨rfl, hb⟩; refine ⟨_, rfl, ?_⟩; have n0_ := Aside0.mk (below_step (by repeat (first | (with_reducible first | exact HB.out | apply below_alloc | apply pw_below_drewN | apply below_drew1) | exact HB.out)) hb); clear HB; have HB := n0_; clear n0_; (try clear hb); (try clear hb2); (try clear hk); (try clear hi)))
                                                              go_ret
                                                              exact ⟨by first | rfl | (simp [errW_none, errW_some] <;> rfl) | (simp [*, errW_none, errW_some] <;> rfl), by repeat (first | (with_reducible first | exact HB.out | apply below_alloc | apply pw_below_drewN | apply below_drew1) | exact HB.out)⟩
                                                          · rw [if_neg c99] at H
                                                            have c99b0 : (t368 == 0) = false := beq_eq_false_iff_ne.mpr c99
                                                            have c99b1 : (t368 != 0) = true := bne_iff_ne.mpr c99
                                                            obtain rfl := Option.some.inj H
                                                            go_wp2_with (first | ((with_reducible refine gate_callee (f := 6) rfl ?_); refine goesL_ (some 236) rfl rfl Try.func6 (by kernel_rfl) rfl #[.string t317, .string t317] rfl (by (try simp only [List.map_toArray, List.map_cons, List.map_nil]); first | done | rfl | (simp only [List.length_drop, List.length_take]; rfl)) ?_; (with_reducible refine (impl_ComponentsOfPair.calls kj80 t317 t317 t365 t366 _ A93.out).mono ?_); rintro e w107 ⟨rfl, hb⟩; refine ⟨_, rfl, ?_⟩; have n0_ := Aside0.mk (below_step (by repeat (first | (with_reducible first | exact HB.out | apply below_alloc | apply pw_below_drewN | apply below_drew1) | exact HB.out)) hb); clear HB; have HB := n0_; clear n0_; (try clear hb); (try clear hb2); (try clear hk); (try clear hi)) | ((with_reducible refine gate_callee (f := 17) rfl ?_); refine goesL_ (some 241) rfl rfl Try.func17 (by kernel_rfl) rfl #[.string t318] rfl (by (try simp only [List.map_toArray, List.map_cons, List.map_nil]); first | done | rfl | (simp only [List.length_drop, List.length_take]; rfl)) ?_; (with_reducible refine (impl_TurnSystem.calls kj80 t318 t367 t368 _ A94.out).mono ?_); rintro e w108 ⟨rfl, hb⟩; refine ⟨_, rfl, ?_⟩; have n0_ := Aside0.mk (below_step (by repeat (first | (with_reducible first | exact HB.out | apply below_alloc | apply pw_below_drewN | apply below_drew1) | exact HB.out)) hb); clear HB; have HB := n0_; clear n0_; (try clear hb); (try clear hb2); (try clear hk); (try clear hi)) | ((with_reducible refine gate_callee (f := 6) rfl ?_); refine goesL_ (some 247) rfl rfl Try.func6 (by kernel_rfl) rfl #[.string t345, .string t367] rfl (by (try simp only [List.map_toArray, List.map_cons, List.map_nil]); first | done | rfl | (simp only [List.length_drop, List.length_take]; rfl)) ?_; (with_reducible refine (impl_ComponentsOfPair.calls kj80 t345 t367 t369 t370 _ A95.out).mono ?_); rintro e w109 ⟨rfl, hb⟩; refine ⟨_, rfl, ?_⟩; have n0_ := Aside0.mk (below_step (by repeat (first | (with_reducible first | exact HB.out | apply below_alloc | apply pw_below_drewN | apply below_drew1) | exact HB.out)) hb); clear HB; have HB := n0_; clear n0_; (try clear hb); (try clear hb2); (try clear hk); (try clear hi)))
                                                            go_ret
                                                            exact ⟨by first | rfl | (simp [errW_none, errW_some] <;> rfl) | (simp [*, errW_none, errW_some] <;> rfl), by repeat (first | (with_reducible first | exact HB.out | apply below_alloc | apply pw_below_drewN | apply below_drew1) | exact HB.out)⟩
                                                        · rw [if_neg c98] at H
                                                          have c98b0 : (t346 == 0) = false := beq_eq_false_iff_ne.mpr c98
                                                          have c98b1 : (t346 != 0) = true := bne_iff_ne.mpr c98
                                                          obtain rfl := Option.some.inj H
                                                          go_wp2_with (first | ((with_reducible refine gate_callee (f := 6) rfl ?_); refine goesL_ (some 236) rfl rfl Try.func6 (by kernel_rfl) rfl #[.string t317, .string t317] rfl (by (try simp only [List.map_toArray, List.map_cons, List.map_nil]); first | done | rfl | (simp only [List.length_drop, List.length_take]; rfl)) ?_; (with_reducible refine (impl_ComponentsOfPair.calls kj80 t317 t317 t365 t366 _ A93.out).mono ?_); rintro e w110 ⟨rfl, hb⟩; refine ⟨_, rfl, ?_⟩; have n0_ := Aside0.mk (below_step (by repeat (first | (with_reducible first | exact HB.out | apply below_alloc | apply pw_below_drewN | apply below_drew1) | exact HB.out)) hb); clear HB; have HB := n0_; clear n0_; (try clear hb); (try clear hb2); (try clear hk); (try clear hi)) | ((with_reducible refine gate_callee (f := 17) rfl ?_); refine goesL_ (some 241) rfl rfl Try.func17 (by kernel_rfl) rfl #[.string t318] rfl (by (try simp only [List.map_toArray, List.map_cons, List.map_nil]); first | done | rfl | (simp only [List.length_drop, List.length_take]; rfl)) ?_; (with_reducible refine (impl_TurnSystem.calls kj80 t318 t367 t368 _ A94.out).mono ?_); rintro e w111 ⟨rfl, hb⟩; refine ⟨_, rfl, ?_⟩; have n0_ := Aside0.mk (below_step (by repeat (first | (with_reducible first | exact HB.out | apply below_alloc | apply pw_below_drewN | apply below_drew1) | exact HB.out)) hb); clear HB; have HB := n0_; clear n0_; (try clear hb); (try clear hb2); (try clear hk); (try clear hi)) | ((with_reducible refine gate_callee (f := 6) rfl ?_); refine goesL_ (some 247) rfl rfl Try.func6 (by kernel_rfl) rfl #[.string t345, .string t367] rfl (by (try simp only [List.map_toArray, List.map_cons, List.map_nil]); first | done | rfl | (simp only [List.length_drop, List.length_take]; rfl)) ?_; (with_reducible refine (impl_ComponentsOfPair.calls kj80 t345 t367 t369 t370 _ A95.out).mono ?_); rintro e w112 ⟨rfl, hb⟩; refine ⟨_, rfl, ?_⟩; have n0_ := Aside0.mk (below_step (by repeat (first | (with_reducible first | exact HB.out | apply below_alloc | apply pw_below_drewN | apply below_drew1) | exact HB.out)) hb); clear HB; have HB := n0_; clear n0_; (try clear hb); (try clear hb2); (try clear hk); (try clear hi)))
                                                          go_ret
                                                          exact ⟨by first | rfl | (simp [errW_none, errW_some] <;> rfl) | (simp [*, errW_none, errW_some] <;> rfl), by repeat (first | (with_reducible first | exact HB.out | apply below_alloc | apply pw_below_drewN | apply below_drew1) | exact HB.out)⟩
                                                      · rw [if_neg c97] at H
                                                        have c97b0 : (t365 == (wrap64 ((t317.size : Int) / 2))) = false := beq_eq_false_iff_ne.mpr c97
                                                        have c97b1 : (t365 != (wrap64 ((t317.size : Int) / 2))) = true := bne_iff_ne.mpr c97
                                                        obtain rfl := Option.some.inj H
                                                        go_wp2_with (first | ((with_reducible refine gate_callee (f := 6) rfl ?_); refine goesL_ (some 236) rfl rfl Try.func6 (by kernel_rfl) rfl #[.string t317, .string t317] rfl (by (try simp only [List.map_toArray, List.map_cons, List.map_nil]); first | done | rfl | (simp only [List.length_drop, List.length_take]; rfl)) ?_; (with_reducible refine (impl_ComponentsOfPair.calls kj80 t317 t317 t365 t366 _ A93.out).mono ?_); rintro e w113 ⟨rfl, hb⟩; refine ⟨_, rfl, ?_⟩; have n0_ := Aside0.mk (below_step (by repeat (first | (with_reducible first | exact HB.out | apply below_alloc | apply pw_below_drewN | apply below_drew1) | exact HB.out)) hb); clear HB; have HB := n0_; clear n0_; (try clear hb); (try clear hb2); (try clear hk); (try clear hi)) | ((with_reducible refine gate_callee (f := 17) rfl ?_); refine goesL_ (some 241) rfl rfl Try.func17 (by kernel_rfl) rfl #[.string t318] rfl (by (try simp only [List.map_toArray, List.map_cons, List.map_nil]); first | done | rfl | (simp only [List.length_drop, List.length_take]; rfl)) ?_; (with_reducible refine (impl_TurnSystem.calls kj80 t318 t367 t368 _ A94.out).mono ?_); rintro e w114 ⟨rfl, hb⟩; refine ⟨_, rfl, ?_⟩; have n0_ := Aside0.mk (below_step (by repeat (first | (with_reducible first | exact HB.out | apply below_alloc | apply pw_below_drewN | apply below_drew1) | exact HB.out)) hb); clear HB; have HB := n0_; clear n0_; (try clear hb); (try clear hb2); (try clear hk); (try clear hi)) | ((with_reducible refine gate_callee (f := 6) rfl ?_); refine goesL_ (some 247) rfl rfl Try.func6 (by kernel_rfl) rfl #[.string t345, .string t367] rfl (by (try simp only [List.map_toArray, List.map_cons, List.map_nil]); first | done | rfl | (simp only [List.length_drop, List.length_take]; rfl)) ?_; (with_reducible refine (impl_ComponentsOfPair.calls kj80 t345 t367 t369 t370 _ A95.out).mono ?_); rintro e w115 ⟨rfl, hb⟩; refine ⟨_, rfl, ?_⟩; have n0_ := Aside0.mk (below_step (by repeat (first | (with_reducible first | exact HB.out | apply below_alloc | apply pw_below_drewN | apply below_drew1) | exact HB.out)) hb); clear HB; have HB := n0_; clear n0_; (try clear hb); (try clear hb2); (try clear hk); (try clear hi)))
                                                        go_ret
                                                        exact ⟨by first | rfl | (simp [errW_none, errW_some] <;> rfl) | (simp [*, errW_none, errW_some] <;> rfl), by repeat (first | (with_reducible first | exact HB.out | apply below_alloc | apply pw_below_drewN | apply below_drew1) | exact HB.out)⟩
                                                    · rw [if_neg c96] at H
                                                      have c96b0 : (t366 == 0) = false := beq_eq_false_iff_ne.mpr c96
                                                      have c96b1 : (t366 != 0) = true := bne_iff_ne.mpr c96
                                                      obtain rfl := Option.some.inj H
                                                      go_wp2_with (first | ((with_reducible refine gate_callee (f := 6) rfl ?_); refine goesL_ (some 236) rfl rfl Try.func6 (by kernel_rfl) rfl #[.string t317, .string t317] rfl (by (try simp only [List.map_toArray, List.map_cons, List.map_nil]); first | done | rfl | (simp only [List.length_drop, List.length_take]; rfl)) ?_; (with_reducible refine (impl_ComponentsOfPair.calls kj80 t317 t317 t365 t366 _ A93.out).mono ?_); rintro e w116 ⟨rfl, hb⟩; refine ⟨_, rfl, ?_⟩; have n0_ := Aside0.mk (below_step (by repeat (first | (with_reducible first | exact HB.out | apply below_alloc | apply pw_below_drewN | apply below_drew1) | exact HB.out)) hb); clear HB; have HB := n0_; clear n0_; (try clear hb); (try clear hb2); (try clear hk); (try clear hi)) | ((with_reducible refine gate_callee (f := 17) rfl ?_); refine goesL_ (some 241) rfl rfl Try.func17 (by kernel_rfl) rfl #[.string t318] rfl (by (try simp only [List.map_toArray, List.map_cons, List.map_nil]); first | done | rfl | (simp only [List.length_drop, List.length_take]; rfl)) ?_; (with_reducible refine (impl_TurnSystem.calls kj80 t318 t367 t368 _ A94.out).mono ?_); rintro e w117 ⟨rfl, hb⟩; refine ⟨_, rfl, ?_⟩; have n0_ := Aside0.mk (below_step (by repeat (first | (with_reducible first | exact HB.out | apply below_alloc | apply pw_below_drewN | apply below_drew1) | exact HB.out)) hb); clear HB; have HB := n0_; clear n0_; (try clear hb); (try clear hb2); (try clear hk); (try clear hi)) | ((with_reducible refine gate_callee (f := 6) rfl ?_); refine goesL_ (some 247) rfl rfl Try.func6 (by kernel_rfl) rfl #[.string t345, .string t367] rfl (by (try simp only [List.map_toArray, List.map_cons, List.map_nil]); first | done | rfl | (simp only [List.length_drop, List.length_take]; rfl)) ?_; (with_reducible refine (impl_ComponentsOfPair.calls kj80 t345 t367 t369 t370 _ A95.out).mono ?_); rintro e w118 ⟨rfl, hb⟩; refine ⟨_, rfl, ?_⟩; have n0_ := Aside0.mk (below_step (by repeat (first | (with_reducible first | exact HB.out | apply below_alloc | apply pw_below_drewN | apply below_drew1) | exact HB.out)) hb); clear HB; have HB := n0_; clear n0_; (try clear hb); (try clear hb2); (try clear hk); (try clear hi)))
                                                      go_ret
                                                      exact ⟨by first | rfl | (simp [errW_none, errW_some] <;> rfl) | (simp [*, errW_none, errW_some] <;> rfl), by repeat (first | (with_reducible first | exact HB.out | apply below_alloc | apply pw_below_drewN | apply below_drew1) | exact HB.out)⟩
                                                  · rw [if_neg c92] at H
                                                    have c92b0 : (t320 == 0) = false := beq_eq_false_iff_ne.mpr c92
                                                    have c92b1 : (t320 != 0) = true := bne_iff_ne.mpr c92
                                                    obtain rfl := Option.some.inj H
                                                    go_wp2
                                                    go_ret
                                                    exact ⟨by first | rfl | (simp [errW_none, errW_some] <;> rfl) | (simp [*, errW_none, errW_some] <;> rfl), by repeat (first | (with_reducible first | exact HB.out | apply below_alloc | apply pw_below_drewN | apply below_drew1) | exact HB.out)⟩

/-- THE ONE PURE STATEMENT of laws_FnMeanders: yours. -/
def laws_FnMeanders.Pure : Prop := ∀ (l0 : List Int), l0.length ≤ maxLen → l0.length * 1 ≤ 140737488351232 → (∀ x ∈ l0, (Lit.int .u8 x).wf = true) → ∃ k, laws_FnMeanders.f k l0 = some true
theorem laws_FnMeanders.walk (P : laws_FnMeanders.Pure) (a0 : Option Addr) (len0 cap0 : Nat) (z0 : List Int) (w : World) (w0 : (a0 = none ∧ len0 = 0 ∧ cap0 = 0 ∧ z0 = []) ∨ ∃ x, a0 = some x ∧ len0 ≤ cap0 ∧ cap0 ≤ maxLen ∧ z0.length = cap0 ∧ (∀ i, i < z0.length → w.cell? (x.add i) = some (.int .u8 (z0.getD i 0))) ∧ ∀ n ∈ z0, (Lit.int .u8 n).wf = true) (y0 : len0 * 1 ≤ 140737488351232) :
    Calls Try.prog 3 #[.slice a0 len0 cap0] w fun e w' => e = .returned (.bool true) ∧ Below w.heap.size w w' := by
  obtain ⟨l0, rfl, hr0, hm0, hw0, hc0⟩ := ReadsInt.ofRowC w0
  obtain ⟨k, h⟩ := P l0 hm0 y0 hw0
  refine (laws_FnMeanders.calls k _ _ l0 true w (Kd.C_of_reads (d := (0 : Int)) (h1 := fun _ => rfl) hr0) hc0 h).mono ?_
  rintro e w' ⟨rfl, hd⟩
  exact ⟨rfl, hd⟩

end Go.Proofs.Ytopcnhppbmmbbaa.Q
