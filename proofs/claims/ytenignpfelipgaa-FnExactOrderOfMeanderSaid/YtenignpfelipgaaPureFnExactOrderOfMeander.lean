/- OrderOfMeander of the program returns what the reference returns, for all texts: the pure statement. No condition. -/
import Derived.Test.YtenignpfelipgaaPD
import Derived.Test.YtenignpfelipgaaQx2
namespace Go.Proofs.Ytenignpfelipgaa.Pure
open Go.RowKit Go.Proofs.Ytenignpfelipgaa.Q Go.Proofs.Ytenignpfelipgaa.Hand Go.Proofs.YtenignpfelipgaaW.PrintWords Go.Proofs.YtenignpfelipgaaW.PrintLast Go.Proofs.Ytenignpfelipgaa.PA Go.Proofs.Ytenignpfelipgaa.PC Go.Proofs.Ytenignpfelipgaa.PD


theorem FnExactOrderOfMeander : laws_FnExactOrderOfMeander.Pure := by
  intro a b _ _
  refine ⟨1048590, ?_⟩
  unfold laws_FnExactOrderOfMeander.f
  by_cases ha : a.size ≤ 1048576
  · rw [if_neg (by omega)]
    by_cases hb : b.size ≤ 1048576
    · rw [if_neg (by omega)]
      obtain ⟨ys, e, hy, h1, h2⟩ := orderBoth a b ha hb
      rw [h1 _ (by omega), h2 _ (by omega), Option.bind_some, Option.bind_some]
      simp only []
      rw [eqS ys (by omega) (by omega), Option.bind_some, if_pos rfl, bne_self_eq_false]
      rw [show (1048590 : Nat) = 1048589 + 1 from rfl]
      simp only [laws_FnExactOrderOfMeander.j0]
      rw [if_neg (by simp), markS ys (by omega) (by omega), Option.bind_some, heldS ys.length (by omega) (by omega), Option.bind_some, if_neg (by omega), if_pos rfl, h2 _ (by omega), Option.bind_some]
      simp only []
      rw [eqS ys (by omega) (by omega), Option.bind_some, if_pos rfl, bne_self_eq_false]
      rw [show (1048589 : Nat) = 1048588 + 1 from rfl]
      simp only [laws_FnExactOrderOfMeander.j1]
      rw [if_neg (by simp), heldS ys.length (by omega) (by omega), Option.bind_some, if_neg (by omega), if_pos rfl]
    · rw [if_pos (by omega)]
  · rw [if_pos (by omega)]

end Go.Proofs.Ytenignpfelipgaa.Pure
