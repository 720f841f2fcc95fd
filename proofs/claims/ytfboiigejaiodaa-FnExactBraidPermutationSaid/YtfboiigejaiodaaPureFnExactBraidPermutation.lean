/- BraidPermutation of the program returns what the reference returns, for all arguments, changes no argument and shares no memory: the pure statement. No condition. -/
import Derived.Test.YtfboiigejaiodaaPX
import Derived.Test.YtfboiigejaiodaaQx3
import Derived.Test.YtfboiigejaiodaaQx4
namespace Go.Proofs.Ytfboiigejaiodaa.Pure
open Go.RowKit Go.Proofs.Ytfboiigejaiodaa.Q Go.Proofs.Ytfboiigejaiodaa.Hand Go.Proofs.YtfboiigejaiodaaW.PrintWords Go.Proofs.YtfboiigejaiodaaW.PrintLast Go.Proofs.Ytfboiigejaiodaa.PA Go.Proofs.Ytfboiigejaiodaa.PB Go.Proofs.Ytfboiigejaiodaa.PX


theorem both' (n : Int) (l : List Int) (hb : l.length ≤ 1048576) : ∃ ys e, ys.length ≤ 25 ∧ (∀ k, l.length + 40 < k → spec_BraidPermutation.f k n l = some (ys, e)) ∧ (∀ k : Nat, l.length + 40 < k → impl_BraidPermutation.f k n l = some (ys, e)) := by
  obtain ⟨ys, e, h1, h2, h3, _⟩ := both n l hb
  exact ⟨ys, e, h1, h2, h3⟩

theorem FnExactBraidPermutation : laws_FnExactBraidPermutation.Pure := by
  intro n l _ _ _ _
  refine ⟨1048700, ?_⟩
  unfold laws_FnExactBraidPermutation.f
  by_cases hb : l.length ≤ 1048576
  · rw [if_neg (by omega)]
    obtain ⟨ys, e, hy, h, g⟩ := both' n l hb
    rw [toS l hb (by omega), Option.bind_some, h 1048700 (by omega), Option.bind_some, Option.bind_some, g 1048700 (by omega), Option.bind_some]
    simp only []
    rw [eqS ys (by omega) (by omega), Option.bind_some, if_pos rfl, bne_self_eq_false]
    rw [show (1048700 : Nat) = 1048699 + 1 from rfl]
    simp only [laws_FnExactBraidPermutation.j0]
    rw [if_neg (by simp), toS l hb (by omega), Option.bind_some, eqS l (by omega) (by omega), Option.bind_some, if_pos rfl, markS l (by omega) (by omega), Option.bind_some, if_neg (by omega), eqS ys (by omega) (by omega), Option.bind_some, if_pos rfl, bne_self_eq_false]
    rw [show (1048699 : Nat) = 1048698 + 1 from rfl]
    simp only [laws_FnExactBraidPermutation.j1]
    rw [if_neg (by simp), markS ys (by omega) (by omega), Option.bind_some, heldS ys.length (by omega) (by omega), Option.bind_some, if_neg (by omega), if_pos rfl, toS l hb (by omega), Option.bind_some, g 1048698 (by omega), Option.bind_some]
    simp only []
    rw [eqS ys (by omega) (by omega), Option.bind_some, if_pos rfl, bne_self_eq_false]
    rw [show (1048698 : Nat) = 1048697 + 1 from rfl]
    simp only [laws_FnExactBraidPermutation.j2]
    rw [if_neg (by simp), heldS ys.length (by omega) (by omega), Option.bind_some, if_neg (by omega), if_pos rfl]
  · rw [if_pos (by omega)]

end Go.Proofs.Ytfboiigejaiodaa.Pure
