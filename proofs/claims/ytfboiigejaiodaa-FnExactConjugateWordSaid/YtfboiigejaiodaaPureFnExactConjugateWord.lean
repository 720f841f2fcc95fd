/- ConjugateWord of the program returns what the reference returns, for all arguments, changes no argument and shares no memory: the pure statement. No condition. -/
import Derived.Test.YtfboiigejaiodaaPB
import Derived.Test.YtfboiigejaiodaaQx5
import Derived.Test.YtfboiigejaiodaaQx6
namespace Go.Proofs.Ytfboiigejaiodaa.Pure
open Go.RowKit Go.Proofs.Ytfboiigejaiodaa.Q Go.Proofs.Ytfboiigejaiodaa.Hand Go.Proofs.YtfboiigejaiodaaW.PrintWords Go.Proofs.YtfboiigejaiodaaW.PrintLast Go.Proofs.Ytfboiigejaiodaa.PA Go.Proofs.Ytfboiigejaiodaa.PB


theorem both (n : Int) (l : List Int) (s : Int) (hb : l.length ≤ 1048576) : ∃ ys e, ys.length ≤ 25 ∧ (∀ k, l.length + 4 < k → spec_ConjugateWord.f k n l s = some (ys, e)) ∧ (∀ k : Nat, l.length + 4 < k → impl_ConjugateWord.f n l s = some (ys, e)) := by
  cases ho : okB n l with
  | false =>
    refine ⟨[], 2, by simp, fun k hk => ?_, fun k hk => ?_⟩
    · obtain ⟨k, rfl⟩ : ∃ m, k = m + 1 := ⟨k - 1, by omega⟩
      unfold spec_ConjugateWord.f
      rw [specWord n l hb (by omega), ho, Option.bind_some, if_neg (by simp)]
      simp only [spec_ConjugateWord.j0]
      rw [if_pos trivial]
    · unfold impl_ConjugateWord.f
      rw [implWord n l hb, ho, Option.bind_some, if_neg (by simp)]
  | true =>
    obtain ⟨h1, h2, h3, h4⟩ := okB_spec ho
    cases hz : okB n [s] with
    | false =>
      refine ⟨[], 2, by simp, fun k hk => ?_, fun k hk => ?_⟩
      · obtain ⟨k, rfl⟩ : ∃ m, k = m + 1 := ⟨k - 1, by omega⟩
        unfold spec_ConjugateWord.f
        rw [specWord n l hb (by omega), ho, Option.bind_some, if_pos rfl, specWord n [s] (by simp) (by simp; omega), hz, Option.bind_some]
        simp only [spec_ConjugateWord.j0]
        rw [if_pos (by simp)]
      · unfold impl_ConjugateWord.f
        rw [implWord n l hb, ho, Option.bind_some, if_pos rfl, implWord n [s] (by simp), hz, Option.bind_some, if_neg (by simp)]
    | true =>
      have hs : ∀ k, l.length + 4 < k → spec_ConjugateWord.f k n l s = if 22 < l.length then some ([], 3) else some (s :: l ++ [wrap64 (-s)], 0) := by
        intro k hk
        obtain ⟨k, rfl⟩ : ∃ m, k = m + 1 := ⟨k - 1, by omega⟩
        unfold spec_ConjugateWord.f
        rw [specWord n l hb (by omega), ho, Option.bind_some, if_pos rfl, specWord n [s] (by simp) (by simp; omega), hz, Option.bind_some]
        simp only [spec_ConjugateWord.j0]
        rw [if_neg (by simp), wrap_id (by omega) (by omega)]
        by_cases h24 : 22 < l.length
        · rw [if_pos (by omega), if_pos h24]
        · rw [if_neg (by omega), if_neg h24, Option.bind_some, if_pos (by simp; omega), Option.bind_some, if_pos (by simp; omega)]
          rfl
      have hi : impl_ConjugateWord.f n l s = if 22 < l.length then some ([], 3) else some (s :: l ++ [wrap64 (-s)], 0) := by
        unfold impl_ConjugateWord.f
        rw [implWord n l hb, ho, Option.bind_some, if_pos rfl, implWord n [s] (by simp), hz, Option.bind_some, if_pos rfl, if_pos h3]
      by_cases h24 : 22 < l.length
      · rw [if_pos h24] at hi
        exact ⟨[], 3, by simp, fun k hk => by rw [hs k hk, if_pos h24], fun _ _ => hi⟩
      · rw [if_neg h24] at hi
        exact ⟨_, 0, by simp; omega, fun k hk => by rw [hs k hk, if_neg h24], fun _ _ => hi⟩

theorem FnExactConjugateWord : laws_FnExactConjugateWord.Pure := by
  intro n l s _ _ _ _ _
  refine ⟨1048700, ?_⟩
  unfold laws_FnExactConjugateWord.f
  by_cases hb : l.length ≤ 1048576
  · rw [if_neg (by omega)]
    obtain ⟨ys, e, hy, h, g⟩ := both n l s hb
    rw [toS l hb (by omega), Option.bind_some, h 1048700 (by omega), Option.bind_some, Option.bind_some, g 1048700 (by omega), Option.bind_some]
    simp only []
    rw [eqS ys (by omega) (by omega), Option.bind_some, if_pos rfl, bne_self_eq_false]
    rw [show (1048700 : Nat) = 1048699 + 1 from rfl]
    simp only [laws_FnExactConjugateWord.j0]
    rw [if_neg (by simp), toS l hb (by omega), Option.bind_some, eqS l (by omega) (by omega), Option.bind_some, if_pos rfl, markS l (by omega) (by omega), Option.bind_some, if_neg (by omega), eqS ys (by omega) (by omega), Option.bind_some, if_pos rfl, bne_self_eq_false]
    rw [show (1048699 : Nat) = 1048698 + 1 from rfl]
    simp only [laws_FnExactConjugateWord.j1]
    rw [if_neg (by simp), markS ys (by omega) (by omega), Option.bind_some, heldS ys.length (by omega) (by omega), Option.bind_some, if_neg (by omega), if_pos rfl, toS l hb (by omega), Option.bind_some, g 1048698 (by omega), Option.bind_some]
    simp only []
    rw [eqS ys (by omega) (by omega), Option.bind_some, if_pos rfl, bne_self_eq_false]
    rw [show (1048698 : Nat) = 1048697 + 1 from rfl]
    simp only [laws_FnExactConjugateWord.j2]
    rw [if_neg (by simp), heldS ys.length (by omega) (by omega), Option.bind_some, if_neg (by omega), if_pos rfl]
  · rw [if_pos (by omega)]

end Go.Proofs.Ytfboiigejaiodaa.Pure
