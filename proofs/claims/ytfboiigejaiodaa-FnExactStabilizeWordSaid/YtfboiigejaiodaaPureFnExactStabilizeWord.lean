/- StabilizeWord of the program returns what the reference returns, for all arguments, changes no argument and shares no memory: the pure statement. No condition. -/
import Derived.Test.YtfboiigejaiodaaPB
import Derived.Test.YtfboiigejaiodaaQx1
import Derived.Test.YtfboiigejaiodaaQx2
import Derived.Test.YtfboiigejaiodaaQx3
namespace Go.Proofs.Ytfboiigejaiodaa.Pure
open Go.RowKit Go.Proofs.Ytfboiigejaiodaa.Q Go.Proofs.Ytfboiigejaiodaa.Hand Go.Proofs.YtfboiigejaiodaaW.PrintWords Go.Proofs.YtfboiigejaiodaaW.PrintLast Go.Proofs.Ytfboiigejaiodaa.PA Go.Proofs.Ytfboiigejaiodaa.PB


theorem own (l : List Int) (hl : l.length ≤ 24) : spec_l01Own.f l = some l := by
  unfold spec_l01Own.f
  rw [Option.bind_some, if_pos (by simp; omega)]
  rfl
theorem both (n : Int) (l : List Int) (s : Int) (hb : l.length ≤ 1048576) : ∃ ys e, ys.length ≤ 25 ∧ (∀ k, l.length + 2 < k → spec_StabilizeWord.f k n l s = some (ys, e)) ∧ (∀ k : Nat, l.length + 2 < k → impl_StabilizeWord.f n l s = some (ys, e)) := by
  cases ho : okB n l with
  | false =>
    refine ⟨[], 2, by simp, fun k hk => ?_, fun k hk => ?_⟩
    · obtain ⟨k, rfl⟩ : ∃ m, k = m + 1 := ⟨k - 1, by omega⟩
      unfold spec_StabilizeWord.f
      rw [specWord n l hb (by omega), ho, Option.bind_some, if_neg (by simp)]
      simp only [spec_StabilizeWord.j0]
      rw [if_pos trivial]
    · unfold impl_StabilizeWord.f
      rw [implWord n l hb, ho, Option.bind_some, if_neg (by simp)]
  | true =>
    obtain ⟨h1, h2, h3, h4⟩ := okB_spec ho
    have hs : ∀ k, l.length + 2 < k → spec_StabilizeWord.f k n l s = if n = 6 then some ([], 2) else if s = 1 ∨ s = -1 then (if l.length = 24 then some ([], 3) else some (l ++ [wrap64 (s * n)], 0)) else some ([], 2) := by
      intro k hk
      obtain ⟨k, rfl⟩ : ∃ m, k = m + 1 := ⟨k - 1, by omega⟩
      have hj : spec_StabilizeWord.j0 (k + 1) n l s false = if l.length = 24 then some ([], 3) else some (l ++ [wrap64 (s * n)], 0) := by
        simp only [spec_StabilizeWord.j0]
        rw [if_neg (by simp), wrap_id (by omega) (by omega), own l h3, Option.bind_some]
        by_cases h24 : l.length = 24
        · rw [if_pos (by omega), if_pos h24]
        · rw [if_neg (by omega), if_neg h24, if_pos (by omega)]
      have hj2 : spec_StabilizeWord.j0 (k + 1) n l s true = some ([], 2) := by
        simp only [spec_StabilizeWord.j0]
        rw [if_pos trivial]
      unfold spec_StabilizeWord.f
      rw [specWord n l hb (by omega), ho, Option.bind_some, if_pos rfl]
      by_cases h6 : n = 6
      · rw [if_pos (by omega), if_pos h6, hj2]
      · rw [if_neg (by omega), if_neg h6]
        by_cases s1 : s = 1
        · rw [if_pos s1, if_pos (.inl s1), hj]
        · rw [if_neg s1]
          by_cases s2 : s = -1
          · rw [if_pos (.inr s2), show (s != (-1)) = false from bne_eq_false_iff_eq.mpr s2, hj]
          · rw [if_neg (by omega), show (s != (-1)) = true from bne_iff_ne.mpr s2, hj2]
    have hi : impl_StabilizeWord.f n l s = if n = 6 then some ([], 2) else if s = 1 ∨ s = -1 then (if l.length = 24 then some ([], 3) else some (l ++ [wrap64 (s * n)], 0)) else some ([], 2) := by
      unfold impl_StabilizeWord.f
      rw [implWord n l hb, ho, Option.bind_some, if_pos rfl, if_pos h3]
    by_cases h6 : n = 6
    · rw [if_pos h6] at hi
      exact ⟨[], 2, by simp, fun k hk => by rw [hs k hk, if_pos h6], fun _ _ => hi⟩
    · rw [if_neg h6] at hi
      by_cases s1 : s = 1 ∨ s = -1
      · rw [if_pos s1] at hi
        by_cases h24 : l.length = 24
        · rw [if_pos h24] at hi
          exact ⟨[], 3, by simp, fun k hk => by rw [hs k hk, if_neg h6, if_pos s1, if_pos h24], fun _ _ => hi⟩
        · rw [if_neg h24] at hi
          exact ⟨_, 0, by simp; omega, fun k hk => by rw [hs k hk, if_neg h6, if_pos s1, if_neg h24], fun _ _ => hi⟩
      · rw [if_neg s1] at hi
        exact ⟨[], 2, by simp, fun k hk => by rw [hs k hk, if_neg h6, if_neg s1], fun _ _ => hi⟩

theorem FnExactStabilizeWord : laws_FnExactStabilizeWord.Pure := by
  intro n l s _ _ _ _ _
  refine ⟨1048700, ?_⟩
  unfold laws_FnExactStabilizeWord.f
  by_cases hb : l.length ≤ 1048576
  · rw [if_neg (by omega)]
    obtain ⟨ys, e, hy, h, g⟩ := both n l s hb
    rw [toS l hb (by omega), Option.bind_some, h 1048700 (by omega), Option.bind_some, Option.bind_some, g 1048700 (by omega), Option.bind_some]
    simp only []
    rw [eqS ys (by omega) (by omega), Option.bind_some, if_pos rfl, bne_self_eq_false]
    rw [show (1048700 : Nat) = 1048699 + 1 from rfl]
    simp only [laws_FnExactStabilizeWord.j0]
    rw [if_neg (by simp), toS l hb (by omega), Option.bind_some, eqS l (by omega) (by omega), Option.bind_some, if_pos rfl, markS l (by omega) (by omega), Option.bind_some, if_neg (by omega), eqS ys (by omega) (by omega), Option.bind_some, if_pos rfl, bne_self_eq_false]
    rw [show (1048699 : Nat) = 1048698 + 1 from rfl]
    simp only [laws_FnExactStabilizeWord.j1]
    rw [if_neg (by simp), markS ys (by omega) (by omega), Option.bind_some, heldS ys.length (by omega) (by omega), Option.bind_some, if_neg (by omega), if_pos rfl, toS l hb (by omega), Option.bind_some, g 1048698 (by omega), Option.bind_some]
    simp only []
    rw [eqS ys (by omega) (by omega), Option.bind_some, if_pos rfl, bne_self_eq_false]
    rw [show (1048698 : Nat) = 1048697 + 1 from rfl]
    simp only [laws_FnExactStabilizeWord.j2]
    rw [if_neg (by simp), heldS ys.length (by omega) (by omega), Option.bind_some, if_neg (by omega), if_pos rfl]
  · rw [if_pos (by omega)]

end Go.Proofs.Ytfboiigejaiodaa.Pure
