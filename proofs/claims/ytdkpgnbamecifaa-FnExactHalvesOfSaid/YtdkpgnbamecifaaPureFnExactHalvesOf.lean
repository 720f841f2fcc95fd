/- HalvesOf of the program returns what the reference returns, for all numbers: the pure statement. No condition. -/
import Derived.Test.YtdkpgnbamecifaaPB
import Derived.Test.YtdkpgnbamecifaaQx5
namespace Go.Proofs.Ytdkpgnbamecifaa.Pure
open Go.RowKit Go.Proofs.Ytdkpgnbamecifaa.Q Go.Proofs.Ytdkpgnbamecifaa.Hand Go.Proofs.YtdkpgnbamecifaaW.PrintWords Go.Proofs.YtdkpgnbamecifaaW.PrintLast Go.Proofs.Ytdkpgnbamecifaa.PB


theorem implIn4 (a lo hi : Int) : impl_in.f a lo hi = some (decide (lo ≤ a ∧ a ≤ hi)) := by
  unfold impl_in.f
  by_cases h : a ≥ lo
  · rw [if_pos h]
    by_cases h2 : a ≤ hi
    · rw [decide_eq_true h2, decide_eq_true (by omega)]
    · rw [decide_eq_false h2, decide_eq_false (by omega)]
  · rw [if_neg h, decide_eq_false (by omega)]
theorem specIn4 (a lo hi : Int) : spec_l01In.f a lo hi = some (decide (lo ≤ a ∧ a ≤ hi)) := implIn4 a lo hi
theorem FnExactHalvesOf : laws_FnExactHalvesOf.Pure := by
  intro a b _ _
  refine ⟨3000, ?_⟩
  obtain ⟨l, c, h1, h2, hl⟩ : ∃ l c, spec_HalvesOf.f 3000 a b = some (l, c) ∧ impl_HalvesOf.f a b = some (l, c) ∧ l.length ≤ 2000 := by
    unfold spec_HalvesOf.f impl_HalvesOf.f spec_l04Range.f impl_openOk.f
    simp only [implIn4, specIn4, Option.bind_some]
    by_cases h1 : (1 : Int) ≤ a ∧ a ≤ 6
    · rw [decide_eq_true h1]
      by_cases h2 : (0 : Int) ≤ b ∧ b ≤ a
      · rw [decide_eq_true h2]
        by_cases h3 : (Int.tmod (wrap64 (a - b)) 2 == 0) = true
        · rw [h3]
          obtain ⟨n, rfl⟩ := Int.eq_ofNat_of_zero_le (show 0 ≤ a by omega)
          obtain ⟨m, rfl⟩ := Int.eq_ofNat_of_zero_le h2.1
          rw [wrap_id (by omega) (by omega), beq_iff_eq, Int.tmod_eq_emod_of_nonneg (by omega)] at h3
          have e := halvesL n m (by omega) (by omega) (by omega) (by omega) (by omega)
          refine ⟨hl n 0 m ⟨#[]⟩, 0, ?_, ?_, ?_⟩
          · simp only [if_true, Option.bind_some]
            rw [e, Option.bind_some]
          · unfold impl_halves.f
            simp only [if_true, Option.bind_some]
            rw [if_pos (by omega), Int.toNat_natCast, Int.toNat_natCast, Option.bind_some]
          · have := hl_len n 0 m ⟨#[]⟩
            have hp : 2 ^ n ≤ 2 ^ 6 := Nat.pow_le_pow_right (by omega) (by omega)
            omega
        · rw [Bool.not_eq_true] at h3
          rw [h3]
          exact ⟨[], 2, rfl, rfl, by simp⟩
      · rw [decide_eq_false h2]
        exact ⟨[], 2, rfl, rfl, by simp⟩
    · rw [decide_eq_false h1]
      exact ⟨[], 2, rfl, rfl, by simp⟩
  unfold laws_FnExactHalvesOf.f
  rw [h1, h2, Option.bind_some, Option.bind_some]
  simp only []
  rw [eqSS l (by omega) (by omega), Option.bind_some, if_pos rfl, bne_self_eq_false, show (3000 : Nat) = 2998 + 2 from rfl]
  simp only [laws_FnExactHalvesOf.j0]
  rw [if_neg (by simp), markSS l (by omega) (by omega), Option.bind_some]
  simp only []
  rw [heldSS _ (by omega) (by omega), Option.bind_some, if_neg (by omega), if_pos rfl, h2, Option.bind_some]
  simp only []
  rw [eqSS l (by omega) (by omega), Option.bind_some, if_pos rfl, bne_self_eq_false]
  simp only [laws_FnExactHalvesOf.j1]
  rw [if_neg (by simp), heldSS _ (by omega) (by omega), Option.bind_some, if_neg (by omega), if_pos rfl]

end Go.Proofs.Ytdkpgnbamecifaa.Pure
