/- SystemsOf of the program returns what the reference returns, for every number: the pure statement. No condition. -/
import Derived.Test.YtenignpfelipgaaPB
import Derived.Test.YtenignpfelipgaaQx4
namespace Go.Proofs.Ytenignpfelipgaa.Pure
open Go.RowKit Go.Proofs.Ytenignpfelipgaa.Q Go.Proofs.Ytenignpfelipgaa.Hand Go.Proofs.YtenignpfelipgaaW.PrintWords Go.Proofs.YtenignpfelipgaaW.PrintLast Go.Proofs.Ytenignpfelipgaa.PB


theorem implIn2 (a lo hi : Int) : impl_in.f a lo hi = some (decide (lo ≤ a ∧ a ≤ hi)) := by
  unfold impl_in.f
  by_cases h : a ≥ lo
  · rw [if_pos h]
    by_cases h2 : a ≤ hi
    · rw [decide_eq_true h2, decide_eq_true (by omega)]
    · rw [decide_eq_false h2, decide_eq_false (by omega)]
  · rw [if_neg h, decide_eq_false (by omega)]
theorem specIn (a lo hi : Int) : spec_l01In.f a lo hi = some (decide (lo ≤ a ∧ a ≤ hi)) := implIn2 a lo hi
theorem FnExactSystemsOf : laws_FnExactSystemsOf.Pure := by
  intro a _
  refine ⟨5000, ?_⟩
  obtain ⟨l, c, h1, h2, hl⟩ : ∃ l c, spec_SystemsOf.f 5000 a = some (l, c) ∧ impl_SystemsOf.f a = some (l, c) ∧ l.length ≤ 4096 := by
    unfold spec_SystemsOf.f impl_SystemsOf.f
    rw [implIn2, specIn, Option.bind_some, Option.bind_some]
    by_cases h : (1 : Int) ≤ a ∧ a ≤ 6
    · obtain ⟨n, rfl⟩ := Int.eq_ofNat_of_zero_le (show 0 ≤ a by omega)
      have hp : 2 ^ (2 * n) ≤ 2 ^ 12 := Nat.pow_le_pow_right (by omega) (by omega)
      rw [decide_eq_true h, if_pos rfl, if_pos rfl]
      unfold spec_l08All.f impl_bracketings.f
      have e := texts_brk (2 * n) 0 n [] ⟨#[]⟩ 5000 (by omega) (by omega) (by show 0 + 2 * n ≤ 100; omega) (by simp; omega) (by omega)
      rw [show ((0 : Nat) : Int) = 0 from rfl] at e
      rw [e, if_pos (by omega), Option.bind_some, Option.bind_some, Option.bind_some, Int.toNat_natCast]
      refine ⟨_, _, rfl, rfl, ?_⟩
      have := brk_len (2 * n) 0 ⟨#[]⟩
      rw [List.nil_append]
      omega
    · rw [decide_eq_false h]
      exact ⟨[], 2, rfl, rfl, by simp⟩
  unfold laws_FnExactSystemsOf.f
  rw [h1, h2, Option.bind_some, Option.bind_some]
  simp only []
  rw [eqSS l (by omega) (by omega), Option.bind_some, if_pos rfl, bne_self_eq_false, show (5000 : Nat) = 4998 + 2 from rfl]
  simp only [laws_FnExactSystemsOf.j0]
  rw [if_neg (by simp), markSS l (by omega) (by omega), Option.bind_some]
  simp only []
  rw [heldSS _ (by omega) (by omega), Option.bind_some, if_neg (by omega), if_pos rfl, h2, Option.bind_some]
  simp only []
  rw [eqSS l (by omega) (by omega), Option.bind_some, if_pos rfl, bne_self_eq_false]
  simp only [laws_FnExactSystemsOf.j1]
  rw [if_neg (by simp), heldSS _ (by omega) (by omega), Option.bind_some, if_neg (by omega), if_pos rfl]

end Go.Proofs.Ytenignpfelipgaa.Pure
