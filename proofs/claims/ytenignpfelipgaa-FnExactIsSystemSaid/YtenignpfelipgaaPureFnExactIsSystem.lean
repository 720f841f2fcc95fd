/- IsSystem of the program returns what the reference returns, for every text: the pure statement. No condition. -/
import Derived.Test.YtenignpfelipgaaPA
import Derived.Test.YtenignpfelipgaaQx1
namespace Go.Proofs.Ytenignpfelipgaa.Pure
open Go.RowKit Go.Proofs.Ytenignpfelipgaa.Q Go.Proofs.Ytenignpfelipgaa.Hand Go.Proofs.YtenignpfelipgaaW.PrintWords Go.Proofs.YtenignpfelipgaaW.PrintLast Go.Proofs.Ytenignpfelipgaa.PA


theorem implIn (a lo hi : Int) : impl_in.f a lo hi = some (decide (lo ≤ a ∧ a ≤ hi)) := by
  unfold impl_in.f
  by_cases h : a ≥ lo
  · rw [if_pos h]
    by_cases h2 : a ≤ hi
    · rw [decide_eq_true h2, decide_eq_true (by omega)]
    · rw [decide_eq_false h2, decide_eq_false (by omega)]
  · rw [if_neg h, decide_eq_false (by omega)]
theorem FnExactIsSystem : laws_FnExactIsSystem.Pure := by
  intro s _
  refine ⟨1048580, ?_⟩
  unfold laws_FnExactIsSystem.f
  by_cases hb : s.size ≤ 1048576
  · rw [if_neg (by omega)]
    obtain ⟨o, r, y, h1, h2, h3, _⟩ := arcs s hb
    have e1 : spec_IsSystem.f 1048580 s = some y := by
      unfold spec_IsSystem.f spec_l08Is.f
      rw [h1 _ (by omega)]
      rfl
    have e2 : impl_IsSystem.f 1048580 s = some y := by
      unfold impl_IsSystem.f
      rw [h2 _ (by omega), Option.bind_some, h3, implIn]
      cases r.2 with
      | false => rfl
      | true =>
        by_cases ha : s.size % 2 = 0
        · rw [if_pos rfl, if_pos (by omega), decide_eq_true ha]
          by_cases hc : 2 ≤ s.size ∧ s.size ≤ 12
          · rw [decide_eq_true hc, decide_eq_true (by omega : (2 : Int) ≤ (s.size : Int) ∧ (s.size : Int) ≤ 12)]; rfl
          · rw [decide_eq_false hc, decide_eq_false (by omega : ¬ ((2 : Int) ≤ (s.size : Int) ∧ (s.size : Int) ≤ 12))]; rfl
        · rw [if_pos rfl, if_neg (by omega), decide_eq_false ha]; rfl
    rw [e1, e2, Option.bind_some, Option.bind_some]
    simp
  · rw [if_pos (by omega)]

end Go.Proofs.Ytenignpfelipgaa.Pure
