/- RainbowOf of the program returns what the reference returns, for all whole numbers: the pure statement. No condition. -/
import Derived.Test.YtenignpfelipgaaHandRain
import Derived.Test.YtenignpfelipgaaQx1
namespace Go.Proofs.Ytenignpfelipgaa.Pure
open Go.RowKit Go.Proofs.Ytenignpfelipgaa.Q Go.Proofs.Ytenignpfelipgaa.Hand Go.Proofs.YtenignpfelipgaaW.PrintWords Go.Proofs.YtenignpfelipgaaW.PrintLast


theorem specIn (a lo hi : Int) : spec_l01In.f a lo hi = some (decide (lo ≤ a ∧ a ≤ hi)) := by
  unfold spec_l01In.f
  by_cases h : a ≥ lo
  · rw [if_pos h]
    by_cases h2 : a ≤ hi
    · rw [decide_eq_true h2, decide_eq_true (by omega)]
    · rw [decide_eq_false h2, decide_eq_false (by omega)]
  · rw [if_neg h, decide_eq_false (by omega)]
theorem implIn (a lo hi : Int) : impl_in.f a lo hi = some (decide (lo ≤ a ∧ a ≤ hi)) := specIn a lo hi
theorem both (m : Int) (h1 : 1 ≤ m) (h6 : m ≤ 6) : spec_l08Rainbow.f 20 m = impl_rainbow.f m ∧ impl_rainbow.f m = some (strOfNums (List.replicate m.toNat 40 ++ List.replicate m.toNat 41)) := by
  obtain ⟨n, rfl⟩ := Int.eq_ofNat_of_zero_le (show 0 ≤ m by omega)
  rcases n with _ | _ | _ | _ | _ | _ | _ | n
  case zero => omega
  case succ.succ.succ.succ.succ.succ.succ => omega
  all_goals exact ⟨by decide +kernel, by decide +kernel⟩
theorem FnExactRainbowOf : laws_FnExactRainbowOf.Pure := by
  intro m _
  refine ⟨20, ?_⟩
  unfold laws_FnExactRainbowOf.f spec_RainbowOf.f impl_RainbowOf.f
  rw [specIn, implIn]
  by_cases h : 1 ≤ m ∧ m ≤ 6
  · obtain ⟨e1, e2⟩ := both m h.1 h.2
    rw [decide_eq_true h, Option.bind_some, Option.bind_some, if_pos rfl, if_pos rfl, e1, e2]
    simp
  · rw [decide_eq_false h]
    simp

end Go.Proofs.Ytenignpfelipgaa.Pure
