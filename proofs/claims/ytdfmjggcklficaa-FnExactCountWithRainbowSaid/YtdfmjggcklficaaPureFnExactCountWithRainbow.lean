/- CountWithRainbow of the program returns what the reference returns, for all whole numbers: the pure statement. No condition. -/
import Derived.Test.YtdfmjggcklficaaQx1
import Derived.Test.YtdfmjggcklficaaQx2
import Derived.Test.YtdfmjggcklficaaQx8
namespace Go.Proofs.Ytdfmjggcklficaa.Pure
open Go.RowKit Go.Proofs.Ytdfmjggcklficaa.Q Go.Proofs.Ytdfmjggcklficaa.Hand Go.Proofs.YtdfmjggcklficaaW.PrintWords Go.Proofs.YtdfmjggcklficaaW.PrintLast

set_option maxRecDepth 100000

theorem specIn (a lo hi : Int) : spec_l01In.f a lo hi = some (decide (lo ≤ a ∧ a ≤ hi)) := by
  unfold spec_l01In.f
  by_cases h : a ≥ lo
  · rw [if_pos h]
    by_cases h2 : a ≤ hi
    · rw [decide_eq_true h2, decide_eq_true (by omega)]
    · rw [decide_eq_false h2, decide_eq_false (by omega)]
  · rw [if_neg h, decide_eq_false (by omega)]
theorem implIn (a lo hi : Int) : impl_in.f a lo hi = some (decide (lo ≤ a ∧ a ≤ hi)) := specIn a lo hi
theorem at1 : laws_FnExactCountWithRainbow.f 3000 1 = some true := by decide +kernel
theorem at2 : laws_FnExactCountWithRainbow.f 3000 2 = some true := by decide +kernel
theorem at3 : laws_FnExactCountWithRainbow.f 3000 3 = some true := by decide +kernel
theorem at4 : laws_FnExactCountWithRainbow.f 3000 4 = some true := by decide +kernel
theorem at5 : laws_FnExactCountWithRainbow.f 3000 5 = some true := by decide +kernel
theorem at6 : laws_FnExactCountWithRainbow.f 3000 6 = some true := by decide +kernel

theorem FnExactCountWithRainbow : laws_FnExactCountWithRainbow.Pure := by
  intro m _
  refine ⟨3000, ?_⟩
  by_cases h : 1 ≤ m ∧ m ≤ 6
  · have hm : m = 1 ∨ m = 2 ∨ m = 3 ∨ m = 4 ∨ m = 5 ∨ m = 6 := by omega
    rcases hm with rfl | rfl | rfl | rfl | rfl | rfl
    · exact at1
    · exact at2
    · exact at3
    · exact at4
    · exact at5
    · exact at6
  · unfold laws_FnExactCountWithRainbow.f spec_CountWithRainbow.f impl_CountWithRainbow.f
    rw [specIn, implIn, decide_eq_false h]
    simp

end Go.Proofs.Ytdfmjggcklficaa.Pure
