/- CountBlobbed of the program returns what the reference returns, for every whole number: the pure statement. No condition. -/
import Derived.Test.YthkaeacfokfhpaaPFnExactCountBlobbedx1
namespace Go.Proofs.Ythkaeacfokfhpaa.PureFnExactCountBlobbed
open Go.RowKit Go.Proofs.Ythkaeacfokfhpaa.PFnExactCountBlobbed Go.Proofs.YthkaeacfokfhpaaW.PrintWords Go.Proofs.YthkaeacfokfhpaaW.PrintLast

theorem specIn (a lo hi : Int) : spec_l01In.f a lo hi = some (decide (lo ≤ a ∧ a ≤ hi)) := by
  unfold spec_l01In.f
  by_cases h : a ≥ lo
  · rw [if_pos h]
    by_cases h2 : a ≤ hi
    · rw [decide_eq_true h2, decide_eq_true (by omega)]
    · rw [decide_eq_false h2, decide_eq_false (by omega)]
  · rw [if_neg h, decide_eq_false (by omega)]
theorem implIn (a lo hi : Int) : impl_in.f a lo hi = some (decide (lo ≤ a ∧ a ≤ hi)) := by
  unfold impl_in.f
  by_cases h : a ≥ lo
  · rw [if_pos h]
    by_cases h2 : a ≤ hi
    · rw [decide_eq_true h2, decide_eq_true (by omega)]
    · rw [decide_eq_false h2, decide_eq_false (by omega)]
  · rw [if_neg h, decide_eq_false (by omega)]

theorem small : (List.range 8).all (fun n => laws_FnExactCountBlobbed.f 20 ((n : Int) + 1) == some true) = true := by decide +kernel
theorem law : laws_FnExactCountBlobbed.Pure := by
  intro a _
  refine ⟨20, ?_⟩
  by_cases h : 1 ≤ a ∧ a ≤ 8
  · have h' := List.all_eq_true.1 small (a - 1).toNat (by rw [List.mem_range]; omega)
    rw [show (((a - 1).toNat : Nat) : Int) + 1 = a from by omega] at h'
    exact eq_of_beq h'
  · unfold laws_FnExactCountBlobbed.f spec_CountBlobbed.f impl_CountBlobbed.f
    rw [specIn, implIn, decide_eq_false h]
    rfl

end Go.Proofs.Ythkaeacfokfhpaa.PureFnExactCountBlobbed
namespace Go.Proofs.Ythkaeacfokfhpaa.Pure
open Go.Proofs.Ythkaeacfokfhpaa.PFnExactCountBlobbed
theorem FnExactCountBlobbed : laws_FnExactCountBlobbed.Pure := Go.Proofs.Ythkaeacfokfhpaa.PureFnExactCountBlobbed.law
end Go.Proofs.Ythkaeacfokfhpaa.Pure
