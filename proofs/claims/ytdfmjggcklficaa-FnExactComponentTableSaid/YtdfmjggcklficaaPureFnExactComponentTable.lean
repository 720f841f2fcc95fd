/- ComponentTable of the program returns what the reference returns, for all whole numbers: the pure statement. No condition. -/
import Derived.Test.YtdfmjggcklficaaQx1
import Derived.Test.YtdfmjggcklficaaQx2
import Derived.Test.YtdfmjggcklficaaWalkTable
namespace Go.Proofs.Ytdfmjggcklficaa.Pure
open Go.RowKit Go.Proofs.Ytdfmjggcklficaa.Q Go.Proofs.Ytdfmjggcklficaa.Hand Go.Proofs.YtdfmjggcklficaaW.PrintWords Go.Proofs.YtdfmjggcklficaaW.PrintLast

set_option maxRecDepth 100000

theorem specIn (a lo hi : Int) : spec_l01In.f a lo hi = some (decide (lo ≤ a ∧ a ≤ hi)) := by
  unfold spec_l01In.f
  by_cases h : a ≥ lo
  · rw [if_pos h]
    by_cases h2 : a ≤ hi
    · rw [decide_eq_true h2, decide_eq_true (by omega)]
    · rw [decide_eq_false h2, decide_eq_false (by omega)]
  · rw [if_neg h, decide_eq_false (by omega)]
theorem implIn (a lo hi : Int) : impl_in.f a lo hi = some (decide (lo ≤ a ∧ a ≤ hi)) := specIn a lo hi

def okAt (m : Int) : Bool := match spec_ComponentTable.f 3000 m with
  | none => false
  | some (L, c) => (impl_ComponentTable.f 3000 m == some (L, c)) && (laws_eqInt64SS.f 3000 L L == some true) && (match markSS.l0 3000 L 1 0 with
    | none => false
    | some (mm, L') => (laws_heldInt64SS.f 3000 L' 1 == some mm) && decide (0 ≤ mm))
theorem of_ok {m : Int} (h : okAt m = true) : ∃ (k : Nat) (L : List (List Int)) (c : Int) (L' : List (List Int)) (mm : Int), spec_ComponentTable.f k m = some (L, c) ∧ impl_ComponentTable.f k m = some (L, c) ∧ laws_eqInt64SS.f k L L = some true ∧ markSS.l0 k L 1 0 = some (mm, L') ∧ laws_heldInt64SS.f k L' 1 = some mm ∧ 0 ≤ mm := by
  unfold okAt at h
  split at h
  · cases h
  · rename_i L c hs
    rw [Bool.and_eq_true, Bool.and_eq_true, beq_iff_eq, beq_iff_eq] at h
    obtain ⟨⟨hi, he⟩, h⟩ := h
    split at h
    · cases h
    · rename_i mm L' hm
      rw [Bool.and_eq_true, beq_iff_eq, decide_eq_true_eq] at h
      exact ⟨3000, L, c, L', mm, hs, hi, he, hm, h.1, h.2⟩
theorem at1 : okAt 1 = true := by decide +kernel
theorem at2 : okAt 2 = true := by decide +kernel
theorem at3 : okAt 3 = true := by decide +kernel
theorem at4 : okAt 4 = true := by decide +kernel

theorem FnExactComponentTable : laws_FnExactComponentTable.Pure := by
  intro m _
  by_cases h : 1 ≤ m ∧ m ≤ 4
  · have hm : m = 1 ∨ m = 2 ∨ m = 3 ∨ m = 4 := by omega
    rcases hm with rfl | rfl | rfl | rfl
    · exact of_ok at1
    · exact of_ok at2
    · exact of_ok at3
    · exact of_ok at4
  · refine ⟨3000, [], 2, [], 1, ?_, ?_, by decide, by decide, by decide, by decide⟩
    · unfold spec_ComponentTable.f
      rw [specIn, decide_eq_false h, Option.bind_some, if_neg (by simp)]
    · unfold impl_ComponentTable.f
      rw [implIn, decide_eq_false h, Option.bind_some, if_neg (by simp)]

end Go.Proofs.Ytdfmjggcklficaa.Pure
