/- CountHalves of the program returns what the reference returns, for all numbers: the pure statement. No condition. -/
import Derived.Test.YtdkpgnbamecifaaHandHalf
import Derived.Test.YtdkpgnbamecifaaQx1
namespace Go.Proofs.Ytdkpgnbamecifaa.Pure
open Go.RowKit Go.Proofs.Ytdkpgnbamecifaa.Q Go.Proofs.Ytdkpgnbamecifaa.Hand Go.Proofs.YtdkpgnbamecifaaW.PrintWords Go.Proofs.YtdkpgnbamecifaaW.PrintLast


theorem wrap_id {x : Int} (h0 : -9223372036854775808 ≤ x) (h1 : x ≤ 9223372036854775807) : wrap64 x = x := by
  unfold wrap64
  omega
theorem implIn (a lo hi : Int) : impl_in.f a lo hi = some (decide (lo ≤ a ∧ a ≤ hi)) := by
  unfold impl_in.f
  by_cases h : a ≥ lo
  · rw [if_pos h]
    by_cases h2 : a ≤ hi
    · rw [decide_eq_true h2, decide_eq_true (by omega)]
    · rw [decide_eq_false h2, decide_eq_false (by omega)]
  · rw [if_neg h, decide_eq_false (by omega)]
theorem specIn (a lo hi : Int) : spec_l01In.f a lo hi = some (decide (lo ≤ a ∧ a ≤ hi)) := implIn a lo hi
/-- How many half diagrams there are. -/
def hlc : Nat → Nat → Nat → Nat
  | 0, _, _ => 1
  | left + 1, un, op => ((if un + op + 2 ≤ left + 1 then hlc left (un + 1) op else 0) + (if 0 < un then hlc left (un - 1) op else 0)) + (if un = 0 ∧ 0 < op then hlc left un (op - 1) else 0)
theorem hl_count : ∀ (left un op : Nat) (t : ByteArray), (hl left un op t).length = hlc left un op := by
  intro left
  induction left with
  | zero => intro un op t; rfl
  | succ left ih =>
    intro un op t
    simp only [hl, hlc]
    rw [List.length_append, List.length_append]
    congr 1
    · congr 1
      · split
        · exact ih _ _ _
        · rfl
      · split
        · exact ih _ _ _
        · rfl
    · split
      · exact ih _ _ _
      · rfl
theorem told9 : ∀ n m : Fin 9, m.val ≤ n.val → (n.val - m.val) % 2 = 0 → spec_CountHalves.l0 20 (n.val : Int) (((n.val - m.val) / 2 : Nat) : Int) 1 0 0 = some ((hlc n.val 0 m.val : Int), 0) := by decide +kernel
theorem told (n : Nat) (hn : n < 9) (m : Nat) (hm : m < 9) (h : m ≤ n) (h2 : (n - m) % 2 = 0) : spec_CountHalves.l0 20 (n : Int) (((n - m) / 2 : Nat) : Int) 1 0 0 = some ((hlc n 0 m : Int), 0) := told9 ⟨n, hn⟩ ⟨m, hm⟩ h h2
theorem FnExactCountHalves : laws_FnExactCountHalves.Pure := by
  intro a b _ _
  refine ⟨20, ?_⟩
  have h : spec_CountHalves.f 20 a b = impl_CountHalves.f a b ∧ (impl_CountHalves.f a b).isSome = true := by
    unfold spec_CountHalves.f impl_CountHalves.f spec_l04Range.f impl_openOk.f
    simp only [implIn, specIn, Option.bind_some]
    by_cases h1 : (1 : Int) ≤ a ∧ a ≤ 8
    · rw [decide_eq_true h1, if_pos rfl]
      by_cases h2 : (0 : Int) ≤ b ∧ b ≤ a
      · rw [decide_eq_true h2, if_pos rfl, Option.bind_some, Option.bind_some]
        by_cases h3 : (Int.tmod (wrap64 (a - b)) 2 == 0) = true
        · rw [h3, if_pos rfl, if_pos rfl]
          obtain ⟨n, rfl⟩ := Int.eq_ofNat_of_zero_le (show 0 ≤ a by omega)
          obtain ⟨m, rfl⟩ := Int.eq_ofNat_of_zero_le h2.1
          rw [wrap_id (by omega) (by omega), beq_iff_eq, Int.tmod_eq_emod_of_nonneg (by omega)] at h3
          unfold impl_halves.f
          rw [if_pos (by omega), Option.bind_some, hl_count, Int.toNat_natCast, Int.toNat_natCast, wrap_id (x := (n : Int) - (m : Int)) (by omega) (by omega), Int.tdiv_eq_ediv_of_nonneg (by omega), wrap_id (by omega) (by omega),
            show ((n : Int) - (m : Int)) / 2 = (((n - m) / 2 : Nat) : Int) from by omega, told n (by omega) m (by omega) (by omega) (by omega)]
          exact ⟨rfl, rfl⟩
        · rw [Bool.not_eq_true] at h3
          rw [h3]
          exact ⟨rfl, rfl⟩
      · rw [decide_eq_false h2]
        exact ⟨rfl, rfl⟩
    · rw [decide_eq_false h1]
      exact ⟨rfl, rfl⟩
  obtain ⟨r, hr⟩ := Option.isSome_iff_exists.1 h.2
  unfold laws_FnExactCountHalves.f
  rw [h.1, hr, Option.bind_some, Option.bind_some, if_pos rfl, if_pos rfl]

end Go.Proofs.Ytdkpgnbamecifaa.Pure
