/- Primes and ranges: plain lemmas. No condition. -/
import Derived.Test.YtgllnmefcikdnaaHandGram
namespace Go.Proofs.Ytgllnmefcikdnaa.PA
open Go.RowKit Go.Proofs.Ytgllnmefcikdnaa.Hand Go.Proofs.YtgllnmefcikdnaaW.PrintWords Go.Proofs.YtgllnmefcikdnaaW.PrintLast
set_option linter.unusedVariables false
set_option linter.unusedSimpArgs false

def isP (p : Int) : Bool := [2, 3, 5, 7, 11, 13, 17, 19, 23, 29, 31, 37, 41, 43, 47, 53, 59, 61, 67, 71, 73, 79, 83, 89, 97].contains p
theorem isP_range {p : Int} (h : isP p = true) : 2 ≤ p ∧ p ≤ 97 := by
  unfold isP at h
  rw [List.contains_iff_mem] at h
  simp only [List.mem_cons, List.not_mem_nil, or_false] at h
  omega
theorem specIn (a lo hi : Int) : spec_l01In.f a lo hi = some (decide (lo ≤ a ∧ a ≤ hi)) := by
  unfold spec_l01In.f
  by_cases h : a ≥ lo
  · rw [if_pos h]
    by_cases h2 : a ≤ hi
    · rw [decide_eq_true h2, decide_eq_true (by omega)]
    · rw [decide_eq_false h2, decide_eq_false (by omega)]
  · rw [if_neg h, decide_eq_false (by omega)]
theorem implIn (a lo hi : Int) : impl_in.f a lo hi = some (decide (lo ≤ a ∧ a ≤ hi)) := by
  unfold impl_in.f
  by_cases h : a ≥ lo
  · rw [if_pos h]
    by_cases h2 : a ≤ hi
    · rw [decide_eq_true h2, decide_eq_true (by omega)]
    · rw [decide_eq_false h2, decide_eq_false (by omega)]
  · rw [if_neg h, decide_eq_false (by omega)]
theorem wrap_id {x : Int} (h0 : -9223372036854775808 ≤ x) (h1 : x ≤ 9223372036854775807) : wrap64 x = x := by
  unfold wrap64
  omega
theorem specPrime_small : (List.range 98).all (fun p => spec_l01Prime.f 300 (p : Int) == some (isP (p : Int))) = true := by decide +kernel
theorem implPrime_small : (List.range 98).all (fun p => impl_isPrime.f 300 (p : Int) == some (isP (p : Int))) = true := by decide +kernel
theorem specPrime_big (p : Int) (hp : 97 < p) : ∀ (d k : Nat) (x : Int), 2 ≤ x → (100 - x = d) → 2 * d + 2 ≤ k → spec_l01Prime.l0 k p x = some false := by
  intro d
  induction d with
  | zero =>
    intro k x h2 hd hk
    obtain ⟨k, rfl⟩ : ∃ m, k = m + 2 := ⟨k - 2, by omega⟩
    simp only [spec_l01Prime.l0, spec_l01Prime.j1]
    rw [decide_eq_false (by omega : ¬ x < 100), specIn, decide_eq_false (by omega : ¬ (2 ≤ p ∧ p ≤ 97))]
    simp
  | succ d ih =>
    intro k x h2 hd hk
    obtain ⟨k, rfl⟩ : ∃ m, k = m + 2 := ⟨k - 2, by omega⟩
    simp only [spec_l01Prime.l0, spec_l01Prime.j1]
    by_cases hx : x < p
    · rw [if_pos hx, decide_eq_true (by omega : x < 100), if_pos rfl, if_neg (by omega)]
      by_cases h0 : Int.tmod p x = 0
      · rw [if_pos h0]
      · rw [if_neg h0, wrap_id (by omega) (by omega)]
        exact ih k (x + 1) (by omega) (by omega) (by omega)
    · rw [if_neg hx, if_neg (by simp), specIn, decide_eq_false (by omega : ¬ (2 ≤ p ∧ p ≤ 97))]
      rfl
theorem isP_out {p : Int} (h : p < 2 ∨ 97 < p) : isP p = false := by
  cases hb : isP p with
  | false => rfl
  | true => have := isP_range hb; omega
theorem specPrime_lo (k : Nat) (p : Int) (h : p < 2) : spec_l01Prime.l0 (k + 2) p 2 = some false := by
  simp only [spec_l01Prime.l0, spec_l01Prime.j1]
  rw [if_neg (by omega), if_neg (by simp), specIn, decide_eq_false (by omega : ¬ (2 ≤ p ∧ p ≤ 97))]
  rfl
theorem specPrime (p : Int) : spec_l01Prime.f 300 p = some (isP p) := by
  by_cases h2 : p < 2
  · rw [isP_out (.inl h2)]
    exact specPrime_lo 298 p h2
  · by_cases h97 : 97 < p
    · rw [isP_out (.inr h97)]
      exact specPrime_big p h97 98 300 2 (by omega) (by omega) (by omega)
    · have h := List.all_eq_true.1 specPrime_small p.toNat (by rw [List.mem_range]; omega)
      rw [Int.toNat_of_nonneg (by omega)] at h
      exact eq_of_beq h
theorem implPrime (p : Int) : impl_isPrime.f 300 p = some (isP p) := by
  by_cases h2 : p < 2 ∨ 97 < p
  · rw [isP_out h2]
    unfold impl_isPrime.f
    rw [implIn, decide_eq_false (by omega : ¬ (2 ≤ p ∧ p ≤ 97))]
    rfl
  · have h := List.all_eq_true.1 implPrime_small p.toNat (by rw [List.mem_range]; omega)
    rw [Int.toNat_of_nonneg (by omega)] at h
    exact eq_of_beq h

/-- The four numbers of a table lie in their ranges. -/
def isT (p c n k : Int) : Bool := isP p && decide (0 ≤ c ∧ c ≤ p - 1) && decide (1 ≤ n ∧ n ≤ 6) && decide (0 ≤ k ∧ k ≤ n) && decide ((n - k) % 2 = 0)
theorem isT_iff {p c n k : Int} (h : isT p c n k = true) : isP p = true ∧ 0 ≤ c ∧ c < p ∧ 1 ≤ n ∧ n ≤ 6 ∧ 0 ≤ k ∧ k ≤ n ∧ (n - k) % 2 = 0 := by
  unfold isT at h
  simp only [Bool.and_eq_true, decide_eq_true_eq] at h
  obtain ⟨⟨⟨⟨h1, h2⟩, h3⟩, h4⟩, h5⟩ := h
  exact ⟨h1, by omega, by omega, by omega, by omega, by omega, by omega, h5⟩
theorem rangeE (n k : Int) : spec_l04Range.f n k 6 = some (decide (1 ≤ n ∧ n ≤ 6) && decide (0 ≤ k ∧ k ≤ n) && decide ((n - k) % 2 = 0)) ∧ impl_openOk.f n k 6 = some (decide (1 ≤ n ∧ n ≤ 6) && decide (0 ≤ k ∧ k ≤ n) && decide ((n - k) % 2 = 0)) := by
  unfold spec_l04Range.f impl_openOk.f
  simp only [specIn, implIn, Option.bind_some]
  by_cases h1 : (1 : Int) ≤ n ∧ n ≤ 6
  · simp only [decide_eq_true h1, if_true]
    by_cases h2 : (0 : Int) ≤ k ∧ k ≤ n
    · simp only [decide_eq_true h2, if_true]
      rw [wrap_id (by omega) (by omega), Int.tmod_eq_emod_of_nonneg (by omega)]
      have e : ((n - k) % 2 == 0) = decide ((n - k) % 2 = 0) := rfl
      rw [e]
      exact ⟨rfl, rfl⟩
    · rw [decide_eq_false h2]
      exact ⟨rfl, rfl⟩
  · rw [decide_eq_false h1]
    exact ⟨rfl, rfl⟩
theorem tableE (p c n k : Int) : spec_l04Two.f 300 p c n k = some (isT p c n k) ∧ impl_tableOk.f 300 p c n k = some (isT p c n k) := by
  unfold spec_l04Two.f impl_tableOk.f spec_l04Numbers.f impl_fieldOk.f isT
  simp only [specPrime, implPrime, Option.bind_some]
  cases hp : isP p with
  | false => exact ⟨rfl, rfl⟩
  | true =>
    have hr := isP_range hp
    simp only [if_true]
    rw [wrap_id (by omega) (by omega)]
    simp only [specIn, implIn, Option.bind_some]
    by_cases h2 : (0 : Int) ≤ c ∧ c ≤ p - 1
    · simp only [decide_eq_true h2, if_true]
      rw [(rangeE n k).1, (rangeE n k).2]
      exact ⟨rfl, rfl⟩
    · rw [decide_eq_false h2]
      exact ⟨rfl, rfl⟩

end Go.Proofs.Ytgllnmefcikdnaa.PA
