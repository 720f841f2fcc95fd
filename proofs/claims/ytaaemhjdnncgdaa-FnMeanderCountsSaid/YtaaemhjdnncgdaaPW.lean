/- Powers modulo a prime: plain lemmas. No condition. -/
import Derived.Test.YtaaemhjdnncgdaaPA
namespace Go.Proofs.Ytaaemhjdnncgdaa.PW
open Go.RowKit Go.Proofs.Ytaaemhjdnncgdaa.Hand Go.Proofs.YtaaemhjdnncgdaaW.PrintWords Go.Proofs.YtaaemhjdnncgdaaW.PrintLast Go.Proofs.Ytaaemhjdnncgdaa.PA
set_option linter.unusedVariables false
set_option linter.unusedSimpArgs false

/-- Powers as both count them. -/
def pw (p c : Int) : Nat → Int → Int
  | 0, x => x
  | m + 1, x => pw p c m (Int.tmod (x * c) p)
theorem pw_range {p c : Int} (hp : 2 ≤ p) (hc : 0 ≤ c) : ∀ (m : Nat) (x : Int), 0 ≤ x → x < p → 0 ≤ pw p c m x ∧ pw p c m x < p
  | 0, x, h0, h1 => ⟨h0, h1⟩
  | m + 1, x, h0, h1 => by
    have hx : 0 ≤ x * c := Int.mul_nonneg h0 hc
    exact pw_range hp hc m _ (by rw [Int.tmod_eq_emod_of_nonneg hx]; exact Int.emod_nonneg _ (by omega)) (by rw [Int.tmod_eq_emod_of_nonneg hx]; exact Int.emod_lt_of_pos _ (by omega))
theorem mul_small {p c x : Int} (hp : p ≤ 97) (hc : 0 ≤ c) (hcp : c < p) (h0 : 0 ≤ x) (h1 : x < p) : 0 ≤ x * c ∧ x * c ≤ 10000 := by
  constructor
  · exact Int.mul_nonneg h0 hc
  · have h2 : x * c ≤ 97 * c := Int.mul_le_mul_of_nonneg_right (by omega) hc
    omega
theorem specPow {p c : Int} (hp : 2 ≤ p) (hp97 : p ≤ 97) (hc : 0 ≤ c) (hcp : c < p) : ∀ (m k : Nat) (x : Int), m ≤ 100 → m < k → 0 ≤ x → x < p → spec_l02Power.l0 k p c (m : Int) x = some (pw p c m x) := by
  intro m
  induction m with
  | zero =>
    intro k x hm hk h0 h1
    obtain ⟨k, rfl⟩ : ∃ m, k = m + 1 := ⟨k - 1, by omega⟩
    simp only [spec_l02Power.l0]
    rw [if_neg (by omega), pw]
  | succ m ih =>
    intro k x hm hk h0 h1
    obtain ⟨k, rfl⟩ : ∃ m, k = m + 1 := ⟨k - 1, by omega⟩
    have hx := mul_small hp97 hc hcp h0 h1
    simp only [spec_l02Power.l0]
    rw [if_pos (by omega), if_neg (by omega), wrap_id (x := x * c) (by omega) (by omega), wrap_id (by omega) (by omega), show ((m + 1 : Nat) : Int) - 1 = (m : Int) by omega]
    exact ih k _ (by omega) (by omega) (by rw [Int.tmod_eq_emod_of_nonneg hx.1]; exact Int.emod_nonneg _ (by omega)) (by rw [Int.tmod_eq_emod_of_nonneg hx.1]; exact Int.emod_lt_of_pos _ (by omega))
theorem implPow {p c : Int} (hp : 2 ≤ p) (hp97 : p ≤ 97) (hc : 0 ≤ c) (hcp : c < p) (l : Int) (hl : l ≤ 100) : ∀ (m k : Nat) (x i : Int), 0 ≤ i → i + m = l → m < k → 0 ≤ x → x < p → impl_power.l0 k c p x l i = some (pw p c m x) := by
  intro m
  induction m with
  | zero =>
    intro k x i hi him hk h0 h1
    obtain ⟨k, rfl⟩ : ∃ m, k = m + 1 := ⟨k - 1, by omega⟩
    simp only [impl_power.l0]
    rw [if_neg (by omega), pw]
  | succ m ih =>
    intro k x i hi him hk h0 h1
    obtain ⟨k, rfl⟩ : ∃ m, k = m + 1 := ⟨k - 1, by omega⟩
    have hx := mul_small hp97 hc hcp h0 h1
    simp only [impl_power.l0]
    rw [if_pos (by omega), if_neg (by omega), wrap_id (x := x * c) (by omega) (by omega), wrap_id (by omega) (by omega)]
    exact ih k _ (i + 1) (by omega) (by omega) (by omega) (by rw [Int.tmod_eq_emod_of_nonneg hx.1]; exact Int.emod_nonneg _ (by omega)) (by rw [Int.tmod_eq_emod_of_nonneg hx.1]; exact Int.emod_lt_of_pos _ (by omega))

end Go.Proofs.Ytaaemhjdnncgdaa.PW
