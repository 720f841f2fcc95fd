/- The products of Chebyshev numbers and their inverses: the program and the reference say the same; plain lemmas. No condition. -/
import Derived.Test.YtbkokdpginghoaaHandTheta
import Derived.Test.YtbkokdpginghoaaPB
import Derived.Test.YtbkokdpginghoaaQx4
namespace Go.Proofs.Ytbkokdpginghoaa.PT
open Go.RowKit Go.Proofs.Ytbkokdpginghoaa.Q Go.Proofs.YtbkokdpginghoaaW.PrintWords Go.Proofs.YtbkokdpginghoaaW.PrintLast Go.Proofs.Ytbkokdpginghoaa.PA Go.Proofs.Ytbkokdpginghoaa.PB


theorem inv_small : (List.range 98).all (fun p => !isP (p : Int) || (List.range p).all fun b => b == 0 || (Hand.impl_inverse.f 300 (b : Int) (p : Int) == spec_l01Inverse.f 300 (p : Int) (b : Int)) && (spec_l01Inverse.f 300 (p : Int) (b : Int)).isSome) = true := by decide +kernel
theorem prime_small : (List.range 98).all (fun p => !isP (p : Int) || (List.range p).all fun a => a == 0 || (List.range p).all fun b => b == 0 || !(a * b % p == 0)) = true := by decide +kernel
theorem prime_ne {p a b : Int} (hp : isP p = true) (ha : 0 < a ∧ a < p) (hb : 0 < b ∧ b < p) : a * b % p ≠ 0 := by
  have hr := isP_range hp
  obtain ⟨P, rfl⟩ := Int.eq_ofNat_of_zero_le (show 0 ≤ p by omega)
  obtain ⟨A, rfl⟩ := Int.eq_ofNat_of_zero_le (show 0 ≤ a by omega)
  obtain ⟨B, rfl⟩ := Int.eq_ofNat_of_zero_le (show 0 ≤ b by omega)
  have h := List.all_eq_true.1 prime_small P (List.mem_range.2 (by omega))
  rw [hp, Bool.not_true, Bool.false_or] at h
  have h := List.all_eq_true.1 h A (List.mem_range.2 (by omega))
  rw [show (A == 0) = false from beq_eq_false_iff_ne.2 (by omega), Bool.false_or] at h
  have h := List.all_eq_true.1 h B (List.mem_range.2 (by omega))
  rw [show (B == 0) = false from beq_eq_false_iff_ne.2 (by omega), Bool.false_or, Bool.not_eq_true', beq_eq_false_iff_ne] at h
  intro e
  exact h (by exact_mod_cast e)
theorem inv_both {p b : Int} (hp : isP p = true) (hb : 0 < b ∧ b < p) {k : Nat} (hk : 300 ≤ k) : ∃ v, Hand.impl_inverse.f k b p = some v ∧ spec_l01Inverse.f k p b = some v := by
  have hr := isP_range hp
  obtain ⟨P, rfl⟩ := Int.eq_ofNat_of_zero_le (show 0 ≤ p by omega)
  obtain ⟨B, rfl⟩ := Int.eq_ofNat_of_zero_le (show 0 ≤ b by omega)
  have h := List.all_eq_true.1 inv_small P (List.mem_range.2 (by omega))
  rw [hp, Bool.not_true, Bool.false_or] at h
  have h := List.all_eq_true.1 h B (List.mem_range.2 (by omega))
  rw [show (B == 0) = false from beq_eq_false_iff_ne.2 (by omega), Bool.false_or, Bool.and_eq_true, beq_iff_eq] at h
  obtain ⟨h1, h2⟩ := h
  obtain ⟨v, hv⟩ := Option.isSome_iff_exists.1 h2
  rw [hv] at h1
  exact ⟨v, at_rounds (fun k => Hand.impl_inverse.mono _ _ k) hk h1, at_rounds (fun k => spec_l01Inverse.mono _ _ k) hk hv⟩
theorem md_range {p x : Int} (hp : 2 ≤ p ∧ p ≤ 97) : 0 ≤ md p x ∧ md p x < p := by
  unfold md
  have h1 := Int.tmod_lt_of_pos x (show 0 < p by omega)
  have h2 := Int.lt_tmod_of_pos x (show 0 < p by omega)
  rw [wrap_id (by omega) (by omega), Int.tmod_eq_emod_of_nonneg (by omega)]
  exact ⟨Int.emod_nonneg _ (by omega), Int.emod_lt_of_pos _ (by omega)⟩
theorem S_range {p c : Int} (hp : 2 ≤ p ∧ p ≤ 97) : ∀ n : Nat, 0 ≤ (S p c n).2 ∧ (S p c n).2 < p
  | 0 => by show (0 : Int) ≤ 1 ∧ (1 : Int) < p; omega
  | n + 1 => md_range hp
/-- The product of the Chebyshev numbers 1 to n, modulo p. -/
def U (p c : Int) : Nat → Int
  | 0 => 1
  | n + 1 => (U p c n * (S p c (n + 1)).2) % p
theorem U_range {p c : Int} (hp : 2 ≤ p ∧ p ≤ 97) : ∀ n : Nat, 0 ≤ U p c n ∧ U p c n < p
  | 0 => by show (0 : Int) ≤ 1 ∧ (1 : Int) < p; omega
  | n + 1 => ⟨Int.emod_nonneg _ (by omega), Int.emod_lt_of_pos _ (by omega)⟩
theorem mul_range {p a b : Int} (hp : 2 ≤ p ∧ p ≤ 97) (ha : 0 ≤ a ∧ a < p) (hb : 0 ≤ b ∧ b < p) : 0 ≤ a * b ∧ a * b ≤ 9409 := by
  refine ⟨Int.mul_nonneg ha.1 hb.1, ?_⟩
  calc a * b ≤ 97 * 97 := Int.mul_le_mul (by omega) (by omega) hb.1 (by omega)
    _ = 9409 := by decide
theorem mulmod {p a b : Int} (hp : 2 ≤ p ∧ p ≤ 97) (ha : 0 ≤ a ∧ a < p) (hb : 0 ≤ b ∧ b < p) : Int.tmod (wrap64 (a * b)) p = (a * b) % p := by
  have h := mul_range hp ha hb
  rw [wrap_id (by omega) (by omega), Int.tmod_eq_emod_of_nonneg h.1]
theorem mod_range {p x : Int} (hp : 2 ≤ p ∧ p ≤ 97) : 0 ≤ x % p ∧ x % p < p := ⟨Int.emod_nonneg _ (by omega), Int.emod_lt_of_pos _ (by omega)⟩
theorem U_pos {p c : Int} (hp : isP p = true) {z : Nat} (hz : IsZ p c z) : ∀ n : Nat, n < z → 0 < U p c n
  | 0, _ => by show (0 : Int) < 1; omega
  | n + 1, hn => by
    have hr := isP_range hp
    have h1 := U_pos hp hz n (by omega)
    have h2 := hz.2.2.2 (n + 1) (by omega) hn
    have h3 := S_range (c := c) hr (n + 1)
    have h4 := U_range (c := c) hr n
    have h5 := prime_ne hp (a := U p c n) (b := (S p c (n + 1)).2) ⟨h1, h4.2⟩ ⟨by omega, h3.2⟩
    have h6 := (U_range (c := c) hr (n + 1)).1
    show 0 < (U p c n * (S p c (n + 1)).2) % p
    have h7 := mod_range (x := U p c n * (S p c (n + 1)).2) hr
    omega
theorem ml (a b p : Int) : (a % p * b) % p = (a * b) % p := by
  rw [Int.mul_emod, Int.emod_emod_of_dvd _ (Int.dvd_refl p), ← Int.mul_emod]
theorem mr (a b p : Int) : (a * (b % p)) % p = (a * b) % p := by
  rw [Int.mul_emod, Int.emod_emod_of_dvd _ (Int.dvd_refl p), ← Int.mul_emod]
theorem specProd {p c : Int} (hp : 2 ≤ p ∧ p ≤ 97) : ∀ (n k : Nat) (o : Int), n ≤ 1000 → 2 * n + 2 < k → 0 ≤ o ∧ o < p → spec_l05Product.l0 k p c (n : Int) o = some ((o * U p c n) % p) := by
  intro n
  induction n with
  | zero =>
    intro k o hn hk ho
    obtain ⟨k, rfl⟩ : ∃ m, k = m + 1 := ⟨k - 1, by omega⟩
    simp only [spec_l05Product.l0]
    rw [if_neg (by omega)]
    show some o = some ((o * 1) % p)
    rw [Int.mul_one, Int.emod_eq_of_lt ho.1 ho.2]
  | succ n ih =>
    intro k o hn hk ho
    obtain ⟨k, rfl⟩ : ∃ m, k = m + 1 := ⟨k - 1, by omega⟩
    simp only [spec_l05Product.l0]
    rw [if_pos (by omega), specNumberF (by omega) (by omega) (by omega), Option.bind_some, if_neg (by omega), wrap_id (x := ((n + 1 : Nat) : Int) - 1) (by omega) (by omega), show ((n + 1 : Nat) : Int) - 1 = (n : Int) from by omega, mulmod hp ho (S_range hp _), ih k _ (by omega) (by omega) (mod_range hp)]
    show some (_ : Int) = some ((o * ((U p c n * (S p c (n + 1)).2) % p)) % p)
    rw [ml, mr, Int.mul_assoc, Int.mul_comm (S p c (n + 1)).2]
theorem specProdF {p c : Int} (hp : 2 ≤ p ∧ p ≤ 97) (n : Int) (h1 : -1 ≤ n) (h2 : n ≤ 98) {k : Nat} (hk : 300 ≤ k) : spec_l05Product.f k p c n = some (U p c n.toNat) := by
  unfold spec_l05Product.f
  by_cases h : 0 ≤ n
  · obtain ⟨m, rfl⟩ := Int.eq_ofNat_of_zero_le h
    rw [specProd hp m k 1 (by omega) (by omega) (by omega), Int.one_mul, Int.toNat_natCast, Int.emod_eq_of_lt (U_range hp m).1 (U_range hp m).2]
  · obtain ⟨k, rfl⟩ : ∃ m, k = m + 1 := ⟨k - 1, by omega⟩
    simp only [spec_l05Product.l0]
    rw [if_neg (by omega), show n.toNat = 0 from by omega]
    rfl
theorem implProd {p c : Int} (hp : 2 ≤ p ∧ p ≤ 97) {F : List Int} (hF : ∀ j : Nat, j < F.length → F.getD j 0 = (S p c j).2) (n : Nat) (hn : n ≤ 1000) (hl : n < F.length) : ∀ (d i k : Nat), i + d = n → d + 1 < k → Hand.thetaG.l0 k (n : Int) p F (U p c i) ((i : Int) + 1) = some (U p c n) := by
  intro d
  induction d with
  | zero =>
    intro i k hi hk
    obtain ⟨k, rfl⟩ : ∃ m, k = m + 1 := ⟨k - 1, by omega⟩
    simp only [Hand.thetaG.l0]
    rw [if_neg (by omega), show i = n from by omega]
  | succ d ih =>
    intro i k hi hk
    obtain ⟨k, rfl⟩ : ∃ m, k = m + 1 := ⟨k - 1, by omega⟩
    simp only [Hand.thetaG.l0]
    have e : rd F ((i : Int) + 1) = (S p c (i + 1)).2 := by
      rw [← hF (i + 1) (by omega), show (i : Int) + 1 = ((i + 1 : Nat) : Int) from by omega]
      unfold rd
      rw [Int.toNat_natCast]
    rw [if_pos (by omega), if_pos (by omega), if_pos (by omega), if_neg (by omega), e, mulmod hp (U_range hp _) (S_range hp _), wrap_id (x := (i : Int) + 1 + 1) (by omega) (by omega)]
    exact ih (i + 1) k (by omega) (by omega)
theorem implProdF {p c : Int} (hp : 2 ≤ p ∧ p ≤ 97) {F : List Int} (hF : ∀ j : Nat, j < F.length → F.getD j 0 = (S p c j).2) (n : Int) (h1 : -1 ≤ n) (h2 : n ≤ 98) (hl : n < (F.length : Int)) {k : Nat} (hk : 300 ≤ k) : Hand.thetaG.l0 k n p F 1 1 = some (U p c n.toNat) := by
  by_cases h : 0 ≤ n
  · obtain ⟨m, rfl⟩ := Int.eq_ofNat_of_zero_le h
    rw [Int.toNat_natCast]
    exact implProd hp hF m (by omega) (by omega) m 0 k (by omega) (by omega)
  · obtain ⟨k, rfl⟩ : ∃ m, k = m + 1 := ⟨k - 1, by omega⟩
    simp only [Hand.thetaG.l0]
    rw [if_neg (by omega), show n.toNat = 0 from by omega]
    rfl
/-- Admissible labels: the three halves are whole, and none of the indices passes z - 1. -/
theorem adm_halves {z : Nat} {a b d : Int} (hz : z ≤ 99) (hl : labOk z [a, b, d] = true) (h : impl_admissible.f z a b d = some true) :
    ∃ x y v : Int, wrap64 (Int.tdiv (wrap64 ((wrap64 (a + b)) - d)) 2) = x ∧ wrap64 (Int.tdiv (wrap64 ((wrap64 (b + d)) - a)) 2) = y ∧ wrap64 (Int.tdiv (wrap64 ((wrap64 (d + a)) - b)) 2) = v ∧ 0 ≤ x ∧ 0 ≤ y ∧ 0 ≤ v ∧ x + y + v ≤ (z : Int) - 1 := by
  unfold labOk at hl
  simp only [List.all_cons, List.all_nil, Bool.and_true, Bool.and_eq_true, decide_eq_true_eq] at hl
  obtain ⟨ha, hb, hd⟩ := hl
  have wab : wrap64 (a + b) = a + b := wrap_id (by omega) (by omega)
  have wbd : wrap64 (b + d) = b + d := wrap_id (by omega) (by omega)
  have wda : wrap64 (d + a) = d + a := wrap_id (by omega) (by omega)
  have wad : wrap64 (a + d) = a + d := wrap_id (by omega) (by omega)
  have wabd : wrap64 (a + b + d) = a + b + d := wrap_id (by omega) (by omega)
  have wz : wrap64 ((z : Int) - 1) = (z : Int) - 1 := wrap_id (by omega) (by omega)
  have w2z : wrap64 (2 * ((z : Int) - 1)) = 2 * ((z : Int) - 1) := wrap_id (by omega) (by omega)
  unfold impl_admissible.f at h
  rw [wab, wbd, wad, wabd, wz, w2z] at h
  by_cases h1 : Int.tmod (a + b + d) 2 = 0
  · rw [if_pos h1] at h
    rw [Int.tmod_eq_emod_of_nonneg (by omega)] at h1
    by_cases h2 : a ≤ b + d
    · rw [if_pos h2] at h
      by_cases h3 : b ≤ a + d
      · rw [if_pos h3] at h
        by_cases h4 : d ≤ a + b
        · rw [if_pos h4] at h
          have h5 : a + b + d ≤ 2 * ((z : Int) - 1) := of_decide_eq_true (Option.some.inj h)
          rw [wab, wbd, wda, wrap_id (x := a + b - d) (by omega) (by omega), wrap_id (x := b + d - a) (by omega) (by omega), wrap_id (x := d + a - b) (by omega) (by omega),
            Int.tdiv_eq_ediv_of_nonneg (by omega), Int.tdiv_eq_ediv_of_nonneg (by omega), Int.tdiv_eq_ediv_of_nonneg (by omega)]
          refine ⟨(a + b - d) / 2, (b + d - a) / 2, (d + a - b) / 2, wrap_id (by omega) (by omega), wrap_id (by omega) (by omega), wrap_id (by omega) (by omega), by omega, by omega, by omega, by omega⟩
        · rw [if_neg h4] at h; cases h
      · rw [if_neg h3] at h; cases h
    · rw [if_neg h2] at h; cases h
  · rw [if_neg h1] at h; cases h

end Go.Proofs.Ytbkokdpginghoaa.PT
