/- Primes, Chebyshev numbers and first zeros: the program and the reference say the same; plain lemmas. No condition. -/
import Derived.Test.YtbkokdpginghoaaQx1
import Derived.Test.YtbkokdpginghoaaQx2
namespace Go.Proofs.Ytbkokdpginghoaa.PA
open Go.RowKit Go.Proofs.Ytbkokdpginghoaa.Q Go.Proofs.YtbkokdpginghoaaW.PrintWords Go.Proofs.YtbkokdpginghoaaW.PrintLast

def isP (p : Int) : Bool := [2, 3, 5, 7, 11, 13, 17, 19, 23, 29, 31, 37, 41, 43, 47, 53, 59, 61, 67, 71, 73, 79, 83, 89, 97].contains p
theorem isP_range {p : Int} (h : isP p = true) : 2 ≤ p ∧ p ≤ 97 := by
  unfold isP at h
  rw [List.contains_iff_mem] at h
  simp only [List.mem_cons, List.not_mem_nil, or_false] at h
  omega
theorem specIn (a lo hi : Int) : spec_l01In.f a lo hi = some (decide (lo ≤ a ∧ a ≤ hi)) := by
  unfold spec_l01In.f
  by_cases h : a ≥ lo
  · rw [if_pos h]
    by_cases h2 : a ≤ hi
    · rw [decide_eq_true h2, decide_eq_true (by omega)]
    · rw [decide_eq_false h2, decide_eq_false (by omega)]
  · rw [if_neg h, decide_eq_false (by omega)]
theorem implIn (a lo hi : Int) : impl_in.f a lo hi = some (decide (lo ≤ a ∧ a ≤ hi)) := by
  unfold impl_in.f
  by_cases h : a ≥ lo
  · rw [if_pos h]
    by_cases h2 : a ≤ hi
    · rw [decide_eq_true h2, decide_eq_true (by omega)]
    · rw [decide_eq_false h2, decide_eq_false (by omega)]
  · rw [if_neg h, decide_eq_false (by omega)]
theorem wrap_id {x : Int} (h0 : -9223372036854775808 ≤ x) (h1 : x ≤ 9223372036854775807) : wrap64 x = x := by
  unfold wrap64
  omega
theorem specPrime_small : (List.range 98).all (fun p => spec_l01Prime.f 300 (p : Int) == some (isP (p : Int))) = true := by decide +kernel
theorem implPrime_small : (List.range 98).all (fun p => impl_isPrime.f 300 (p : Int) == some (isP (p : Int))) = true := by decide +kernel
theorem specPrime_big (p : Int) (hp : 97 < p) : ∀ (d k : Nat) (x : Int), 2 ≤ x → (100 - x = d) → 2 * d + 2 ≤ k → spec_l01Prime.l0 k p x = some false := by
  intro d
  induction d with
  | zero =>
    intro k x h2 hd hk
    obtain ⟨k, rfl⟩ : ∃ m, k = m + 2 := ⟨k - 2, by omega⟩
    simp only [spec_l01Prime.l0, spec_l01Prime.j1]
    rw [decide_eq_false (by omega : ¬ x < 100), specIn, decide_eq_false (by omega : ¬ (2 ≤ p ∧ p ≤ 97))]
    simp
  | succ d ih =>
    intro k x h2 hd hk
    obtain ⟨k, rfl⟩ : ∃ m, k = m + 2 := ⟨k - 2, by omega⟩
    simp only [spec_l01Prime.l0, spec_l01Prime.j1]
    by_cases hx : x < p
    · rw [if_pos hx, decide_eq_true (by omega : x < 100), if_pos rfl, if_neg (by omega)]
      by_cases h0 : Int.tmod p x = 0
      · rw [if_pos h0]
      · rw [if_neg h0, wrap_id (by omega) (by omega)]
        exact ih k (x + 1) (by omega) (by omega) (by omega)
    · rw [if_neg hx, if_neg (by simp), specIn, decide_eq_false (by omega : ¬ (2 ≤ p ∧ p ≤ 97))]
      rfl
theorem isP_out {p : Int} (h : p < 2 ∨ 97 < p) : isP p = false := by
  cases hb : isP p with
  | false => rfl
  | true => have := isP_range hb; omega
theorem specPrime_lo (k : Nat) (p : Int) (h : p < 2) : spec_l01Prime.l0 (k + 2) p 2 = some false := by
  simp only [spec_l01Prime.l0, spec_l01Prime.j1]
  rw [if_neg (by omega), if_neg (by simp), specIn, decide_eq_false (by omega : ¬ (2 ≤ p ∧ p ≤ 97))]
  rfl
theorem specPrime (p : Int) : spec_l01Prime.f 300 p = some (isP p) := by
  by_cases h2 : p < 2
  · rw [isP_out (.inl h2)]
    exact specPrime_lo 298 p h2
  · by_cases h97 : 97 < p
    · rw [isP_out (.inr h97)]
      exact specPrime_big p h97 98 300 2 (by omega) (by omega) (by omega)
    · have h := List.all_eq_true.1 specPrime_small p.toNat (by rw [List.mem_range]; omega)
      rw [Int.toNat_of_nonneg (by omega)] at h
      exact eq_of_beq h
theorem implPrime (p : Int) : impl_isPrime.f 300 p = some (isP p) := by
  by_cases h2 : p < 2 ∨ 97 < p
  · rw [isP_out h2]
    unfold impl_isPrime.f
    rw [implIn, decide_eq_false (by omega : ¬ (2 ≤ p ∧ p ≤ 97))]
    rfl
  · have h := List.all_eq_true.1 implPrime_small p.toNat (by rw [List.mem_range]; omega)
    rw [Int.toNat_of_nonneg (by omega)] at h
    exact eq_of_beq h
theorem specPrimeK (p : Int) {k : Nat} (hk : 300 ≤ k) : spec_l01Prime.f k p = some (isP p) := at_rounds (fun k => spec_l01Prime.mono p k) hk (specPrime p)
theorem implPrimeK (p : Int) {k : Nat} (hk : 300 ≤ k) : impl_isPrime.f k p = some (isP p) := at_rounds (fun k => impl_isPrime.mono p k) hk (implPrime p)
theorem getD_app_l (xs ys : List Int) (j : Nat) (h : j < xs.length) : (xs ++ ys).getD j 0 = xs.getD j 0 := by
  rw [List.getD_eq_getElem?_getD, List.getD_eq_getElem?_getD, List.getElem?_append_left h]
theorem getD_app_at (xs : List Int) (v : Int) : (xs ++ [v]).getD xs.length 0 = v := by
  simp [List.getD_eq_getElem?_getD]
def md (p x : Int) : Int := Int.tmod (wrap64 (Int.tmod x p + p)) p
def nxt (p c : Int) (s : Int × Int) : Int × Int := (s.2, md p (wrap64 (wrap64 (c * s.2) - s.1)))
def S (p c : Int) : Nat → Int × Int
  | 0 => (0, 1)
  | n + 1 => nxt p c (S p c n)
theorem md_id {p c : Int} (hp : p ≤ 97) (h0 : 0 ≤ c) (h1 : c < p) : md p c = c := by
  unfold md
  rw [Int.tmod_eq_emod_of_nonneg h0, Int.emod_eq_of_lt h0 h1, wrap_id (by omega) (by omega), Int.tmod_eq_emod_of_nonneg (by omega), Int.add_emod_right, Int.emod_eq_of_lt h0 h1]
theorem S_one {p c : Int} (hp : p ≤ 97) (h0 : 0 ≤ c) (h1 : c < p) : S p c 1 = (1, c) := by
  show nxt p c (0, 1) = (1, c)
  unfold nxt
  simp only [Int.mul_one, Int.sub_zero]
  rw [wrap_id (x := c) (by omega) (by omega), wrap_id (by omega) (by omega), md_id hp h0 h1]
theorem specNumber (p c : Int) (hp : p ≠ 0) (n : Nat) (hn : n ≤ 1000) : ∀ (d j k : Nat), j + d = n → d < k → spec_l05Number.l0 k p c (d : Int) (S p c j).1 (S p c j).2 = some (S p c n).2 := by
  intro d
  induction d with
  | zero =>
    intro j k hj hk
    obtain ⟨k, rfl⟩ : ∃ m, k = m + 1 := ⟨k - 1, by omega⟩
    simp only [spec_l05Number.l0]
    rw [if_neg (by omega), if_neg (by omega), show j = n from by omega]
  | succ d ih =>
    intro j k hj hk
    obtain ⟨k, rfl⟩ : ∃ m, k = m + 1 := ⟨k - 1, by omega⟩
    simp only [spec_l05Number.l0, spec_l01Mod.f]
    rw [if_pos (by omega), if_neg hp, Option.bind_some, wrap_id (by omega) (by omega), show (((d + 1 : Nat) : Int) - 1) = (d : Int) from by omega]
    exact ih (j + 1) k (by omega) (by omega)
theorem implCheb (p c : Int) (hp : p ≠ 0) (n : Nat) (hn : n ≤ 1000) : ∀ (d k : Nat) (xs : List Int), 2 ≤ xs.length → xs.length + d = n + 1 ∨ (d = 0 ∧ n < xs.length) → (∀ j : Nat, j < xs.length → xs.getD j 0 = (S p c j).2) → xs.length ≤ 1002 → d < k →
    ∃ ys, impl_chebyshev.l0 k p c n xs = some ys ∧ n < ys.length ∧ ∀ j : Nat, j < ys.length → ys.getD j 0 = (S p c j).2 := by
  intro d
  induction d with
  | zero =>
    intro k xs h2 hl hx h3 hk
    obtain ⟨k, rfl⟩ : ∃ m, k = m + 1 := ⟨k - 1, by omega⟩
    refine ⟨xs, ?_, by omega, hx⟩
    simp only [impl_chebyshev.l0]
    rw [if_neg (by omega)]
  | succ d ih =>
    intro k xs h2 hl hx h3 hk
    obtain ⟨k, rfl⟩ : ∃ m, k = m + 1 := ⟨k - 1, by omega⟩
    obtain ⟨m, hm⟩ : ∃ m, xs.length = m + 2 := ⟨xs.length - 2, by omega⟩
    have e1 : wrap64 ((xs.length : Int) - 1) = ((m + 1 : Nat) : Int) := by rw [wrap_id (by omega) (by omega)]; omega
    have e2 : wrap64 ((xs.length : Int) - 2) = ((m : Nat) : Int) := by rw [wrap_id (by omega) (by omega)]; omega
    have r1 : rd xs ((m + 1 : Nat) : Int) = (S p c (m + 1)).2 := by unfold rd; rw [Int.toNat_natCast]; exact hx _ (by omega)
    have r2 : rd xs ((m : Nat) : Int) = (S p c (m + 1)).1 := by unfold rd; rw [Int.toNat_natCast]; exact hx _ (by omega)
    simp only [impl_chebyshev.l0, impl_rest.f, e1, e2, r1, r2]
    rw [if_pos (by omega), if_pos (by omega), if_pos (by omega), if_pos (by omega), if_pos (by omega), if_neg hp, Option.bind_some, if_pos (by omega)]
    refine ih k _ (by simp; omega) (.inl (by simp; omega)) ?_ (by simp; omega) (by omega)
    intro j hj
    simp only [List.length_append, List.length_cons, List.length_nil] at hj
    by_cases hlt : j < xs.length
    · rw [getD_app_l _ _ _ hlt]; exact hx j hlt
    · obtain rfl : j = xs.length := by omega
      rw [getD_app_at, hm]
      rfl
theorem specNumberF {p c : Int} (hp : p ≠ 0) {n k : Nat} (hn : n ≤ 1000) (hk : n < k) : spec_l05Number.f k p c (n : Int) = some (S p c n).2 := specNumber p c hp n hn n 0 k (by omega) hk
theorem implChebF {p c : Int} (hp : 2 ≤ p ∧ p ≤ 97) (hc : 0 ≤ c ∧ c ≤ p - 1) {n k : Nat} (hn : n ≤ 1000) (hk : n < k) (hk0 : 0 < k) :
    ∃ ys, impl_chebyshev.f k p c (n : Int) = some ys ∧ n < ys.length ∧ ∀ j : Nat, j < ys.length → ys.getD j 0 = (S p c j).2 := by
  have hone : (1 : Int) % p = 1 := Int.emod_eq_of_lt (by omega) (by omega)
  obtain ⟨ys, hy, hl, hv⟩ := implCheb p c (by omega) n hn (n + 1 - 2) k [1, c] (by simp) (by simp; omega)
    (by
      intro j hj
      match j, hj with
      | 0, _ => rfl
      | 1, _ => rw [S_one hp.2 hc.1 (by omega)]; rfl) (by simp) (by omega)
  refine ⟨ys, ?_, hl, hv⟩
  unfold impl_chebyshev.f
  rw [if_neg (by omega), hone]
  exact hy
/-- The first zero of the Chebyshev numbers. -/
def IsZ (p c : Int) (z : Nat) : Prop := 1 ≤ z ∧ z ≤ 99 ∧ (S p c z).2 = 0 ∧ ∀ j : Nat, 1 ≤ j → j < z → (S p c j).2 ≠ 0
def hasZ (p c : Int) : Nat → Int × Int → Bool
  | 0, _ => false
  | n + 1, s => (nxt p c s).2 == 0 || hasZ p c n (nxt p c s)
theorem hasZ_spec (p c : Int) : ∀ (d j : Nat), hasZ p c d (S p c j) = true → ∃ i, j < i ∧ i ≤ j + d ∧ (S p c i).2 = 0 := by
  intro d
  induction d with
  | zero => intro j h; simp [hasZ] at h
  | succ d ih =>
    intro j h
    simp only [hasZ, Bool.or_eq_true] at h
    rcases h with h | h
    · exact ⟨j + 1, by omega, by omega, eq_of_beq h⟩
    · obtain ⟨i, h1, h2, h3⟩ := ih (j + 1) h
      exact ⟨i, by omega, by omega, h3⟩
theorem zeros : (List.range 98).all (fun p => !isP (p : Int) || (List.range p).all fun c => hasZ (p : Int) (c : Int) 99 (0, 1)) = true := by decide +kernel
theorem least (P : Nat → Prop) [DecidablePred P] : ∀ (n : Nat), (∃ i, 1 ≤ i ∧ i ≤ n ∧ P i) → ∃ z, 1 ≤ z ∧ z ≤ n ∧ P z ∧ ∀ j, 1 ≤ j → j < z → ¬ P j := by
  intro n
  induction n with
  | zero => intro ⟨i, h1, h2, _⟩; omega
  | succ n ih =>
    intro ⟨i, h1, h2, h3⟩
    by_cases h : ∃ i, 1 ≤ i ∧ i ≤ n ∧ P i
    · obtain ⟨z, a, b, c, d⟩ := ih h
      exact ⟨z, a, by omega, c, d⟩
    · have : i = n + 1 := by
        rcases Nat.lt_or_ge i (n + 1) with hl | hl
        · exact absurd ⟨i, h1, by omega, h3⟩ h
        · omega
      subst this
      exact ⟨n + 1, h1, h2, h3, fun j hj1 hj2 hj3 => h ⟨j, hj1, by omega, hj3⟩⟩
theorem zero_ex {p c : Int} (hp : isP p = true) (hc : 0 ≤ c ∧ c ≤ p - 1) : ∃ z, IsZ p c z := by
  have hr := isP_range hp
  have h := List.all_eq_true.1 zeros p.toNat (by rw [List.mem_range]; omega)
  rw [Int.toNat_of_nonneg (by omega), hp, Bool.not_true, Bool.false_or] at h
  have h' := List.all_eq_true.1 h c.toNat (by rw [List.mem_range]; omega)
  rw [Int.toNat_of_nonneg (by omega)] at h'
  obtain ⟨i, h1, h2, h3⟩ := hasZ_spec p c 99 0 h'
  obtain ⟨z, a, b, e, d⟩ := least (fun j => (S p c j).2 = 0) 99 ⟨i, by omega, by omega, h3⟩
  exact ⟨z, a, b, e, d⟩
theorem specZero {p c : Int} (hp : p ≠ 0) {z : Nat} (hz : IsZ p c z) : ∀ (d j k : Nat), j + d = z → 1 ≤ j → 101 + d < k → spec_l05Zero.l0 k p c (j : Int) = some (z : Int) := by
  intro d
  induction d with
  | zero =>
    intro j k hj h1 hk
    obtain ⟨k, rfl⟩ : ∃ m, k = m + 1 := ⟨k - 1, by omega⟩
    obtain rfl : j = z := by omega
    simp only [spec_l05Zero.l0]
    rw [specNumberF hp (by have := hz.2.1; omega) (by have := hz.2.1; omega), Option.bind_some, if_pos hz.2.2.1]
  | succ d ih =>
    intro j k hj h1 hk
    obtain ⟨k, rfl⟩ : ∃ m, k = m + 1 := ⟨k - 1, by omega⟩
    have hb := hz.2.1
    simp only [spec_l05Zero.l0]
    rw [specNumberF hp (by omega) (by omega), Option.bind_some, if_neg (hz.2.2.2 j h1 (by omega)), wrap_id (by omega) (by omega)]
    exact ih (j + 1) k (by omega) (by omega) (by omega)
theorem implZero {p c : Int} (hp : 2 ≤ p ∧ p ≤ 97) (hc : 0 ≤ c ∧ c ≤ p - 1) {z : Nat} (hz : IsZ p c z) : ∀ (d j k : Nat), j + d = z → 1 ≤ j → 101 + d < k → impl_firstZero.l0 k p c (j : Int) = some (z : Int) := by
  intro d
  induction d with
  | zero =>
    intro j k hj h1 hk
    obtain ⟨k, rfl⟩ : ∃ m, k = m + 1 := ⟨k - 1, by omega⟩
    obtain rfl : j = z := by omega
    have hb := hz.2.1
    obtain ⟨ys, hy, hl, hv⟩ := implChebF hp hc (n := j) (k := k) (by omega) (by omega) (by omega)
    simp only [impl_firstZero.l0]
    rw [hy, Option.bind_some, if_pos (by omega), if_pos (by omega), show rd ys (j : Int) = 0 from by unfold rd; rw [Int.toNat_natCast, hv j hl]; exact hz.2.2.1, if_pos rfl]
  | succ d ih =>
    intro j k hj h1 hk
    obtain ⟨k, rfl⟩ : ∃ m, k = m + 1 := ⟨k - 1, by omega⟩
    have hb := hz.2.1
    obtain ⟨ys, hy, hl, hv⟩ := implChebF hp hc (n := j) (k := k) (by omega) (by omega) (by omega)
    simp only [impl_firstZero.l0]
    rw [hy, Option.bind_some, if_pos (by omega), if_pos (by omega), if_neg (show ¬ rd ys (j : Int) = 0 from by unfold rd; rw [Int.toNat_natCast, hv j hl]; exact hz.2.2.2 j h1 (by omega)), wrap_id (by omega) (by omega)]
    exact ih (j + 1) k (by omega) (by omega) (by omega)
theorem specZeroF {p c : Int} (hp : p ≠ 0) {z : Nat} (hz : IsZ p c z) {k : Nat} (hk : 300 ≤ k) : spec_l05Zero.f k p c = some (z : Int) :=
  specZero hp hz (z - 1) 1 k (by have := hz.1; omega) (by omega) (by have := hz.2.1; omega)
theorem implZeroF {p c : Int} (hp : 2 ≤ p ∧ p ≤ 97) (hc : 0 ≤ c ∧ c ≤ p - 1) {z : Nat} (hz : IsZ p c z) {k : Nat} (hk : 300 ≤ k) : impl_firstZero.f k p c = some (z : Int) :=
  implZero hp hc hz (z - 1) 1 k (by have := hz.1; omega) (by omega) (by have := hz.2.1; omega)
/-- What both say of a prime and a loop value. -/
def okPC (p c : Int) : Bool := isP p && decide (0 ≤ c ∧ c ≤ p - 1)
theorem okPC_spec {p c : Int} (h : okPC p c = true) : isP p = true ∧ 0 ≤ c ∧ c ≤ p - 1 := by
  unfold okPC at h
  rw [Bool.and_eq_true, decide_eq_true_iff] at h
  exact h
theorem specCode {p c : Int} {k : Nat} (hk : 300 ≤ k) : spec_l05Code.f k p c = some (if okPC p c = true then 0 else 2) := by
  unfold spec_l05Code.f okPC
  rw [specPrimeK p hk, Option.bind_some]
  cases hp : isP p with
  | false => simp
  | true =>
    have hr := isP_range hp
    rw [wrap_id (by omega) (by omega), specIn]
    by_cases hc : 0 ≤ c ∧ c ≤ p - 1
    · simp [hc]
    · rw [decide_eq_false hc]; simp
theorem implField {p c : Int} {k : Nat} (hk : 300 ≤ k) : impl_fieldOk.f k p c = some (okPC p c) := by
  unfold impl_fieldOk.f okPC
  rw [implPrimeK p hk, Option.bind_some]
  cases hp : isP p with
  | false => simp
  | true =>
    have hr := isP_range hp
    rw [wrap_id (by omega) (by omega), implIn]
    simp

end Go.Proofs.Ytbkokdpginghoaa.PA
