/- Primes and ranges: plain lemmas. No condition. -/
import Derived.Test.YtmpdloamgiejhaaHandGram
import Derived.Test.YtmpdloamgiejhaaHandRadOf
namespace Go.Proofs.Ytmpdloamgiejhaa.PA
open Go.RowKit Go.Proofs.Ytmpdloamgiejhaa.Hand Go.Proofs.YtmpdloamgiejhaaW.PrintWords Go.Proofs.YtmpdloamgiejhaaW.PrintLast
set_option linter.unusedVariables false
set_option linter.unusedSimpArgs false

def isP (p : Int) : Bool := [2, 3, 5, 7, 11, 13, 17, 19, 23, 29, 31, 37, 41, 43, 47, 53, 59, 61, 67, 71, 73, 79, 83, 89, 97].contains p
theorem isP_range {p : Int} (h : isP p = true) : 2 ≤ p ∧ p ≤ 97 := by
  unfold isP at h
  rw [List.contains_iff_mem] at h
  simp only [List.mem_cons, List.not_mem_nil, or_false] at h
  omega
theorem specIn (a lo hi : Int) : spec_l01In.f a lo hi = some (decide (lo ≤ a ∧ a ≤ hi)) := by
  unfold spec_l01In.f
  by_cases h : a ≥ lo
  · rw [if_pos h]
    by_cases h2 : a ≤ hi
    · rw [decide_eq_true h2, decide_eq_true (by omega)]
    · rw [decide_eq_false h2, decide_eq_false (by omega)]
  · rw [if_neg h, decide_eq_false (by omega)]
theorem implIn (a lo hi : Int) : impl_in.f a lo hi = some (decide (lo ≤ a ∧ a ≤ hi)) := by
  unfold impl_in.f
  by_cases h : a ≥ lo
  · rw [if_pos h]
    by_cases h2 : a ≤ hi
    · rw [decide_eq_true h2, decide_eq_true (by omega)]
    · rw [decide_eq_false h2, decide_eq_false (by omega)]
  · rw [if_neg h, decide_eq_false (by omega)]
theorem wrap_id {x : Int} (h0 : -9223372036854775808 ≤ x) (h1 : x ≤ 9223372036854775807) : wrap64 x = x := by
  unfold wrap64
  omega
theorem specPrime_small : (List.range 98).all (fun p => spec_l01Prime.f 300 (p : Int) == some (isP (p : Int))) = true := by decide +kernel
theorem implPrime_small : (List.range 98).all (fun p => impl_isPrime.f 300 (p : Int) == some (isP (p : Int))) = true := by decide +kernel
theorem specPrime_big (p : Int) (hp : 97 < p) : ∀ (d k : Nat) (x : Int), 2 ≤ x → (100 - x = d) → 2 * d + 2 ≤ k → spec_l01Prime.l0 k p x = some false := by
  intro d
  induction d with
  | zero =>
    intro k x h2 hd hk
    obtain ⟨k, rfl⟩ : ∃ m, k = m + 2 := ⟨k - 2, by omega⟩
    simp only [spec_l01Prime.l0, spec_l01Prime.j1]
    rw [decide_eq_false (by omega : ¬ x < 100), specIn, decide_eq_false (by omega : ¬ (2 ≤ p ∧ p ≤ 97))]
    simp
  | succ d ih =>
    intro k x h2 hd hk
    obtain ⟨k, rfl⟩ : ∃ m, k = m + 2 := ⟨k - 2, by omega⟩
    simp only [spec_l01Prime.l0, spec_l01Prime.j1]
    by_cases hx : x < p
    · rw [if_pos hx, decide_eq_true (by omega : x < 100), if_pos rfl, if_neg (by omega)]
      by_cases h0 : Int.tmod p x = 0
      · rw [if_pos h0]
      · rw [if_neg h0, wrap_id (by omega) (by omega)]
        exact ih k (x + 1) (by omega) (by omega) (by omega)
    · rw [if_neg hx, if_neg (by simp), specIn, decide_eq_false (by omega : ¬ (2 ≤ p ∧ p ≤ 97))]
      rfl
theorem isP_out {p : Int} (h : p < 2 ∨ 97 < p) : isP p = false := by
  cases hb : isP p with
  | false => rfl
  | true => have := isP_range hb; omega
theorem specPrime_lo (k : Nat) (p : Int) (h : p < 2) : spec_l01Prime.l0 (k + 2) p 2 = some false := by
  simp only [spec_l01Prime.l0, spec_l01Prime.j1]
  rw [if_neg (by omega), if_neg (by simp), specIn, decide_eq_false (by omega : ¬ (2 ≤ p ∧ p ≤ 97))]
  rfl
theorem specPrime (p : Int) : spec_l01Prime.f 300 p = some (isP p) := by
  by_cases h2 : p < 2
  · rw [isP_out (.inl h2)]
    exact specPrime_lo 298 p h2
  · by_cases h97 : 97 < p
    · rw [isP_out (.inr h97)]
      exact specPrime_big p h97 98 300 2 (by omega) (by omega) (by omega)
    · have h := List.all_eq_true.1 specPrime_small p.toNat (by rw [List.mem_range]; omega)
      rw [Int.toNat_of_nonneg (by omega)] at h
      exact eq_of_beq h
theorem implPrime (p : Int) : impl_isPrime.f 300 p = some (isP p) := by
  by_cases h2 : p < 2 ∨ 97 < p
  · rw [isP_out h2]
    unfold impl_isPrime.f
    rw [implIn, decide_eq_false (by omega : ¬ (2 ≤ p ∧ p ≤ 97))]
    rfl
  · have h := List.all_eq_true.1 implPrime_small p.toNat (by rw [List.mem_range]; omega)
    rw [Int.toNat_of_nonneg (by omega)] at h
    exact eq_of_beq h

/-- The four numbers of a table lie in their ranges. -/
def isT (p c n k : Int) : Bool := isP p && decide (0 ≤ c ∧ c ≤ p - 1) && decide (1 ≤ n ∧ n ≤ 6) && decide (0 ≤ k ∧ k ≤ n) && decide ((n - k) % 2 = 0)
theorem isT_iff {p c n k : Int} (h : isT p c n k = true) : isP p = true ∧ 0 ≤ c ∧ c < p ∧ 1 ≤ n ∧ n ≤ 6 ∧ 0 ≤ k ∧ k ≤ n ∧ (n - k) % 2 = 0 := by
  unfold isT at h
  simp only [Bool.and_eq_true, decide_eq_true_eq] at h
  obtain ⟨⟨⟨⟨h1, h2⟩, h3⟩, h4⟩, h5⟩ := h
  exact ⟨h1, by omega, by omega, by omega, by omega, by omega, by omega, h5⟩
theorem rangeE (n k : Int) : spec_l04Range.f n k 6 = some (decide (1 ≤ n ∧ n ≤ 6) && decide (0 ≤ k ∧ k ≤ n) && decide ((n - k) % 2 = 0)) ∧ impl_openOk.f n k 6 = some (decide (1 ≤ n ∧ n ≤ 6) && decide (0 ≤ k ∧ k ≤ n) && decide ((n - k) % 2 = 0)) := by
  unfold spec_l04Range.f impl_openOk.f
  simp only [specIn, implIn, Option.bind_some]
  by_cases h1 : (1 : Int) ≤ n ∧ n ≤ 6
  · simp only [decide_eq_true h1, if_true]
    by_cases h2 : (0 : Int) ≤ k ∧ k ≤ n
    · simp only [decide_eq_true h2, if_true]
      rw [wrap_id (by omega) (by omega), Int.tmod_eq_emod_of_nonneg (by omega)]
      have e : ((n - k) % 2 == 0) = decide ((n - k) % 2 = 0) := rfl
      rw [e]
      exact ⟨rfl, rfl⟩
    · rw [decide_eq_false h2]
      exact ⟨rfl, rfl⟩
  · rw [decide_eq_false h1]
    exact ⟨rfl, rfl⟩
theorem tableE (p c n k : Int) : spec_l04Two.f 300 p c n k = some (isT p c n k) ∧ impl_tableOk.f 300 p c n k = some (isT p c n k) := by
  unfold spec_l04Two.f impl_tableOk.f spec_l04Numbers.f impl_fieldOk.f isT
  simp only [specPrime, implPrime, Option.bind_some]
  cases hp : isP p with
  | false => exact ⟨rfl, rfl⟩
  | true =>
    have hr := isP_range hp
    simp only [if_true]
    rw [wrap_id (by omega) (by omega)]
    simp only [specIn, implIn, Option.bind_some]
    by_cases h2 : (0 : Int) ≤ c ∧ c ≤ p - 1
    · simp only [decide_eq_true h2, if_true]
      rw [(rangeE n k).1, (rangeE n k).2]
      exact ⟨rfl, rfl⟩
    · rw [decide_eq_false h2]
      exact ⟨rfl, rfl⟩

end Go.Proofs.Ytmpdloamgiejhaa.PA
namespace Go.Proofs.Ytmpdloamgiejhaa.PE
open Go.RowKit Go.Proofs.Ytmpdloamgiejhaa.Hand Go.Proofs.YtmpdloamgiejhaaW.PrintWords Go.Proofs.YtmpdloamgiejhaaW.PrintLast Go.Proofs.Ytmpdloamgiejhaa.PA
set_option linter.unusedVariables false
set_option linter.unusedSimpArgs false

/-- All entries lie in 0 to p - 1. -/
def Rg (p : Int) (L : List (List Int)) : Prop := ∀ j i, 0 ≤ ent L j i ∧ ent L j i < p
/-- m rows of n entries. -/
def Dm (n m : Nat) (L : List (List Int)) : Prop := L.length = m ∧ ∀ j, j < m → (L.getD j []).length = n
theorem tmod_range {p : Int} (h2 : 2 ≤ p) (x : Int) : -p < Int.tmod x p ∧ Int.tmod x p < p := by
  constructor
  · have := Int.lt_tmod_of_pos x (show 0 < p by omega)
    omega
  · exact Int.tmod_lt_of_pos x (show 0 < p by omega)
theorem md_emod {p : Int} (h2 : 2 ≤ p) (h1 : p ≤ 97) (x : Int) : md p x = x % p := by
  have h := tmod_range h2 x
  unfold md
  rw [wrap_id (by omega) (by omega), Int.tmod_eq_emod_of_nonneg (by omega), Int.tmod_eq_emod]
  split
  · rw [Int.natCast_zero, Int.sub_zero, Int.add_emod, Int.emod_self, Int.add_zero, Int.emod_emod, Int.emod_emod]
  · rw [show ((p.natAbs : Int)) = p by omega, Int.sub_add_cancel, Int.emod_emod]
theorem md_range {p : Int} (h2 : 2 ≤ p) (h1 : p ≤ 97) (x : Int) : 0 ≤ md p x ∧ md p x < p := by
  rw [md_emod h2 h1]
  exact ⟨Int.emod_nonneg _ (by omega), Int.emod_lt_of_pos _ (by omega)⟩
theorem md_id {p : Int} (h2 : 2 ≤ p) (h1 : p ≤ 97) {x : Int} (h0 : 0 ≤ x) (hx : x < p) : md p x = x := by
  rw [md_emod h2 h1, Int.emod_eq_of_lt h0 hx]
theorem mul_rg {p a b : Int} (h1 : p ≤ 97) (ha : 0 ≤ a) (ha2 : a < p) (hb : 0 ≤ b) (hb2 : b < p) : 0 ≤ a * b ∧ a * b ≤ 10000 := by
  constructor
  · exact Int.mul_nonneg ha hb
  · have h3 : a * b ≤ 97 * b := Int.mul_le_mul_of_nonneg_right (by omega) hb
    omega
theorem ent_set (L : List (List Int)) (j : Nat) (r : List Int) (hj : j < L.length) (k i : Nat) : ent (L.set j r) k i = if j = k then r.getD i 0 else ent L k i := by
  unfold ent
  rw [getD_set _ _ _ _ _ hj]
  split <;> rfl
theorem ent_swp (L : List (List Int)) (j k : Nat) (hj : j < L.length) (hk : k < L.length) (l i : Nat) : ent (swp L j k) l i = ent L (sw j k l) i := by
  unfold ent; rw [swp_row L j k hj hk]
theorem swp_self (L : List (List Int)) (j : Nat) (hj : j < L.length) : swp L j j = L := by
  unfold swp
  apply List.ext_getElem?
  intro i
  rw [List.getElem?_set, List.getElem?_set]
  by_cases e : j = i
  · subst e
    simp [hj, List.getD_eq_getElem?_getD]
  · rw [if_neg e, if_neg e]
theorem swp_comm (L : List (List Int)) (j k : Nat) : swp L j k = swp L k j := by
  by_cases e : j = k
  · rw [e]
  · unfold swp; rw [List.set_comm _ _ e]
theorem tab_ext {n m : Nat} {L L' : List (List Int)} (h : Dm n m L) (h' : Dm n m L') (he : ∀ j i, j < m → i < n → ent L j i = ent L' j i) : L = L' := by
  apply List.ext_getElem
  · rw [h.1, h'.1]
  · intro j h1 h2
    have hj : j < m := by rw [← h.1]; exact h1
    have r1 := h.2 j hj
    have r2 := h'.2 j hj
    have g1 : L.getD j [] = L[j] := by rw [List.getD_eq_getElem?_getD, List.getElem?_eq_getElem h1]; rfl
    have g2 : L'.getD j [] = L'[j] := by rw [List.getD_eq_getElem?_getD, List.getElem?_eq_getElem h2]; rfl
    rw [g1] at r1
    rw [g2] at r2
    apply List.ext_getElem
    · rw [r1, r2]
    · intro i h3 h4
      have := he j i hj (by omega)
      unfold ent at this
      rw [g1, g2, List.getD_eq_getElem?_getD, List.getD_eq_getElem?_getD, List.getElem?_eq_getElem h3, List.getElem?_eq_getElem h4] at this
      exact this
theorem Dm.put {n m : Nat} {L : List (List Int)} (h : Dm n m L) (j i : Nat) (v : Int) (hj : j < m) : Dm n m (put L j i v) := by
  refine ⟨by rw [put_len]; exact h.1, fun k hk => ?_⟩
  rw [put_row L j i v (by rw [h.1]; exact hj)]
  split
  · rw [List.length_set]; exact h.2 j hj
  · exact h.2 k hk
theorem Dm.set {n m : Nat} {L : List (List Int)} (h : Dm n m L) (j : Nat) (r : List Int) (hj : j < m) (hr : r.length = n) : Dm n m (L.set j r) := by
  refine ⟨by rw [List.length_set]; exact h.1, fun k hk => ?_⟩
  rw [getD_set _ _ _ _ _ (by rw [h.1]; exact hj)]
  split
  · exact hr
  · exact h.2 k hk
theorem Dm.swp {n m : Nat} {L : List (List Int)} (h : Dm n m L) {j k : Nat} (hj : j < m) (hk : k < m) : Dm n m (swp L j k) := by
  refine ⟨by rw [swp_len]; exact h.1, fun l hl => ?_⟩
  rw [swp_row L j k (by rw [h.1]; exact hj) (by rw [h.1]; exact hk)]
  exact h.2 _ (sw_lt hj hk hl)
theorem Rg.swp {n m : Nat} {p : Int} {L : List (List Int)} (h : Rg p L) (hd : Dm n m L) {j k : Nat} (hj : j < m) (hk : k < m) : Rg p (swp L j k) := by
  intro l i
  rw [ent_swp L j k (by rw [hd.1]; exact hj) (by rw [hd.1]; exact hk)]
  exact h _ _
/-- An entry of a row less f times another. -/
def el (p f : Int) (L : List (List Int)) (i r k : Nat) : Int := md p (wrap64 (ent L i k - wrap64 (f * ent L r k)))
theorem nr_ent (p f : Int) (L : List (List Int)) (i r m k : Nat) : (nr p f L i r m).getD k 0 = if k < m then el p f L i r k else 0 := by
  unfold nr
  rw [List.getD_eq_getElem?_getD]
  by_cases h : k < m
  · rw [if_pos h]; simp [h, el]
  · rw [if_neg h, List.getElem?_eq_none (by simp; omega)]; rfl
theorem el_emod {p f : Int} {L : List (List Int)} (h2 : 2 ≤ p) (h1 : p ≤ 97) (hL : Rg p L) (hf : 0 ≤ f) (hf2 : f < p) (i r k : Nat) : el p f L i r k = (ent L i k - f * ent L r k) % p := by
  have a := hL i k
  have b := mul_rg h1 hf hf2 (hL r k).1 (hL r k).2
  unfold el
  rw [wrap_id (x := f * ent L r k) (by omega) (by omega), wrap_id (by omega) (by omega), md_emod h2 h1]
theorem fc_emod {p v : Int} {L : List (List Int)} (h2 : 2 ≤ p) (h1 : p ≤ 97) (hL : Rg p L) (hv : 0 ≤ v) (hv2 : v < p) (i c : Nat) : fc p v L i c = (ent L i c * v) % p := by
  have b := mul_rg h1 (hL i c).1 (hL i c).2 hv hv2
  unfold fc
  rw [wrap_id (by omega) (by omega), Int.tmod_eq_emod_of_nonneg (by omega)]
theorem rest_md {p : Int} (h2 : 2 ≤ p) (x : Int) : impl_rest.f x p = some (md p x) := by
  unfold impl_rest.f md
  rw [if_neg (by omega)]
/-! #### the program's row operation is the reference's -/
theorem dt2_go {n : Nat} {p f : Int} {c r : Nat} {L : List (List Int)} (h2 : 2 ≤ p) (hD : Dm n n L) (hr : r < n) (hc : c < n) (hrc : r ≠ c) : ∀ (d i : Nat) (L' : List (List Int)), i + d = n → Dm n n L' → (∀ j k, ent L' j k = if j = r ∧ k < i then el p f L r c k else ent L j k) →
    dt2 p c r f d i L' = some (L.set r (nr p f L r c n)) := by
  intro d
  induction d with
  | zero =>
    intro i L' hi hD' he
    rw [dt2]
    congr 1
    refine tab_ext hD' (hD.set r _ hr (nr_len ..)) fun j k hj hk => ?_
    rw [he, ent_set _ _ _ (by rw [hD.1]; exact hr), nr_ent]
    by_cases e : j = r
    · rw [if_pos ⟨e, by omega⟩, if_pos e.symm, if_pos hk]
    · rw [if_neg (fun h => e h.1), if_neg (fun h => e h.symm)]
  | succ d ih =>
    intro i L' hi hD' he
    have a1 : ent L' r i = ent L r i := by rw [he, if_neg (by omega)]
    have a2 : ent L' c i = ent L c i := by rw [he, if_neg (fun h => hrc h.1.symm)]
    rw [dt2, rest_md h2, Option.bind_some, a1, a2]
    refine ih (i + 1) _ (by omega) (hD'.put r i _ hr) fun j k => ?_
    rw [put_ent _ _ _ _ (by rw [hD'.1]; exact hr) (by rw [hD'.2 r hr]; omega), he j k]
    by_cases e : r = j
    · by_cases e2 : i = k
      · rw [if_pos ⟨e, e2⟩, if_pos ⟨e.symm, by omega⟩, ← e2]
        rfl
      · rw [if_neg (fun h => e2 h.2)]
        by_cases e3 : k < i
        · rw [if_pos ⟨e.symm, e3⟩, if_pos ⟨e.symm, by omega⟩]
        · rw [if_neg (fun h => e3 h.2), if_neg (fun h => by omega)]
    · rw [if_neg (fun h => e h.1), if_neg (fun h => e h.1.symm), if_neg (fun h => e h.1.symm)]
theorem dt2_spec {n : Nat} {p f : Int} {c r : Nat} {L : List (List Int)} (h2 : 2 ≤ p) (hD : Dm n n L) (hr : r < n) (hc : c < n) (hrc : r ≠ c) : dt2 p c r f n 0 L = some (L.set r (nr p f L r c n)) :=
  dt2_go h2 hD hr hc hrc n 0 L (by omega) hD fun j k => by rw [if_neg (by omega)]
theorem Rg.set {n m : Nat} {p f : Int} {L : List (List Int)} (h2 : 2 ≤ p) (h1 : p ≤ 97) (h : Rg p L) (hD : Dm n m L) {i r : Nat} (hi : i < m) : Rg p (L.set i (nr p f L i r n)) := by
  intro j k
  rw [ent_set _ _ _ (by rw [hD.1]; exact hi), nr_ent]
  split
  · split
    · exact md_range h2 h1 _
    · omega
  · exact h j k
theorem nr_zero {n m : Nat} {p : Int} {L : List (List Int)} (h2 : 2 ≤ p) (h1 : p ≤ 97) (h : Rg p L) (hD : Dm n m L) {i r : Nat} (hi : i < m) : L.set i (nr p 0 L i r n) = L := by
  refine tab_ext (hD.set i _ hi (nr_len ..)) hD fun j k hj hk => ?_
  rw [ent_set _ _ _ (by rw [hD.1]; exact hi), nr_ent]
  by_cases e : i = j
  · subst e
    rw [if_pos rfl, if_pos hk, el_emod h2 h1 h (by omega) (by omega), Int.zero_mul, Int.sub_zero, Int.emod_eq_of_lt (h i k).1 (h i k).2]
  · rw [if_neg e]
theorem dt1_spec {n : Nat} {p v : Int} {c : Nat} (h2 : 2 ≤ p) (h1 : p ≤ 97) (hc : c < n) : ∀ (d r : Nat) (L : List (List Int)), r + d = n → c < r → Dm n n L → Rg p L → dt1 p v c n d r L = some (e1 p v c n c d r L) ∧ Dm n n (e1 p v c n c d r L) ∧ Rg p (e1 p v c n c d r L) := by
  intro d
  induction d with
  | zero => intro r L hr hcr hD hR; exact ⟨rfl, hD, hR⟩
  | succ d ih =>
    intro r L hr hcr hD hR
    have hrn : r < n := by omega
    have e : (if fc p v L r c = 0 then L else L.set r (nr p (fc p v L r c) L r c n)) = L.set r (nr p (fc p v L r c) L r c n) := by
      split
      · rename_i h0; rw [h0, nr_zero h2 h1 hR hD hrn]
      · rfl
    have hn := ih (r + 1) (L.set r (nr p (fc p v L r c) L r c n)) (by omega) (by omega) (hD.set r _ hrn (nr_len ..)) (hR.set h2 h1 hD hrn)
    rw [dt1, if_neg (show ¬ p = 0 by omega), dt2_spec h2 hD hrn hc (by omega), Option.bind_some, e1, e]
    exact hn
theorem e1_inv {n m : Nat} {p v : Int} {c r : Nat} (h2 : 2 ≤ p) (h1 : p ≤ 97) : ∀ (d i : Nat) (L : List (List Int)), i + d = m → Dm n m L → Rg p L → Dm n m (e1 p v c n r d i L) ∧ Rg p (e1 p v c n r d i L) := by
  intro d
  induction d with
  | zero => intro i L _ hD hR; exact ⟨hD, hR⟩
  | succ d ih =>
    intro i L hi hD hR
    rw [e1]
    have him : i < m := by omega
    split
    · exact ih (i + 1) L (by omega) hD hR
    · exact ih (i + 1) _ (by omega) (hD.set i _ him (nr_len ..)) (hR.set h2 h1 hD him)
/-! #### inverses -/
theorem up_f {α : Type} {f : Nat → Option α} (hm : ∀ k, LeO (f k) (f (k + 1))) {r : α} {k : Nat} (h : f k = some r) : ∀ d, f (k + d) = some r := by
  intro d
  induction d with
  | zero => exact h
  | succ d ih => exact hm (k + d) r ih
def invB (p x : Int) : Bool := match spec_l01Inverse.f 200 p x, impl_inverse.f 200 x p with
  | some a, some b => a == b && decide (0 ≤ a ∧ a < p) && ((x * a) % p == 1)
  | _, _ => false
def primes : List Int := [2, 3, 5, 7, 11, 13, 17, 19, 23, 29, 31, 37, 41, 43, 47, 53, 59, 61, 67, 71, 73, 79, 83, 89, 97]
theorem inv_small : (primes.all fun p => (List.range 97).all fun x => decide (x = 0) || decide (p ≤ (x : Int)) || invB p (x : Int)) = true := by decide +kernel
theorem inv_ok {p x : Int} (hp : isP p = true) (h0 : 1 ≤ x) (hx : x < p) : spec_l01Inverse.f 3000 p x = some (iv1 p x) ∧ impl_inverse.f 3000 x p = some (iv1 p x) ∧ 0 ≤ iv1 p x ∧ iv1 p x < p ∧ (x * iv1 p x) % p = 1 := by
  have hr := isP_range hp
  have hm : p ∈ primes := by
    unfold isP at hp
    exact List.contains_iff_mem.1 hp
  have h := List.all_eq_true.1 (List.all_eq_true.1 inv_small p hm) x.toNat (by rw [List.mem_range]; omega)
  rw [Int.toNat_of_nonneg (by omega), decide_eq_false (show ¬ x.toNat = 0 by omega), decide_eq_false (show ¬ p ≤ x by omega), Bool.false_or, Bool.false_or] at h
  unfold invB at h
  split at h
  · rename_i a b ha hb
    simp only [Bool.and_eq_true, beq_iff_eq, decide_eq_true_eq] at h
    obtain ⟨⟨rfl, h2, h3⟩, h4⟩ := h
    have e1 := up_f (f := fun k => spec_l01Inverse.f k p x) (spec_l01Inverse.mono p x) ha 2800
    have e2 := up_f (f := fun k => impl_inverse.f k x p) (impl_inverse.mono x p) hb 2800
    have e3 : iv1 p x = a := by
      unfold iv1
      rw [show spec_l01Inverse.f 3000 p x = some a from e1]; rfl
    rw [e3]
    exact ⟨e1, e2, h2, h3, h4⟩
  · cases h
theorem iv2_eq {p x : Int} (hp : isP p = true) (h0 : 1 ≤ x) (hx : x < p) : iv2 p x = iv1 p x := by
  have := (inv_ok hp h0 hx).2.1
  unfold iv2
  rw [this]; rfl
/-! #### the determinants -/
theorem md_zero {p : Int} (h2 : 2 ≤ p) (h1 : p ≤ 97) : md p 0 = 0 := md_id h2 h1 (by omega) (by omega)
theorem e0_zero {p : Int} (h2 : 2 ≤ p) (h1 : p ≤ 97) (iv : Int → Int) (n : Nat) : ∀ (d c : Nat) (L : List (List Int)) (r : Nat), (e0 p iv n d c L 0 r).1 = 0 := by
  intro d
  induction d with
  | zero => intro c L r; exact md_zero h2 h1
  | succ d ih =>
    intro c L r
    rw [e0]
    cases ixg L c (n - r) r with
    | none => exact ih _ _ _
    | some k =>
      have e : md p (wrap64 ((if k = r then (0 : Int) else wrap64 (-0)) * ent (if k = r then L else swp L k r) r c)) = 0 := by
        rw [show (if k = r then (0 : Int) else wrap64 (-0)) = 0 by split; rfl; exact wrap_id (by omega) (by omega), Int.zero_mul, wrap_id (by omega) (by omega), md_zero h2 h1]
      simp only [e]
      exact ih _ _ _
theorem dt0_spec {p : Int} {n : Nat} (hp : isP p = true) (hn : n ≤ 100) : ∀ (d c : Nat) (L : List (List Int)) (out : Int), c + d = n → Dm n n L → Rg p L → 0 ≤ out → out < p → dt0 3000 p n d c L out = some (e0 p (iv1 p) n d c L out c).1 := by
  obtain ⟨h2, h1⟩ := isP_range hp
  intro d
  induction d with
  | zero => intro c L out _ _ _ h0 h3; rw [dt0, e0, md_id h2 h1 h0 h3]
  | succ d ih =>
    intro c L out hc hD hR h0 h3
    rw [dt0, e0, hD.1]
    cases hk : ixg L c (n - c) c with
    | none => simp only; rw [e0_zero h2 h1]
    | some k =>
      obtain ⟨k1, k2, k3⟩ := ixg_some hk
      have hkn : k < n := by omega
      have hcn : c < n := by omega
      simp only
      rw [if_neg (show ¬ p = 0 by omega), swp_comm L c k]
      obtain ⟨L1, hL1⟩ : ∃ L1, (if k = c then L else swp L k c) = L1 := ⟨_, rfl⟩
      have hD1 : Dm n n L1 := by rw [← hL1]; split; exact hD; exact hD.swp hkn hcn
      have hR1 : Rg p L1 := by rw [← hL1]; split; exact hR; exact hR.swp hD hkn hcn
      have hx : ent L1 c c ≠ 0 := by
        rw [← hL1]
        split
        · rename_i e; rw [← e] at k3 ⊢; exact k3
        · rename_i e
          rw [ent_swp L k c (by rw [hD.1]; exact hkn) (by rw [hD.1]; exact hcn)]
          rw [show sw k c c = k by unfold sw; rw [if_neg (fun e2 => e e2.symm), if_pos rfl]]
          exact k3
      have hxr := hR1 c c
      have hinv := inv_ok hp (show 1 ≤ ent L1 c c by omega) hxr.2
      have hd1 := dt1_spec (v := iv1 p (ent L1 c c)) h2 h1 hcn (n - (c + 1)) (c + 1) L1 (by omega) (by omega) hD1 hR1
      rw [hL1]
      have ho : (if k = c then some out else impl_rest.f (wrap64 (-out)) p) = some (if k = c then out else md p (wrap64 (-out))) := by
        split
        · rfl
        · exact rest_md h2 _
      rw [ho, Option.bind_some, hinv.2.1, Option.bind_some, hd1.1, Option.bind_some]
      have hm : Int.tmod (wrap64 ((if k = c then out else md p (wrap64 (-out))) * ent L1 c c)) p = md p (wrap64 ((if k = c then out else wrap64 (-out)) * ent L1 c c)) := by
        split
        · have b := mul_rg h1 h0 h3 hxr.1 hxr.2
          rw [md_emod h2 h1, wrap_id (by omega) (by omega), Int.tmod_eq_emod_of_nonneg (by omega)]
        · have b := mul_rg h1 h0 h3 hxr.1 hxr.2
          have m1 := md_range h2 h1 (wrap64 (-out))
          have b2 := mul_rg h1 m1.1 m1.2 hxr.1 hxr.2
          rw [wrap_id (x := md p (wrap64 (-out)) * _) (by omega) (by omega), Int.tmod_eq_emod_of_nonneg (by omega), md_emod h2 h1, md_emod h2 h1, wrap_id (x := -out) (by omega) (by omega), wrap_id (x := -out * _) (by rw [Int.neg_mul]; omega) (by rw [Int.neg_mul]; omega), Int.mul_emod, Int.emod_emod, ← Int.mul_emod]
      rw [hm]
      have mr := md_range h2 h1 (wrap64 ((if k = c then out else wrap64 (-out)) * ent L1 c c))
      exact ih (c + 1) _ _ (by omega) hd1.2.1 hd1.2.2 mr.1 mr.2
/-! #### the ranks -/
theorem ent_out {n m : Nat} {L : List (List Int)} (h : Dm n m L) {j k : Nat} (hjk : m ≤ j ∨ n ≤ k) : ent L j k = 0 := by
  unfold ent
  by_cases hj : j < m
  · rw [List.getD_eq_getElem?_getD (i := k), List.getElem?_eq_none (by rw [h.2 j hj]; omega)]; rfl
  · rw [List.getD_eq_getElem?_getD (i := j), List.getElem?_eq_none (by rw [h.1]; omega)]; rfl
theorem Rg.of {n m : Nat} {p : Int} {L : List (List Int)} (h2 : 2 ≤ p) (hD : Dm n m L) (h : ∀ j k, j < m → k < n → 0 ≤ ent L j k ∧ ent L j k < p) : Rg p L := by
  intro j k
  by_cases hj : j < m
  · by_cases hk : k < n
    · exact h j k hj hk
    · rw [ent_out hD (Or.inr (by omega))]; omega
  · rw [ent_out hD (Or.inl (by omega))]; omega
theorem ixg_congr {L L' : List (List Int)} {c : Nat} : ∀ (d r : Nat), (∀ j, r ≤ j → ent L j c = ent L' j c) → ixg L c d r = ixg L' c d r := by
  intro d
  induction d with
  | zero => intro r _; rfl
  | succ d ih =>
    intro r h
    rw [ixg, ixg, h r (Nat.le_refl _), ih (r + 1) fun j hj => h j (by omega)]
theorem g2_go {n m : Nat} {p v : Int} {r : Nat} {L : List (List Int)} (hr : r < m) : ∀ (d i : Nat) (L' : List (List Int)), i + d = n → Dm n m L' → (∀ j k, ent L' j k = if j = r ∧ k < i then Int.tmod (wrap64 (ent L r k * v)) p else ent L j k) →
    Dm n m (g2 p v r d i L') ∧ ∀ j k, ent (g2 p v r d i L') j k = if j = r ∧ k < n then Int.tmod (wrap64 (ent L r k * v)) p else ent L j k := by
  intro d
  induction d with
  | zero =>
    intro i L' hi hD he
    obtain rfl : i = n := by omega
    exact ⟨hD, he⟩
  | succ d ih =>
    intro i L' hi hD he
    rw [g2]
    refine ih (i + 1) _ (by omega) (hD.put r i _ hr) fun j k => ?_
    rw [show ent L' r i = ent L r i by rw [he, if_neg (by omega)], put_ent _ _ _ _ (by rw [hD.1]; exact hr) (by rw [hD.2 r hr]; omega), he j k]
    by_cases e : r = j
    · by_cases e2 : i = k
      · rw [if_pos ⟨e, e2⟩, if_pos ⟨e.symm, by omega⟩, ← e2]
      · rw [if_neg (fun h => e2 h.2)]
        by_cases e3 : k < i
        · rw [if_pos ⟨e.symm, e3⟩, if_pos ⟨e.symm, by omega⟩]
        · rw [if_neg (fun h => e3 h.2), if_neg (fun h => by omega)]
    · rw [if_neg (fun h => e h.1), if_neg (fun h => e h.1.symm), if_neg (fun h => e h.1.symm)]
theorem g3_go {n m : Nat} {p f : Int} {t r : Nat} {L : List (List Int)} (ht : t < m) (htr : t ≠ r) : ∀ (d i : Nat) (L' : List (List Int)), i + d = n → Dm n m L' → (∀ j k, ent L' j k = if j = t ∧ k < i then el p f L t r k else ent L j k) →
    Dm n m (g3 p f t r d i L') ∧ ∀ j k, ent (g3 p f t r d i L') j k = if j = t ∧ k < n then el p f L t r k else ent L j k := by
  intro d
  induction d with
  | zero =>
    intro i L' hi hD he
    obtain rfl : i = n := by omega
    exact ⟨hD, he⟩
  | succ d ih =>
    intro i L' hi hD he
    have a1 : ent L' t i = ent L t i := by rw [he, if_neg (by omega)]
    have a2 : ent L' r i = ent L r i := by rw [he, if_neg (fun h => htr h.1.symm)]
    rw [g3, a1, a2]
    refine ih (i + 1) _ (by omega) (hD.put t i _ ht) fun j k => ?_
    rw [put_ent _ _ _ _ (by rw [hD.1]; exact ht) (by rw [hD.2 t ht]; omega), he j k]
    by_cases e : t = j
    · by_cases e2 : i = k
      · rw [if_pos ⟨e, e2⟩, if_pos ⟨e.symm, by omega⟩, ← e2]
        rfl
      · rw [if_neg (fun h => e2 h.2)]
        by_cases e3 : k < i
        · rw [if_pos ⟨e.symm, e3⟩, if_pos ⟨e.symm, by omega⟩]
        · rw [if_neg (fun h => e3 h.2), if_neg (fun h => by omega)]
    · rw [if_neg (fun h => e h.1), if_neg (fun h => e h.1.symm), if_neg (fun h => e h.1.symm)]
theorem el_zero {p : Int} {L : List (List Int)} (h2 : 2 ≤ p) (h1 : p ≤ 97) (hR : Rg p L) (i r k : Nat) : el p 0 L i r k = ent L i k := by
  rw [el_emod h2 h1 hR (by omega) (by omega), Int.zero_mul, Int.sub_zero, Int.emod_eq_of_lt (hR i k).1 (hR i k).2]
/-- What the program makes of the rows. -/
theorem g1_go {n m : Nat} {p : Int} {c r : Nat} {L : List (List Int)} (h2 : 2 ≤ p) (h1 : p ≤ 97) (hR : Rg p L) (hc : c < n) : ∀ (d t : Nat) (L' : List (List Int)), t + d = m → Dm n m L' → (∀ j k, k < n → ent L' j k = if j < t ∧ j ≠ r then el p (ent L j c) L j r k else ent L j k) →
    Dm n m (g1 p c n r d t L') ∧ ∀ j k, j < m → k < n → ent (g1 p c n r d t L') j k = if j ≠ r then el p (ent L j c) L j r k else ent L j k := by
  intro d
  induction d with
  | zero =>
    intro t L' ht hD he
    refine ⟨hD, fun j k hj hk => ?_⟩
    rw [g1, he j k hk]
    by_cases e : j ≠ r
    · rw [if_pos ⟨by omega, e⟩, if_pos e]
    · rw [if_neg (fun h => e h.2), if_neg e]
  | succ d ih =>
    intro t L' ht hD he
    have htm : t < m := by omega
    have a1 : ∀ k, k < n → ent L' t k = ent L t k := fun k hk => by rw [he t k hk, if_neg (by omega)]
    have a2 : ∀ k, k < n → ent L' r k = ent L r k := fun k hk => by rw [he r k hk, if_neg (fun h => h.2 rfl)]
    rw [g1, a1 c hc]
    by_cases e : t = r
    · rw [if_pos (Or.inl e)]
      refine ih (t + 1) L' (by omega) hD fun j k hk => ?_
      rw [he j k hk]
      by_cases e2 : j < t ∧ j ≠ r
      · rw [if_pos e2, if_pos ⟨by omega, e2.2⟩]
      · rw [if_neg e2, if_neg (fun h => e2 ⟨by omega, h.2⟩)]
    · by_cases e0 : ent L t c = 0
      · rw [if_pos (Or.inr e0)]
        refine ih (t + 1) L' (by omega) hD fun j k hk => ?_
        rw [he j k hk]
        by_cases e2 : j < t ∧ j ≠ r
        · rw [if_pos e2, if_pos ⟨by omega, e2.2⟩]
        · rw [if_neg e2]
          by_cases e3 : j = t
          · subst e3; rw [if_pos ⟨by omega, e⟩, e0, el_zero h2 h1 hR]
          · rw [if_neg (fun h => e2 ⟨by omega, h.2⟩)]
      · rw [if_neg (fun h => h.elim e e0)]
        have hg := g3_go (p := p) (f := ent L t c) (L := L') htm e n 0 L' (by omega) hD fun j k => by rw [if_neg (by omega)]
        refine ih (t + 1) _ (by omega) hg.1 fun j k hk => ?_
        rw [hg.2 j k]
        by_cases e3 : j = t
        · subst e3
          rw [if_pos ⟨rfl, hk⟩, if_pos ⟨by omega, e⟩]
          unfold el
          rw [a1 k hk, a2 k hk]
        · rw [if_neg (fun h => e3 h.1), he j k hk]
          by_cases e2 : j < t ∧ j ≠ r
          · rw [if_pos e2, if_pos ⟨by omega, e2.2⟩]
          · rw [if_neg e2, if_neg (fun h => e2 ⟨by omega, h.2⟩)]
/-- What the reference makes of the rows. -/
theorem e1_go {n m : Nat} {p v : Int} {c r : Nat} {L : List (List Int)} (h2 : 2 ≤ p) (h1 : p ≤ 97) (hR : Rg p L) (hc : c < n) : ∀ (d i : Nat) (L' : List (List Int)), i + d = m → r < i → Dm n m L' → (∀ j k, k < n → ent L' j k = if r < j ∧ j < i then el p (fc p v L j c) L j r k else ent L j k) →
    Dm n m (e1 p v c n r d i L') ∧ ∀ j k, j < m → k < n → ent (e1 p v c n r d i L') j k = if r < j then el p (fc p v L j c) L j r k else ent L j k := by
  intro d
  induction d with
  | zero =>
    intro i L' hi hri hD he
    refine ⟨hD, fun j k hj hk => ?_⟩
    rw [e1, he j k hk]
    by_cases e : r < j
    · rw [if_pos ⟨e, by omega⟩, if_pos e]
    · rw [if_neg (fun h => e h.1), if_neg e]
  | succ d ih =>
    intro i L' hi hri hD he
    have him : i < m := by omega
    have a1 : ∀ k, k < n → ent L' i k = ent L i k := fun k hk => by rw [he i k hk, if_neg (by omega)]
    have a2 : ∀ k, k < n → ent L' r k = ent L r k := fun k hk => by rw [he r k hk, if_neg (by omega)]
    have af : fc p v L' i c = fc p v L i c := by unfold fc; rw [a1 c hc]
    rw [e1, af]
    by_cases e0 : fc p v L i c = 0
    · rw [if_pos e0]
      refine ih (i + 1) L' (by omega) (by omega) hD fun j k hk => ?_
      rw [he j k hk]
      by_cases e2 : r < j ∧ j < i
      · rw [if_pos e2, if_pos ⟨e2.1, by omega⟩]
      · rw [if_neg e2]
        by_cases e3 : j = i
        · subst e3; rw [if_pos ⟨hri, by omega⟩, e0, el_zero h2 h1 hR]
        · rw [if_neg (fun h => e2 ⟨h.1, by omega⟩)]
    · rw [if_neg e0]
      refine ih (i + 1) _ (by omega) (by omega) (hD.set i _ him (nr_len ..)) fun j k hk => ?_
      rw [ent_set _ _ _ (by rw [hD.1]; exact him), nr_ent, if_pos hk]
      by_cases e3 : i = j
      · subst e3
        rw [if_pos rfl, if_pos ⟨hri, by omega⟩]
        unfold el
        rw [a1 k hk, a2 k hk]
      · rw [if_neg e3, he j k hk]
        by_cases e2 : r < j ∧ j < i
        · rw [if_pos e2, if_pos ⟨e2.1, by omega⟩]
        · rw [if_neg e2, if_neg (fun h => e2 ⟨h.1, by omega⟩)]
theorem mod_same2 (p a b c v : Int) : (a - b * ((c * v) % p)) % p = (a - ((b * v) % p) * c) % p := by
  have x1 : (c * v) % p = c * v - p * ((c * v) / p) := Int.emod_def ..
  have x2 : (b * v) % p = b * v - p * ((b * v) / p) := Int.emod_def ..
  rw [x1, x2]
  generalize (c * v) / p = q1
  generalize (b * v) / p = q2
  have y1 : a - b * (c * v - p * q1) = (a - b * (c * v)) + p * (b * q1) := by
    rw [Int.mul_sub, Int.mul_left_comm b p q1]; omega
  have y2 : a - (b * v - p * q2) * c = (a - b * (c * v)) + p * (q2 * c) := by
    rw [Int.sub_mul, Int.mul_assoc b v c, Int.mul_comm v c, Int.mul_assoc p q2 c]; omega
  rw [y1, y2, Int.add_mul_emod_self_left, Int.add_mul_emod_self_left]
theorem e0_full {p : Int} {iv : Int → Int} {n : Nat} : ∀ (d c : Nat) (L : List (List Int)) (det : Int) (r : Nat), n ≤ r → (e0 p iv n d c L det r).2 = r := by
  intro d
  induction d with
  | zero => intros; rfl
  | succ d ih =>
    intro c L det r h
    rw [e0, show n - r = 0 by omega]
    exact ih _ _ _ _ h
theorem rank_spec {p : Int} {n : Nat} (hp : isP p = true) : ∀ (d c r : Nat) (Ls Li : List (List Int)) (det : Int), c + d = n → Dm n n Ls → Dm n n Li → Rg p Ls → Rg p Li → (∀ j k, r ≤ j → ent Ls j k = ent Li j k) →
    (g0 p (iv2 p) n n d c Li r).2 = (e0 p (iv1 p) n d c Ls det r).2 := by
  obtain ⟨h2, h1⟩ := isP_range hp
  intro d
  induction d with
  | zero => intros; rfl
  | succ d ih =>
    intro c r Ls Li det hc hDs hDi hRs hRi he
    have hcn : c < n := by omega
    rw [g0]
    by_cases hr : n ≤ r
    · rw [if_pos hr, e0_full _ _ _ _ _ hr]
    · rw [if_neg hr, e0, ixg_congr (L' := Ls) (n - r) r fun j hj => (he j c hj).symm]
      have hrn : r < n := by omega
      cases hk : ixg Ls c (n - r) r with
      | none => exact ih (c + 1) r Ls Li 0 (by omega) hDs hDi hRs hRi he
      | some k =>
        obtain ⟨k1, k2, k3⟩ := ixg_some hk
        have hkn : k < n := by omega
        simp only
        obtain ⟨M, hM⟩ : ∃ M, (if k = r then Ls else swp Ls k r) = M := ⟨_, rfl⟩
        have hM2 : M = swp Ls r k := by
          rw [← hM]
          split
          · rename_i e; rw [e, swp_self _ _ (by rw [hDs.1]; exact hrn)]
          · exact swp_comm _ _ _
        have hDM : Dm n n M := by rw [hM2]; exact hDs.swp hrn hkn
        have hRM : Rg p M := by rw [hM2]; exact hRs.swp hDs hrn hkn
        have hDI : Dm n n (swp Li r k) := hDi.swp hrn hkn
        have hRI : Rg p (swp Li r k) := hRi.swp hDi hrn hkn
        have heM : ∀ j l, r ≤ j → ent M j l = ent (swp Li r k) j l := by
          intro j l hj
          rw [hM2, ent_swp _ _ _ (by rw [hDs.1]; exact hrn) (by rw [hDs.1]; exact hkn), ent_swp _ _ _ (by rw [hDi.1]; exact hrn) (by rw [hDi.1]; exact hkn)]
          exact he _ _ (by unfold sw; split; omega; split <;> omega)
        have hx : ent M r c ≠ 0 := by
          rw [hM2, ent_swp _ _ _ (by rw [hDs.1]; exact hrn) (by rw [hDs.1]; exact hkn), show sw r k r = k by unfold sw; rw [if_pos rfl]]
          exact k3
        rw [hM]
        generalize swp Li r k = Mi at hDI hRI heM
        rw [← heM r c (Nat.le_refl _)]
        have hxr := hRM r c
        have hinv := inv_ok hp (show 1 ≤ ent M r c by omega) hxr.2
        rw [iv2_eq hp (show 1 ≤ ent M r c by omega) hxr.2]
        generalize iv1 p (ent M r c) = v at hinv
        have hg2 := g2_go (p := p) (v := v) (L := Mi) hrn n 0 Mi (by omega) hDI fun j k => by rw [if_neg (by omega)]
        generalize g2 p v r n 0 Mi = M2 at hg2
        have hsc : ∀ l, l < n → ent M2 r l = (ent M r l * v) % p := by
          intro l hl
          have hb := hRI r l
          have b := mul_rg h1 hb.1 hb.2 hinv.2.2.1 hinv.2.2.2.1
          rw [hg2.2 r l, if_pos ⟨rfl, hl⟩, wrap_id (by omega) (by omega), Int.tmod_eq_emod_of_nonneg (by omega), heM r l (Nat.le_refl _)]
        have hR2 : Rg p M2 := Rg.of h2 hg2.1 fun j l hj hl => by
          by_cases e : j = r
          · subst e; rw [hsc l hl]; exact ⟨Int.emod_nonneg _ (by omega), Int.emod_lt_of_pos _ (by omega)⟩
          · rw [hg2.2 j l, if_neg (fun h => e h.1)]; exact hRI j l
        have hg1 := g1_go (c := c) (r := r) (L := M2) h2 h1 hR2 hcn n 0 M2 (by omega) hg2.1 fun j k hk => by rw [if_neg (by omega)]
        have he1 := e1_go (v := v) (c := c) (r := r) (L := M) h2 h1 hRM hcn (n - (r + 1)) (r + 1) M (by omega) (by omega) hDM fun j k hk => by rw [if_neg (by omega)]
        have hRe := (e1_inv (v := v) (c := c) (r := r) h2 h1 (n - (r + 1)) (r + 1) M (by omega) hDM hRM).2
        have hRg := Rg.of h2 hg1.1 fun j l hj hl => by
          rw [hg1.2 j l hj hl]
          split
          · exact md_range h2 h1 _
          · exact hR2 j l
        refine ih (c + 1) (r + 1) _ _ _ (by omega) he1.1 hg1.1 hRe hRg fun j l hj => ?_
        by_cases hjn : j < n
        · by_cases hln : l < n
          · rw [he1.2 j l hjn hln, hg1.2 j l hjn hln, if_pos (by omega), if_pos (by omega)]
            have fr := fc_emod h2 h1 hRM hinv.2.2.1 hinv.2.2.2.1 j c
            have f0 : 0 ≤ fc p v M j c := by rw [fr]; exact Int.emod_nonneg _ (by omega)
            have f1 : fc p v M j c < p := by rw [fr]; exact Int.emod_lt_of_pos _ (by omega)
            rw [el_emod h2 h1 hRM f0 f1, el_emod h2 h1 hR2 (hR2 j c).1 (hR2 j c).2, fr, hsc l hln, hg2.2 j c, hg2.2 j l, if_neg (by omega), if_neg (by omega), ← heM j c (by omega), ← heM j l (by omega)]
            exact (mod_same2 p _ _ _ _).symm
          · rw [ent_out he1.1 (Or.inr (by omega)), ent_out hg1.1 (Or.inr (by omega))]
        · rw [ent_out he1.1 (Or.inl (by omega)), ent_out hg1.1 (Or.inl (by omega))]

end Go.Proofs.Ytmpdloamgiejhaa.PE
namespace Go.Proofs.Ytmpdloamgiejhaa.PG
open Go.RowKit Go.Proofs.Ytmpdloamgiejhaa.Hand Go.Proofs.YtmpdloamgiejhaaW.PrintWords Go.Proofs.YtmpdloamgiejhaaW.PrintLast Go.Proofs.Ytmpdloamgiejhaa.PA
set_option linter.unusedVariables false
set_option linter.unusedSimpArgs false


set_option maxRecDepth 100000 in
theorem halves7 : ∀ n m : Fin 7, 1 ≤ n.val → m.val ≤ n.val → (n.val - m.val) % 2 = 0 → spec_l04Halves.f 3000 (n.val : Int) (m.val : Int) = some (hl n.val 0 m.val ⟨#[]⟩) := by decide +kernel
/-- What both tell of two half diagrams. -/
def pv (a b : ByteArray) : Bool × Int := (spec_l04Pair.f a b).getD (false, 0)
def pvok (L : List ByteArray) : Bool := L.all fun a => L.all fun b => (spec_l04Pair.f a b == some (pv a b)) && (impl_paired.f a b == some (pv a b)) && decide (0 ≤ (pv a b).2 ∧ (pv a b).2 ≤ 8)
set_option maxRecDepth 100000 in
theorem pairs7 : ∀ n m : Fin 7, 1 ≤ n.val → m.val ≤ n.val → (n.val - m.val) % 2 = 0 → (pvok (hl n.val 0 m.val ⟨#[]⟩) && decide (0 < (hl n.val 0 m.val ⟨#[]⟩).length ∧ (hl n.val 0 m.val ⟨#[]⟩).length ≤ 9)) = true := by decide +kernel
theorem halvesAt {n k : Int} (h1 : 1 ≤ n) (h6 : n ≤ 6) (hk : 0 ≤ k) (hkn : k ≤ n) (he : (n - k) % 2 = 0) : ∃ L : List ByteArray, spec_l04Halves.f 3000 n k = some L ∧ impl_halves.f n k = some L ∧ (0 < L.length ∧ L.length ≤ 9) ∧ ∀ a ∈ L, ∀ b ∈ L, spec_l04Pair.f a b = some (pv a b) ∧ impl_paired.f a b = some (pv a b) ∧ 0 ≤ (pv a b).2 ∧ (pv a b).2 ≤ 8 := by
  obtain ⟨n, rfl⟩ := Int.eq_ofNat_of_zero_le (show 0 ≤ n by omega)
  obtain ⟨m, rfl⟩ := Int.eq_ofNat_of_zero_le hk
  have hh := halves7 ⟨n, by omega⟩ ⟨m, by omega⟩ (by show 1 ≤ n; omega) (by show m ≤ n; omega) (by show (n - m) % 2 = 0; omega)
  have hp := pairs7 ⟨n, by omega⟩ ⟨m, by omega⟩ (by show 1 ≤ n; omega) (by show m ≤ n; omega) (by show (n - m) % 2 = 0; omega)
  simp only at hh hp
  rw [Bool.and_eq_true, decide_eq_true_eq] at hp
  refine ⟨hl n 0 m ⟨#[]⟩, hh, ?_, hp.2, ?_⟩
  · unfold impl_halves.f
    rw [if_pos (by omega), Int.toNat_natCast, Int.toNat_natCast]
  · intro a ha b hb
    have := List.all_eq_true.1 (List.all_eq_true.1 hp.1 a ha) b hb
    simp only [Bool.and_eq_true, beq_iff_eq, decide_eq_true_eq] at this
    exact ⟨this.1.1, this.1.2, this.2⟩
/-- Powers as both count them. -/
def pw (p c : Int) : Nat → Int → Int
  | 0, x => x
  | m + 1, x => pw p c m (Int.tmod (x * c) p)
theorem pw_range {p c : Int} (hp : 2 ≤ p) (hc : 0 ≤ c) : ∀ (m : Nat) (x : Int), 0 ≤ x → x < p → 0 ≤ pw p c m x ∧ pw p c m x < p
  | 0, x, h0, h1 => ⟨h0, h1⟩
  | m + 1, x, h0, h1 => by
    have hx : 0 ≤ x * c := Int.mul_nonneg h0 hc
    exact pw_range hp hc m _ (by rw [Int.tmod_eq_emod_of_nonneg hx]; exact Int.emod_nonneg _ (by omega)) (by rw [Int.tmod_eq_emod_of_nonneg hx]; exact Int.emod_lt_of_pos _ (by omega))
theorem mul_small {p c x : Int} (hp : p ≤ 97) (hc : 0 ≤ c) (hcp : c < p) (h0 : 0 ≤ x) (h1 : x < p) : 0 ≤ x * c ∧ x * c ≤ 10000 := by
  constructor
  · exact Int.mul_nonneg h0 hc
  · have h2 : x * c ≤ 97 * c := Int.mul_le_mul_of_nonneg_right (by omega) hc
    omega
theorem specPow {p c : Int} (hp : 2 ≤ p) (hp97 : p ≤ 97) (hc : 0 ≤ c) (hcp : c < p) : ∀ (m k : Nat) (x : Int), m ≤ 100 → m < k → 0 ≤ x → x < p → spec_l02Power.l0 k p c (m : Int) x = some (pw p c m x) := by
  intro m
  induction m with
  | zero =>
    intro k x hm hk h0 h1
    obtain ⟨k, rfl⟩ : ∃ m, k = m + 1 := ⟨k - 1, by omega⟩
    simp only [spec_l02Power.l0]
    rw [if_neg (by omega), pw]
  | succ m ih =>
    intro k x hm hk h0 h1
    obtain ⟨k, rfl⟩ : ∃ m, k = m + 1 := ⟨k - 1, by omega⟩
    have hx := mul_small hp97 hc hcp h0 h1
    simp only [spec_l02Power.l0]
    rw [if_pos (by omega), if_neg (by omega), wrap_id (x := x * c) (by omega) (by omega), wrap_id (by omega) (by omega), show ((m + 1 : Nat) : Int) - 1 = (m : Int) by omega]
    exact ih k _ (by omega) (by omega) (by rw [Int.tmod_eq_emod_of_nonneg hx.1]; exact Int.emod_nonneg _ (by omega)) (by rw [Int.tmod_eq_emod_of_nonneg hx.1]; exact Int.emod_lt_of_pos _ (by omega))
theorem implPow {p c : Int} (hp : 2 ≤ p) (hp97 : p ≤ 97) (hc : 0 ≤ c) (hcp : c < p) (l : Int) (hl : l ≤ 100) : ∀ (m k : Nat) (x i : Int), 0 ≤ i → i + m = l → m < k → 0 ≤ x → x < p → impl_power.l0 k c p x l i = some (pw p c m x) := by
  intro m
  induction m with
  | zero =>
    intro k x i hi him hk h0 h1
    obtain ⟨k, rfl⟩ : ∃ m, k = m + 1 := ⟨k - 1, by omega⟩
    simp only [impl_power.l0]
    rw [if_neg (by omega), pw]
  | succ m ih =>
    intro k x i hi him hk h0 h1
    obtain ⟨k, rfl⟩ : ∃ m, k = m + 1 := ⟨k - 1, by omega⟩
    have hx := mul_small hp97 hc hcp h0 h1
    simp only [impl_power.l0]
    rw [if_pos (by omega), if_neg (by omega), wrap_id (x := x * c) (by omega) (by omega), wrap_id (by omega) (by omega)]
    exact ih k _ (i + 1) (by omega) (by omega) (by omega) (by rw [Int.tmod_eq_emod_of_nonneg hx.1]; exact Int.emod_nonneg _ (by omega)) (by rw [Int.tmod_eq_emod_of_nonneg hx.1]; exact Int.emod_lt_of_pos _ (by omega))
/-- An entry of the Gram table. -/
def en (p c : Int) (a b : ByteArray) : Int := if (pv a b).1 = true then pw p c (pv a b).2.toNat 1 else 0
def gram (p c : Int) (L : List ByteArray) : List (List Int) := L.map fun a => L.map fun b => en p c a b
/-- What is known of the numbers of a table. -/
structure Ok (p c : Int) (L : List ByteArray) : Prop where
  p2 : 2 ≤ p
  p97 : p ≤ 97
  c0 : 0 ≤ c
  cp : c < p
  len : L.length ≤ 9
  pos : 0 < L.length
  pair : ∀ a ∈ L, ∀ b ∈ L, spec_l04Pair.f a b = some (pv a b) ∧ impl_paired.f a b = some (pv a b) ∧ 0 ≤ (pv a b).2 ∧ (pv a b).2 ≤ 8
theorem rdOf_mem {L : List ByteArray} {i : Nat} (h : i < L.length) : rdOf ByteArray.empty L (i : Int) = L[i] := by
  unfold rdOf
  rw [Int.toNat_natCast, List.getD_eq_getElem?_getD, List.getElem?_eq_getElem h]
  rfl
theorem set_next (A : List Int) (d : Nat) (t : Int) : (A ++ List.replicate (d + 1) 0).set A.length t = (A ++ [t]) ++ List.replicate d 0 := by
  rw [List.set_append_right _ _ (Nat.le_refl _), Nat.sub_self, List.replicate_succ, List.set_cons_zero, List.append_assoc, List.singleton_append]
theorem take_next {α β : Type} (f : α → β) (L : List α) (j : Nat) (h : j < L.length) : (L.take (j + 1)).map f = (L.take j).map f ++ [f L[j]] := by
  rw [List.take_succ_eq_append_getElem h, List.map_append]; rfl
theorem specRow {p c : Int} {L : List ByteArray} (H : Ok p c L) (out : List (List Int)) (i : Nat) (hi : i < L.length) (ho : out.length ≤ 100) : ∀ (d j k : Nat), j + d = L.length → 20 ≤ k →
    spec_l04Gram.l1 (k + d + 1) p c L out (i : Int) ((L.take j).map (fun b => en p c L[i] b) ++ List.replicate d 0) (j : Int) = spec_l04Gram.l0 k p c L (out ++ [L.map fun b => en p c L[i] b]) ((i + 1 : Nat) : Int) := by
  have hlen := H.len
  intro d
  induction d with
  | zero =>
    intro j k hj hk
    simp only [spec_l04Gram.l1]
    rw [if_neg (by omega), if_pos (by omega), wrap_id (by omega) (by omega), List.replicate_zero, List.append_nil, List.take_of_length_le (by omega)]
    rfl
  | succ d ih =>
    intro j k hj hk
    have hjl : j < L.length := by omega
    have hp := H.pair L[i] (List.getElem_mem _) L[j] (List.getElem_mem _)
    have hl : ((L.take j).map fun b => en p c L[i] b).length = j := by simp; omega
    have next := ih (j + 1) k (by omega) hk
    rw [show k + (d + 1) + 1 = (k + d + 1) + 1 by omega]
    generalize hK : k + d + 1 = K at next ⊢
    simp only [spec_l04Gram.l1]
    rw [if_pos (by omega), if_pos (by omega), if_pos (by omega), if_pos (by omega), rdOf_mem hi, rdOf_mem hjl, hp.1, Option.bind_some, wrap_id (by omega) (by omega), show (j : Int) + 1 = ((j + 1 : Nat) : Int) by omega]
    by_cases hg : (pv L[i] L[j]).1 = true
    · rw [if_pos hg]
      obtain ⟨m, hm⟩ := Int.eq_ofNat_of_zero_le hp.2.2.1
      have hpow := specPow H.p2 H.p97 H.c0 H.cp m K 1 (by omega) (by omega) (by omega) (by have := H.p2; omega)
      unfold spec_l02Power.f
      rw [if_neg (by have := H.p2; omega), Int.emod_eq_of_lt (by omega) (by have := H.p2; omega), hm, hpow, Option.bind_some, if_pos (by rw [List.length_append, hl, List.length_replicate]; omega), Int.toNat_natCast]
      have e : en p c L[i] L[j] = pw p c m 1 := by unfold en; rw [if_pos hg, hm, Int.toNat_natCast]
      rw [take_next _ L j hjl, e] at next
      have hs := set_next ((L.take j).map fun b => en p c L[i] b) d (pw p c m 1)
      rw [hl] at hs
      rw [hs]
      exact next
    · rw [if_neg hg]
      have e : en p c L[i] L[j] = 0 := by unfold en; rw [if_neg hg]
      rw [take_next _ L j hjl, e, List.append_assoc] at next
      exact next
theorem specRows {p c : Int} {L : List ByteArray} (H : Ok p c L) : ∀ (d i k : Nat), i + d = L.length → 20 ≤ k →
    spec_l04Gram.l0 (k + d * 12 + 1) p c L ((L.take i).map fun a => L.map fun b => en p c a b) (i : Int) = some (gram p c L) := by
  have hlen := H.len
  intro d
  induction d with
  | zero =>
    intro i k hi hk
    simp only [spec_l04Gram.l0]
    rw [if_neg (by omega), List.take_of_length_le (by omega)]
    rfl
  | succ d ih =>
    intro i k hi hk
    have hil : i < L.length := by omega
    rw [show k + (d + 1) * 12 + 1 = (k + d * 12 + 12) + 1 by omega]
    generalize hK : k + d * 12 + 12 = K
    simp only [spec_l04Gram.l0]
    rw [if_pos (by omega), if_pos (by omega), Int.toNat_natCast, if_pos (by omega), show K = (k + (11 - L.length) + d * 12) + L.length + 1 by omega]
    have h := specRow H ((L.take i).map fun a => L.map fun b => en p c a b) i hil (by simp; omega) L.length 0 (k + (11 - L.length) + d * 12) (by omega) (by omega)
    simp only [List.take_zero, List.map_nil, List.nil_append, Int.natCast_zero] at h
    rw [h, ← take_next _ L i hil, show k + (11 - L.length) + d * 12 = (k + 10 - L.length) + d * 12 + 1 by omega]
    exact ih (i + 1) (k + 10 - L.length) (by omega) (by omega)
theorem implRow {p c : Int} {L : List ByteArray} (H : Ok p c L) (out : List (List Int)) (i : Nat) (hi : i < L.length) (ho : out.length ≤ 100) : ∀ (d j k : Nat), j + d = L.length → 20 ≤ k →
    impl_GramTable.l1 (k + d + 1) p c L out L[i] ((L.take j).map (fun b => en p c L[i] b)) L (L.length : Int) (i : Int) L (L.length : Int) (j : Int) = impl_GramTable.l0 k p c L (out ++ [L.map fun b => en p c L[i] b]) L (L.length : Int) ((i + 1 : Nat) : Int) := by
  have hlen := H.len
  intro d
  induction d with
  | zero =>
    intro j k hj hk
    simp only [impl_GramTable.l1]
    rw [if_neg (by omega), if_pos (by omega), wrap_id (by omega) (by omega), List.take_of_length_le (by omega)]
    rfl
  | succ d ih =>
    intro j k hj hk
    have hjl : j < L.length := by omega
    have hp := H.pair L[i] (List.getElem_mem _) L[j] (List.getElem_mem _)
    have hl : ((L.take j).map fun b => en p c L[i] b).length = j := by simp; omega
    have next := ih (j + 1) k (by omega) hk
    rw [show k + (d + 1) + 1 = (k + d + 1) + 1 by omega]
    generalize hK : k + d + 1 = K at next ⊢
    simp only [impl_GramTable.l1]
    rw [if_pos (by omega), if_pos (by omega), if_pos (by omega), rdOf_mem hjl, hp.2.1, Option.bind_some, wrap_id (by omega) (by omega), show (j : Int) + 1 = ((j + 1 : Nat) : Int) by omega, hl]
    rw [take_next _ L j hjl] at next
    by_cases hg : (pv L[i] L[j]).1 = true
    · rw [if_pos hg]
      obtain ⟨m, hm⟩ := Int.eq_ofNat_of_zero_le hp.2.2.1
      have hpow := implPow H.p2 H.p97 H.c0 H.cp (m : Int) (by omega) m K 1 0 (by omega) (by omega) (by omega) (by omega) (by have := H.p2; omega)
      unfold impl_power.f
      rw [hm, hpow, Option.bind_some, if_pos (by omega)]
      have e : en p c L[i] L[j] = pw p c m 1 := by unfold en; rw [if_pos hg, hm, Int.toNat_natCast]
      rw [e] at next
      exact next
    · rw [if_neg hg, if_pos (by omega)]
      have e : en p c L[i] L[j] = 0 := by unfold en; rw [if_neg hg]
      rw [e] at next
      exact next
theorem implRows {p c : Int} {L : List ByteArray} (H : Ok p c L) : ∀ (d i k : Nat), i + d = L.length → 20 ≤ k →
    impl_GramTable.l0 (k + d * 12 + 1) p c L ((L.take i).map fun a => L.map fun b => en p c a b) L (L.length : Int) (i : Int) = some (gram p c L, 0) := by
  have hlen := H.len
  intro d
  induction d with
  | zero =>
    intro i k hi hk
    simp only [impl_GramTable.l0]
    rw [if_neg (by omega), List.take_of_length_le (by omega)]
    rfl
  | succ d ih =>
    intro i k hi hk
    have hil : i < L.length := by omega
    rw [show k + (d + 1) * 12 + 1 = (k + d * 12 + 12) + 1 by omega]
    generalize hK : k + d * 12 + 12 = K
    simp only [impl_GramTable.l0]
    rw [if_pos (by omega), if_pos (by omega), if_pos (by omega), rdOf_mem hil, show K = (k + (11 - L.length) + d * 12) + L.length + 1 by omega]
    have h := implRow H ((L.take i).map fun a => L.map fun b => en p c a b) i hil (by simp; omega) L.length 0 (k + (11 - L.length) + d * 12) (by omega) (by omega)
    simp only [List.take_zero, List.map_nil, Int.natCast_zero] at h
    rw [h, ← take_next _ L i hil, show k + (11 - L.length) + d * 12 = (k + 10 - L.length) + d * 12 + 1 by omega]
    exact ih (i + 1) (k + 10 - L.length) (by omega) (by omega)
theorem up_f {α : Type} {f : Nat → Option α} (hm : ∀ k, LeO (f k) (f (k + 1))) {r : α} {k : Nat} (h : f k = some r) : ∀ d, f (k + d) = some r := by
  intro d
  induction d with
  | zero => exact h
  | succ d ih => exact hm (k + d) r ih
theorem tableE3 (p c n k : Int) : spec_l04Two.f 3000 p c n k = some (isT p c n k) ∧ impl_tableOk.f 3000 p c n k = some (isT p c n k) :=
  ⟨up_f (f := fun x => spec_l04Two.f x p c n k) (spec_l04Two.mono p c n k) (tableE p c n k).1 2700, up_f (f := fun x => impl_tableOk.f x p c n k) (impl_tableOk.mono p c n k) (tableE p c n k).2 2700⟩
/-- Both tables: out of the ranges an error, else one list of half diagrams. -/
theorem gramE (p c n k : Int) : (isT p c n k = false) ∨ (isT p c n k = true ∧ ∃ L, Ok p c L ∧ spec_l04Gram.f 3000 p c n k = some (gram p c L) ∧ impl_GramTable.f 3000 p c n k = some (gram p c L, 0)) := by
  cases hT : isT p c n k with
  | false => exact Or.inl rfl
  | true =>
    obtain ⟨hp, c0, cp, n1, n6, k0, kn, he⟩ := isT_iff hT
    have hr := isP_range hp
    obtain ⟨L, h1, h2, h3, h4⟩ := halvesAt n1 n6 k0 kn he
    have H : Ok p c L := ⟨hr.1, hr.2, c0, cp, h3.2, h3.1, h4⟩
    refine Or.inr ⟨rfl, L, H, ?_, ?_⟩
    · unfold spec_l04Gram.f
      rw [h1, Option.bind_some]
      have := specRows H L.length 0 (2999 - L.length * 12) (by omega) (by omega)
      rw [show 2999 - L.length * 12 + L.length * 12 + 1 = 3000 by omega] at this
      exact this
    · unfold impl_GramTable.f
      rw [(tableE3 p c n k).2, hT, Option.bind_some, if_pos rfl, h2, Option.bind_some]
      have := implRows H L.length 0 (2999 - L.length * 12) (by omega) (by omega)
      rw [show 2999 - L.length * 12 + L.length * 12 + 1 = 3000 by omega] at this
      exact this
theorem gram_dims (p c : Int) (L : List ByteArray) : (gram p c L).length = L.length ∧ ∀ r ∈ gram p c L, r.length = L.length := by
  unfold gram
  constructor
  · simp
  · intro r hr
    rw [List.mem_map] at hr
    obtain ⟨a, _, rfl⟩ := hr
    simp

end Go.Proofs.Ytmpdloamgiejhaa.PG
namespace Go.Proofs.Ytmpdloamgiejhaa.PF
open Go.RowKit Go.Proofs.Ytmpdloamgiejhaa.Hand Go.Proofs.YtmpdloamgiejhaaW.PrintWords Go.Proofs.YtmpdloamgiejhaaW.PrintLast Go.Proofs.Ytmpdloamgiejhaa.PA Go.Proofs.Ytmpdloamgiejhaa.PG Go.Proofs.Ytmpdloamgiejhaa.PE
set_option linter.unusedVariables false
set_option linter.unusedSimpArgs false


theorem ent_gram (p c : Int) (L : List ByteArray) (H : Ok p c L) : Rg p (gram p c L) := by
  refine Rg.of H.p2 (n := L.length) (m := L.length) ⟨(gram_dims p c L).1, fun j hj => (gram_dims p c L).2 _ ?_⟩ fun j k hj hk => ?_
  · rw [List.getD_eq_getElem?_getD, List.getElem?_eq_getElem (by rw [(gram_dims p c L).1]; exact hj)]
    exact List.getElem_mem _
  · have e : ent (gram p c L) j k = en p c L[j] L[k] := by
      unfold ent gram
      simp [List.getD_eq_getElem?_getD, hj, hk]
    rw [e]
    unfold en
    have h2 := H.p2
    split
    · exact pw_range H.p2 H.c0 _ _ (by omega) (by omega)
    · omega
theorem dm_gram (p c : Int) (L : List ByteArray) : Dm L.length L.length (gram p c L) := by
  refine ⟨(gram_dims p c L).1, fun j hj => (gram_dims p c L).2 _ ?_⟩
  rw [List.getD_eq_getElem?_getD, List.getElem?_eq_getElem (by rw [(gram_dims p c L).1]; exact hj)]
  exact List.getElem_mem _

/-- Both tables, with what the eliminations ask. -/
theorem gramF (p c n k : Int) : (isT p c n k = false ∧ spec_l04Two.f 3000 p c n k = some false ∧ impl_GramTable.f 3000 p c n k = some ([], 2)) ∨ (isP p = true ∧ spec_l04Two.f 3000 p c n k = some true ∧ ∃ T, spec_l04Gram.f 3000 p c n k = some T ∧ impl_GramTable.f 3000 p c n k = some (T, 0) ∧ Rg p T ∧ Dm T.length T.length T ∧ 0 < T.length ∧ T.length ≤ 9 ∧ (∀ r ∈ T, r.length = T.length)) := by
  rcases gramE p c n k with hT | ⟨hT, L, H, hs, hi⟩
  · refine Or.inl ⟨hT, by rw [(tableE3 p c n k).1, hT], ?_⟩
    unfold impl_GramTable.f
    rw [(tableE3 p c n k).2, hT]; rfl
  · have hd := gram_dims p c L
    refine Or.inr ⟨(isT_iff hT).1, by rw [(tableE3 p c n k).1, hT], gram p c L, hs, hi, ent_gram p c L H, ?_, by rw [hd.1]; exact H.pos, by rw [hd.1]; exact H.len, ?_⟩
    · rw [hd.1]; exact dm_gram p c L
    · rw [hd.1]; exact hd.2
theorem detE {p : Int} {T : List (List Int)} (hp : isP p = true) (hR : Rg p T) (hD : Dm T.length T.length T) (h0 : 0 < T.length) (h9 : T.length ≤ 100) (hr : ∀ r ∈ T, r.length = T.length) :
    ∃ d r, detF T p = some d ∧ echF p T = some (d, r) ∧ iechF T p = some r := by
  obtain ⟨h2, h1⟩ := isP_range hp
  refine ⟨(e0 p (iv1 p) T.length T.length 0 T 1 0).1, ((e0 p (iv1 p) T.length T.length 0 T 1 0).2 : Int), ?_, ?_, ?_⟩
  · unfold detF
    rw [if_pos ⟨by omega, h0, h9, hr⟩, Int.emod_eq_of_lt (by omega) (by omega)]
    exact dt0_spec hp h9 T.length 0 T 1 (by omega) hD hR (by omega) (by omega)
  · unfold echF
    rw [if_pos ⟨⟨h2, by omega⟩, h0, h9, hr⟩]
  · unfold iechF
    rw [if_pos ⟨⟨h2, by omega⟩, h0, h9, hr⟩, rank_spec hp T.length 0 0 T T 1 (by omega) hD hD hR hR fun _ _ _ => rfl]

end Go.Proofs.Ytmpdloamgiejhaa.PF
namespace Go.Proofs.Ytmpdloamgiejhaa.PR
open Go.RowKit Go.Proofs.Ytmpdloamgiejhaa.Hand Go.Proofs.YtmpdloamgiejhaaW.PrintWords Go.Proofs.YtmpdloamgiejhaaW.PrintLast Go.Proofs.Ytmpdloamgiejhaa.PA Go.Proofs.Ytmpdloamgiejhaa.PE
set_option linter.unusedVariables false
set_option linter.unusedSimpArgs false

theorem ixg_none : ∀ {L : List (List Int)} {c d j : Nat}, ixg L c d j = none → ∀ t, j ≤ t → t < j + d → ent L t c = 0 := by
  intro L c d
  induction d with
  | zero => intro j _ t h1 h2; omega
  | succ d ih =>
    intro j h t h1 h2
    simp only [ixg] at h
    by_cases h0 : ent L j c = 0
    · rw [if_pos h0] at h
      by_cases e : t = j
      · rw [e]; exact h0
      · exact ih h t (by omega) (by omega)
    · rw [if_neg h0] at h; cases h
theorem g3_nr {n m : Nat} {p f : Int} {t r : Nat} {L : List (List Int)} (hD : Dm n m L) (ht : t < m) (htr : t ≠ r) : g3 p f t r n 0 L = L.set t (nr p f L t r n) := by
  have hg := g3_go (p := p) (f := f) (L := L) ht htr n 0 L (by omega) hD fun j k => by rw [if_neg (by omega)]
  refine tab_ext hg.1 (hD.set t _ ht (nr_len ..)) fun j k hj hk => ?_
  rw [hg.2 j k, ent_set _ _ _ (by rw [hD.1]; exact ht), nr_ent, if_pos hk]
  by_cases e : t = j
  · rw [if_pos ⟨e.symm, hk⟩, if_pos e]
  · rw [if_neg (fun h => e h.1.symm), if_neg e]
theorem h1_g1 {n m : Nat} {p : Int} {c r : Nat} : ∀ (d t : Nat) (L : List (List Int)), t + d = m → Dm n m L → h1 p c n r d t L = g1 p c n r d t L := by
  intro d
  induction d with
  | zero => intros; rfl
  | succ d ih =>
    intro t L ht hD
    rw [h1, g1]
    by_cases e : t = r ∨ ent L t c = 0
    · rw [if_pos e, if_pos e]; exact ih _ _ (by omega) hD
    · rw [if_neg e, if_neg e, g3_nr hD (by omega) (fun h => e (.inl h))]
      exact ih _ _ (by omega) (hD.set t _ (by omega) (nr_len ..))
/-- A step of the elimination: row k comes to place r, times v; all others are made 0 in column c. -/
structure Stp (p : Int) (n m c r k : Nat) (v : Int) (L L' : List (List Int)) : Prop where
  dm : Dm n m L'
  rg : Rg p L'
  inv : (ent L k c * v) % p = 1
  row : ∀ j, j < n → ent L' r j = (ent L k j * v) % p
  els : ∀ t j, t < m → j < n → t ≠ r → ent L' t j = (ent L (sw r k t) j - ent L (sw r k t) c * ((ent L k j * v) % p)) % p
def stp (p : Int) (n m c r k : Nat) (L : List (List Int)) : List (List Int) := g1 p c n r m 0 (g2 p (iv2 p (ent (swp L r k) r c)) r n 0 (swp L r k))
def stq (p : Int) (n m c r k : Nat) (L : List (List Int)) : List (List Int) := h1 p c n r m 0 ((swp L k r).set r (ld p (iv1 p (ent L k c)) (L.getD k []) n))
theorem sw_r (r k : Nat) : sw r k r = k := by unfold sw; rw [if_pos rfl]
theorem stp_spec {p : Int} {n m c r k : Nat} {L : List (List Int)} (hp : isP p = true) (hD : Dm n m L) (hR : Rg p L) (hc : c < n) (hr : r < m) (hk : k < m) (hx : ent L k c ≠ 0) :
    (∃ v, Stp p n m c r k v L (stp p n m c r k L)) ∧ stq p n m c r k L = stp p n m c r k L := by
  obtain ⟨h2, h1⟩ := isP_range hp
  have hxr := hR k c
  have hinv := inv_ok hp (show 1 ≤ ent L k c by omega) hxr.2
  have hiv := iv2_eq hp (show 1 ≤ ent L k c by omega) hxr.2
  have hM : ∀ j l, ent (swp L r k) j l = ent L (sw r k j) l := fun j l => ent_swp _ _ _ (by rw [hD.1]; exact hr) (by rw [hD.1]; exact hk) _ _
  have hDM := hD.swp hr hk
  have hRM := hR.swp hD hr hk
  unfold stp stq
  rw [hM r c, sw_r, hiv, swp_comm L k r]
  generalize iv1 p (ent L k c) = v at hinv
  generalize swp L r k = M at hM hDM hRM
  have hMr : ∀ l, ent M r l = ent L k l := fun l => by rw [hM, sw_r]
  have hg2 := g2_go (p := p) (v := v) (L := M) hr n 0 M (by omega) hDM fun j k => by rw [if_neg (by omega)]
  have hL2 : M.set r (ld p v (L.getD k []) n) = g2 p v r n 0 M := by
    refine tab_ext (hDM.set r _ hr (ld_len ..)) hg2.1 fun j l hj hl => ?_
    rw [ent_set _ _ _ (by rw [hDM.1]; exact hr), hg2.2 j l]
    by_cases e : r = j
    · rw [if_pos e, if_pos ⟨e.symm, hl⟩, hMr]
      unfold ld
      simp [List.getD_eq_getElem?_getD, hl, ent]
    · rw [if_neg e, if_neg (fun h => e h.1.symm)]
  rw [hL2]
  generalize g2 p v r n 0 M = M2 at hg2
  have hsc : ∀ l, l < n → ent M2 r l = (ent L k l * v) % p := by
    intro l hl
    have hb := hR k l
    have b := mul_rg h1 hb.1 hb.2 hinv.2.2.1 hinv.2.2.2.1
    rw [hg2.2 r l, if_pos ⟨rfl, hl⟩, hMr, wrap_id (by omega) (by omega), Int.tmod_eq_emod_of_nonneg (by omega)]
  have hR2 : Rg p M2 := Rg.of h2 hg2.1 fun j l hj hl => by
    by_cases e : j = r
    · subst e; rw [hsc l hl]; exact ⟨Int.emod_nonneg _ (by omega), Int.emod_lt_of_pos _ (by omega)⟩
    · rw [hg2.2 j l, if_neg (fun h => e h.1)]; exact hRM j l
  have hg1 := g1_go (c := c) (r := r) (L := M2) h2 h1 hR2 hc m 0 M2 (by omega) hg2.1 fun j k hk => by rw [if_neg (by omega)]
  refine ⟨⟨v, hg1.1, ?_, hinv.2.2.2.2, fun j hj => ?_, fun t j ht hj htr => ?_⟩, h1_g1 m 0 M2 (by omega) hg2.1⟩
  · exact Rg.of h2 hg1.1 fun j l hj hl => by
      rw [hg1.2 j l hj hl]
      split
      · exact md_range h2 h1 _
      · exact hR2 j l
  · rw [hg1.2 r j hr hj, if_neg (fun h => h rfl), hsc j hj]
  · rw [hg1.2 t j ht hj, if_pos htr, el_emod h2 h1 hR2 (hR2 t c).1 (hR2 t c).2, hsc j hj, hg2.2 t j, hg2.2 t c, if_neg (fun h => htr h.1), if_neg (fun h => htr h.1), hM, hM]
theorem r0_full {p : Int} {iv : Int → Int} {m n : Nat} : ∀ (d c : Nat) (L : List (List Int)) (r : Nat), m ≤ r → r0 p iv m n d c L r = (L, r) := by
  intro d
  induction d with
  | zero => intros; rfl
  | succ d ih =>
    intro c L r h
    rw [r0, show m - r = 0 by omega]
    exact ih _ _ _ h
/-- The reference's reduction is the program's. -/
theorem r0_g0 {p : Int} {n m : Nat} (hp : isP p = true) : ∀ (d c : Nat) (L : List (List Int)) (r : Nat), c + d = n → Dm n m L → Rg p L → r0 p (iv1 p) m n d c L r = g0 p (iv2 p) m n d c L r := by
  intro d
  induction d with
  | zero => intros; rfl
  | succ d ih =>
    intro c L r hc hD hR
    by_cases hr : m ≤ r
    · rw [r0_full _ _ _ _ hr, g0, if_pos hr]
    · rw [r0, g0, if_neg hr]
      cases hk : ixg L c (m - r) r with
      | none => exact ih _ _ _ (by omega) hD hR
      | some k =>
        obtain ⟨k1, k2, k3⟩ := ixg_some hk
        have hs := stp_spec (n := n) (m := m) (c := c) (r := r) (k := k) hp hD hR (by omega) (by omega) (by omega) k3
        obtain ⟨⟨v, hS⟩, hq⟩ := hs
        have e1 : ∀ X, r0 p (iv1 p) m n d (c + 1) (stq p n m c r k L) X = r0 p (iv1 p) m n d (c + 1) (stp p n m c r k L) X := fun X => by rw [hq]
        exact (e1 (r + 1)).trans (ih (c + 1) (stp p n m c r k L) (r + 1) (by omega) hS.dm hS.rg)
/-! #### sums -/
def sm (f : Nat → Int) : Nat → Int
  | 0 => 0
  | m + 1 => sm f m + f m
theorem sm_congr {f g : Nat → Int} : ∀ m, (∀ j, j < m → f j = g j) → sm f m = sm g m := by
  intro m
  induction m with
  | zero => intro _; rfl
  | succ m ih => intro h; rw [sm, sm, ih fun j hj => h j (by omega), h m (by omega)]
theorem sm_sub (f g : Nat → Int) : ∀ m, sm (fun j => f j - g j) m = sm f m - sm g m := by
  intro m
  induction m with
  | zero => rfl
  | succ m ih => rw [sm, sm, sm, ih]; omega
theorem sm_mul (c : Int) (f : Nat → Int) : ∀ m, sm (fun j => c * f j) m = c * sm f m := by
  intro m
  induction m with
  | zero => simp [sm]
  | succ m ih => rw [sm, sm, ih, Int.mul_add]
theorem sm_out {f : Nat → Int} {g : Int} {r : Nat} : ∀ m, m ≤ r → sm (fun j => if j = r then g else f j) m = sm f m := by
  intro m h
  exact sm_congr m fun j hj => if_neg (by omega)
theorem sm_at {f : Nat → Int} {g : Int} {r : Nat} : ∀ m, r < m → sm (fun j => if j = r then g else f j) m = sm f m - f r + g := by
  intro m
  induction m with
  | zero => intro h; omega
  | succ m ih =>
    intro h
    rw [sm, sm]
    by_cases e : m = r
    · rw [if_pos e, sm_out m (by omega), e]; omega
    · rw [if_neg e, ih (by omega)]; omega
theorem sm_sw (f : Nat → Int) {r k m : Nat} (hr : r < m) (hk : k < m) : sm (fun j => f (sw r k j)) m = sm f m := by
  have e : ∀ j, f (sw r k j) = if j = r then f k else (if j = k then f r else f j) := by
    intro j
    unfold sw
    split
    · rfl
    · split <;> rfl
  rw [sm_congr m fun j _ => e j, sm_at m hr, sm_at m hk]
  by_cases h : r = k
  · rw [if_pos h, h]; omega
  · rw [if_neg h]; omega
theorem sm_dvd {p : Int} {f : Nat → Int} : ∀ m, (∀ j, j < m → p ∣ f j) → p ∣ sm f m := by
  intro m
  induction m with
  | zero => intro _; exact ⟨0, by simp [sm]⟩
  | succ m ih => intro h; rw [sm]; exact Int.dvd_add (ih fun j hj => h j (by omega)) (h m (by omega))
theorem sm_one (a : Nat → Int) {i m : Nat} (hi : i < m) : sm (fun j => a j * (if j = i then 1 else 0)) m = a i := by
  have e : ∀ j, a j * (if j = i then 1 else 0) = if j = i then a i else 0 := by
    intro j
    by_cases h : j = i
    · rw [if_pos h, if_pos h, h, Int.mul_one]
    · rw [if_neg h, if_neg h, Int.mul_zero]
  rw [sm_congr m fun j _ => e j, sm_at (f := fun _ => 0) m hi]
  have z : ∀ m, sm (fun _ => 0) m = 0 := by
    intro m
    induction m with
    | zero => rfl
    | succ m ih => rw [sm, ih]; rfl
  rw [z]; omega
/-- The rows do not depend on one another. -/
def Ind (p : Int) (n m : Nat) (L : List (List Int)) : Prop := ∀ a : Nat → Int, (∀ k, k < n → p ∣ sm (fun j => a j * ent L j k) m) → ∀ j, j < m → p ∣ a j
theorem sw_sw (r k j : Nat) : sw r k (sw r k j) = j := by
  unfold sw
  split
  · split
    · omega
    · rw [if_pos rfl]; omega
  · split
    · rw [if_pos rfl]; omega
    · rfl
theorem dvd_emod_sub (p a : Int) : p ∣ a - a % p := by
  rw [Int.emod_def]
  exact ⟨a / p, by omega⟩
theorem ind_step {p v : Int} {n m c r k : Nat} {L L' : List (List Int)} (hS : Stp p n m c r k v L L') (hr : r < m) (hk : k < m) (h : Ind p n m L) : Ind p n m L' := by
  intro a' ha
  obtain ⟨S, hSd⟩ : ∃ S, sm (fun j => if j = r then 0 else a' j * ent L (sw r k j) c) m = S := ⟨_, rfl⟩
  obtain ⟨b, hb⟩ : ∃ b : Nat → Int, ∀ j, b j = if j = r then v * (a' r - S) else a' j := ⟨_, fun _ => rfl⟩
  have hM : ∀ l, l < n → p ∣ sm (fun j => b j * ent L (sw r k j) l) m := by
    intro l hl
    obtain ⟨x, hx⟩ : ∃ x, ent L k l = x := ⟨_, rfl⟩
    obtain ⟨M, hMd⟩ : ∃ M : Nat → Int, ∀ j, M j = ent L (sw r k j) l := ⟨_, fun _ => rfl⟩
    have hMr : M r = x := by rw [hMd, sw_r, hx]
    -- the sums agree modulo p
    have h1 : p ∣ sm (fun j => (if j = r then a' r * (x * v) else a' j * M j) - (x * v) * (if j = r then 0 else a' j * ent L (sw r k j) c) - a' j * ent L' j l) m := by
      refine sm_dvd m fun j hj => ?_
      by_cases e : j = r
      · subst e
        rw [if_pos rfl, if_pos rfl, hS.row l hl, hx, Int.mul_zero, Int.sub_zero, ← Int.mul_sub]
        exact Int.dvd_mul_of_dvd_right (dvd_emod_sub p (x * v))
      · rw [if_neg e, if_neg e, hS.els j l hj hl e, hx, ← hMd]
        obtain ⟨y, hy⟩ : ∃ y, ent L (sw r k j) c = y := ⟨_, rfl⟩
        rw [hy]
        have e1 : a' j * M j - x * v * (a' j * y) - a' j * ((M j - y * ((x * v) % p)) % p) = a' j * ((M j - y * ((x * v) % p)) - (M j - y * ((x * v) % p)) % p) - (a' j * y) * ((x * v) - (x * v) % p) := by
          generalize (x * v) % p = z
          generalize (M j - y * z) % p = u
          generalize x * v = xv
          rw [Int.mul_sub, Int.mul_sub, Int.mul_sub, Int.mul_comm xv (a' j * y), Int.mul_assoc (a' j) y z]
          omega
        rw [e1]
        exact Int.dvd_sub (Int.dvd_mul_of_dvd_right (dvd_emod_sub p _)) (Int.dvd_mul_of_dvd_right (dvd_emod_sub p _))
    rw [sm_sub, sm_sub, sm_mul, hSd, sm_at m hr] at h1
    have h2 := Int.dvd_add h1 (ha l hl)
    rw [Int.sub_add_cancel] at h2
    have e2 : sm (fun j => b j * ent L (sw r k j) l) m = sm (fun j => a' j * M j) m - a' r * M r + v * (a' r - S) * x := by
      rw [sm_congr (g := fun j => if j = r then v * (a' r - S) * x else a' j * M j) m fun j _ => ?_, sm_at m hr]
      rw [hb, ← hMd]
      by_cases e : j = r
      · subst e; rw [if_pos rfl, if_pos rfl, hMr]
      · rw [if_neg e, if_neg e]
    rw [e2]
    have e3 : v * (a' r - S) * x = a' r * (x * v) - x * v * S := by
      rw [Int.mul_sub, Int.sub_mul, Int.mul_comm v (a' r), Int.mul_assoc, Int.mul_comm v x, Int.mul_assoc v S x, Int.mul_comm S x, ← Int.mul_assoc v x S, Int.mul_comm v x]
    rw [e3]
    have e4 : sm (fun j => a' j * M j) m - a' r * M r + (a' r * (x * v) - x * v * S) = sm (fun j => a' j * M j) m - a' r * M r + a' r * (x * v) - x * v * S := by omega
    rw [e4]
    exact h2
  have hall : ∀ j, j < m → p ∣ b j := by
    have h3 := h (fun j => b (sw r k j)) fun l hl => by
      have h4 := hM l hl
      have e : sm (fun j => b j * ent L (sw r k j) l) m = sm (fun j => b (sw r k j) * ent L j l) m := by
        rw [← sm_sw (fun j => b (sw r k j) * ent L j l) hr hk]
        exact sm_congr m fun j _ => by simp only [sw_sw]
      rw [e] at h4
      exact h4
    intro j hj
    have h5 := h3 (sw r k j) (sw_lt hr hk hj)
    simp only [sw_sw] at h5
    exact h5
  have hne : ∀ j, j < m → j ≠ r → p ∣ a' j := fun j hj e => by
    have := hall j hj
    rw [hb, if_neg e] at this
    exact this
  intro j hj
  by_cases e : j = r
  · subst e
    have h6 := hall j hj
    rw [hb, if_pos rfl] at h6
    have hS2 : p ∣ S := by
      rw [← hSd]
      refine sm_dvd m fun i hi => ?_
      by_cases e : i = j
      · rw [if_pos e]; exact ⟨0, by simp⟩
      · rw [if_neg e]; exact Int.dvd_mul_of_dvd_left (hne i hi e)
    obtain ⟨w1, hw1⟩ := h6
    obtain ⟨w2, hw2⟩ := hS2
    have hi := hS.inv
    obtain ⟨x, hx⟩ : ∃ x, ent L k c = x := ⟨_, rfl⟩
    rw [hx] at hi
    obtain ⟨z, hz⟩ : ∃ z, x * v = 1 + p * z := ⟨x * v / p, by rw [Int.emod_def] at hi; omega⟩
    -- v a = p w1 + v p w2; a = x v a - p z a
    have h7 : v * a' j = p * (w1 + v * w2) := by
      have : v * a' j = v * (a' j - S) + v * S := by rw [Int.mul_sub]; omega
      rw [this, hw1, hw2, Int.mul_add, Int.mul_left_comm v p w2]
    refine ⟨x * (w1 + v * w2) - z * a' j, ?_⟩
    have h8 : x * v * a' j = p * (x * (w1 + v * w2)) := by rw [Int.mul_assoc, h7, Int.mul_left_comm]
    have h9 : x * v * a' j = a' j + p * (z * a' j) := by rw [hz, Int.add_mul, Int.one_mul, Int.mul_assoc]
    rw [Int.mul_sub, ← h8, h9]
    omega
  · exact hne j hj e
/-! #### the reduced form -/
structure Ech (m c r : Nat) (L : List (List Int)) (q : Nat → Nat) : Prop where
  lt : ∀ i, i < r → q i < c
  inc : ∀ i j, i < j → j < r → q i < q j
  one : ∀ i, i < r → ent L i (q i) = 1
  lead : ∀ i, i < r → ∀ k, k < q i → ent L i k = 0
  zero : ∀ j, r ≤ j → j < m → ∀ k, k < c → ent L j k = 0
theorem ech_step {p v : Int} {n m c r k : Nat} {L L' : List (List Int)} {q : Nat → Nat} (h2 : 2 ≤ p) (hR : Rg p L) (hS : Stp p n m c r k v L L') (hc : c < n) (hr : r < m) (hrk : r ≤ k) (hk : k < m) (h : Ech m c r L q) : Ech m (c + 1) (r + 1) L' (fun i => if i = r then c else q i) := by
  have hz : ∀ l, l < c → (ent L k l * v) % p = 0 := fun l hl => by rw [h.zero k hrk hk l hl, Int.zero_mul, Int.zero_emod]
  have hold : ∀ t l, t < m → l < c → t ≠ r → ent L' t l = ent L (sw r k t) l := fun t l ht hl htr => by
    rw [hS.els t l ht (by omega) htr, hz l hl, Int.mul_zero, Int.sub_zero, Int.emod_eq_of_lt (hR _ _).1 (hR _ _).2]
  have hsi : ∀ i, i < r → sw r k i = i := fun i hi => by unfold sw; rw [if_neg (by omega), if_neg (by omega)]
  have hsj : ∀ j, r < j → r ≤ sw r k j := fun j hj => by unfold sw; split; omega; split <;> omega
  refine ⟨fun i hi => ?_, fun i j hij hj => ?_, fun i hi => ?_, fun i hi l hl => ?_, fun j hj hjm l hl => ?_⟩
  · by_cases e : i = r
    · simp only [if_pos e]; omega
    · simp only [if_neg e]; have := h.lt i (by omega); omega
  · by_cases e : j = r
    · simp only [if_pos e, if_neg (show ¬ i = r by omega)]
      exact h.lt i (by omega)
    · simp only [if_neg e, if_neg (show ¬ i = r by omega)]
      exact h.inc i j hij (by omega)
  · by_cases e : i = r
    · simp only [if_pos e]; rw [e, hS.row c hc, hS.inv]
    · simp only [if_neg e]
      have hi2 : i < r := by omega
      rw [hold i _ (by omega) (h.lt i hi2) e, hsi i hi2]
      exact h.one i hi2
  · by_cases e : i = r
    · simp only [if_pos e] at hl
      rw [e, hS.row l (by omega), hz l hl]
    · simp only [if_neg e] at hl
      have hi2 : i < r := by omega
      have := h.lt i hi2
      rw [hold i _ (by omega) (by omega) e, hsi i hi2]
      exact h.lead i hi2 l hl
  · have hjr : j ≠ r := by omega
    by_cases e : l = c
    · subst e
      rw [hS.els j l hjm hc hjr, hS.inv, Int.mul_one, Int.sub_self, Int.zero_emod]
    · rw [hold j l hjm (by omega) hjr]
      exact h.zero _ (hsj j (by omega)) (sw_lt hr hk hjm) l (by omega)
theorem g0_ech {p : Int} {n m : Nat} (hp : isP p = true) : ∀ (d c : Nat) (L : List (List Int)) (r : Nat) (q : Nat → Nat), c + d = n → Dm n m L → Rg p L → r ≤ m → Ech m c r L q →
    Dm n m (g0 p (iv2 p) m n d c L r).1 ∧ Rg p (g0 p (iv2 p) m n d c L r).1 ∧ (g0 p (iv2 p) m n d c L r).2 ≤ m ∧ (∃ q', Ech m n (g0 p (iv2 p) m n d c L r).2 (g0 p (iv2 p) m n d c L r).1 q') ∧ (Ind p n m L → Ind p n m (g0 p (iv2 p) m n d c L r).1) := by
  obtain ⟨h2, h1⟩ := isP_range hp
  intro d
  induction d with
  | zero =>
    intro c L r q hc hD hR hr h
    obtain rfl : c = n := by omega
    exact ⟨hD, hR, hr, ⟨q, h⟩, fun h => h⟩
  | succ d ih =>
    intro c L r q hc hD hR hr h
    rw [g0]
    by_cases hm : m ≤ r
    · rw [if_pos hm]
      exact ⟨hD, hR, hr, ⟨q, fun i hi => by have := h.lt i hi; omega, h.inc, h.one, h.lead, fun j hj hjm => by omega⟩, fun h => h⟩
    · rw [if_neg hm]
      cases hk : ixg L c (m - r) r with
      | none =>
        refine ih (c + 1) L r q (by omega) hD hR hr ⟨fun i hi => by have := h.lt i hi; omega, h.inc, h.one, h.lead, fun j hj hjm l hl => ?_⟩
        by_cases e : l = c
        · rw [e]; exact ixg_none hk j hj (by omega)
        · exact h.zero j hj hjm l (by omega)
      | some k =>
        obtain ⟨k1, k2, k3⟩ := ixg_some hk
        obtain ⟨⟨v, hS⟩, _⟩ := stp_spec (n := n) (m := m) (c := c) (r := r) (k := k) hp hD hR (by omega) (by omega) (by omega) k3
        obtain ⟨i1, i2, i3, i4, i5⟩ := ih (c + 1) (stp p n m c r k L) (r + 1) _ (by omega) hS.dm hS.rg (by omega) (ech_step h2 hR hS (by omega) (by omega) k1 (by omega) h)
        exact ⟨i1, i2, i3, i4, fun hI => i5 (ind_step hS (by omega) (by omega) hI)⟩
theorem ech_start (m : Nat) (L : List (List Int)) : Ech m 0 0 L (fun _ => 0) := ⟨fun i hi => by omega, fun i j _ hj => by omega, fun i hi => by omega, fun i hi => by omega, fun j _ _ k hk => by omega⟩
theorem fz_at {row : List Int} {q : Nat} : ∀ (d j : Nat), j ≤ q → q < j + d → (∀ k, k < q → row.getD k 0 = 0) → row.getD q 0 ≠ 0 → fz row d j = some q := by
  intro d
  induction d with
  | zero => intro j h1 h2; omega
  | succ d ih =>
    intro j h1 h2 h3 h4
    rw [fz]
    by_cases e : j = q
    · rw [e, if_neg h4]
    · rw [if_pos (h3 j (by omega))]
      exact ih (j + 1) (by omega) (by omega) h3 h4
/-! #### the leads -/
theorem take_row {L : List (List Int)} {r i : Nat} (hi : i < r) : (L.take r).getD i [] = L.getD i [] := getD_take L [] hi
theorem ls_go {R : List (List Int)} {n r : Nat} {q : Nat → Nat} (hq : ∀ i, i < r → fz (R.getD i []) n 0 = some (q i)) (hqn : ∀ i, i < r → q i < n) (hinj : ∀ i j, i < r → j < r → q i = q j → i = j) : ∀ (d i : Nat) (l : List Int), i + d = r → l.length = n →
    (∀ t, t < i → l.getD (q t) 0 = (t : Int)) → (∀ k, k < n → (∀ t, t < i → q t ≠ k) → l.getD k 0 = -1) →
    (ls R n d i l).length = n ∧ (∀ t, t < r → (ls R n d i l).getD (q t) 0 = (t : Int)) ∧ (∀ k, k < n → (∀ t, t < r → q t ≠ k) → (ls R n d i l).getD k 0 = -1) := by
  intro d
  induction d with
  | zero =>
    intro i l hi hl h1 h2
    obtain rfl : i = r := by omega
    exact ⟨hl, h1, h2⟩
  | succ d ih =>
    intro i l hi hl h1 h2
    rw [ls, hq i (by omega)]
    have hqi := hqn i (by omega)
    refine ih (i + 1) _ (by omega) (by rw [List.length_set]; exact hl) (fun t ht => ?_) (fun k hk hne => ?_)
    · rw [getD_set _ _ _ _ _ (by omega)]
      by_cases e : t = i
      · subst e; rw [if_pos rfl]
      · rw [if_neg (fun h => e (hinj _ _ (by omega) (by omega) h).symm)]
        exact h1 t (by omega)
    · rw [getD_set _ _ _ _ _ (by omega), if_neg (hne i (by omega))]
      exact h2 k hk fun t ht => hne t (by omega)
/-! #### the vectors -/
theorem kx_get {p : Int} {L : List (List Int)} {q : Nat → Nat} {c n r : Nat} (hqn : ∀ i, i < r → q i < n) (hinj : ∀ i j, i < r → j < r → q i = q j → i = j) : ∀ (d i : Nat) (x : List Int), i + d = r → x.length = n →
    (kx p L q c d i x).length = n ∧ (∀ t, i ≤ t → t < r → (kx p L q c d i x).getD (q t) 0 = md p (wrap64 (-(ent L t c)))) ∧ (∀ k, k < n → (∀ t, i ≤ t → t < r → q t ≠ k) → (kx p L q c d i x).getD k 0 = x.getD k 0) := by
  intro d
  induction d with
  | zero =>
    intro i x hi hx
    exact ⟨hx, fun t h1 h2 => by omega, fun k _ _ => rfl⟩
  | succ d ih =>
    intro i x hi hx
    rw [kx]
    have hqi := hqn i (by omega)
    obtain ⟨i1, i2, i3⟩ := ih (i + 1) (x.set (q i) (md p (wrap64 (-(ent L i c))))) (by omega) (by rw [List.length_set]; exact hx)
    refine ⟨i1, fun t h1 h2 => ?_, fun k hk hne => ?_⟩
    · by_cases e : t = i
      · subst e
        rw [i3 (q t) hqi fun s hs1 hs2 h => by have := hinj s t (by omega) (by omega) h; omega, getD_set _ _ _ _ _ (by omega), if_pos rfl]
      · exact i2 t (by omega) h2
    · rw [i3 k hk fun t h1 h2 => hne t (by omega) h2, getD_set _ _ _ _ _ (by omega), if_neg (hne i (by omega) (by omega))]
theorem ow_get {p : Int} {R : List (List Int)} {l : List Int} {j n : Nat} : ∀ (d i : Nat) (x : List Int), i + d = n → x.length = n →
    (ow p R l j d i x).length = n ∧ ∀ k, k < n → (ow p R l j d i x).getD k 0 = if i ≤ k ∧ 0 ≤ l.getD k 0 then md p (wrap64 (-(ent R (l.getD k 0).toNat j))) else x.getD k 0 := by
  intro d
  induction d with
  | zero =>
    intro i x hi hx
    refine ⟨hx, fun k hk => ?_⟩
    rw [ow, if_neg (by omega)]
  | succ d ih =>
    intro i x hi hx
    rw [ow]
    obtain ⟨i1, i2⟩ := ih (i + 1) (if 0 ≤ l.getD i 0 then x.set i (md p (wrap64 (-(ent R (l.getD i 0).toNat j)))) else x) (by omega) (by split; rw [List.length_set]; exact hx; exact hx)
    refine ⟨i1, fun k hk => ?_⟩
    rw [i2 k hk]
    by_cases e : k = i
    · subst e
      rw [if_neg (by omega)]
      by_cases h0 : 0 ≤ l.getD k 0
      · rw [if_pos h0, if_pos ⟨Nat.le_refl _, h0⟩, getD_set _ _ _ _ _ (by omega), if_pos rfl]
      · rw [if_neg h0, if_neg (fun h => h0 h.2)]
    · by_cases h1 : i ≤ k ∧ 0 ≤ l.getD k 0
      · rw [if_pos ⟨by omega, h1.2⟩, if_pos h1]
      · rw [if_neg (fun h => h1 ⟨by omega, h.2⟩), if_neg h1]
        split
        · rw [getD_set _ _ _ _ _ (by omega), if_neg (fun h => e h.symm)]
        · rfl
theorem row_ext {x y : List Int} {n : Nat} (hx : x.length = n) (hy : y.length = n) (h : ∀ k, k < n → x.getD k 0 = y.getD k 0) : x = y := by
  refine List.ext_getElem (by omega) fun k h1 h2 => ?_
  have := h k (by omega)
  rw [List.getD_eq_getElem?_getD, List.getD_eq_getElem?_getD, List.getElem?_eq_getElem h1, List.getElem?_eq_getElem h2] at this
  exact this
/-- What both find: the leads. -/
structure Lds (n r : Nat) (q : Nat → Nat) (l : List Int) : Prop where
  len : l.length = n
  qn : ∀ i, i < r → q i < n
  inj : ∀ i j, i < r → j < r → q i = q j → i = j
  at_ : ∀ t, t < r → l.getD (q t) 0 = (t : Int)
  out : ∀ k, k < n → (∀ t, t < r → q t ≠ k) → l.getD k 0 = -1
theorem ow_kx {p : Int} {L : List (List Int)} {q : Nat → Nat} {l : List Int} {n r j : Nat} (h : Lds n r q l) (x : List Int) (hx : x.length = n) : ow p (L.take r) l j n 0 x = kx p L q j r 0 x := by
  obtain ⟨k1, k2, k3⟩ := kx_get (p := p) (L := L) (c := j) h.qn h.inj r 0 x (by omega) hx
  obtain ⟨o1, o2⟩ := ow_get (p := p) (R := L.take r) (l := l) (j := j) n 0 x (by omega) hx
  refine row_ext o1 k1 fun k hk => ?_
  rw [o2 k hk]
  by_cases e : ∃ t, t < r ∧ q t = k
  · obtain ⟨t, ht, rfl⟩ := e
    rw [k2 t (by omega) ht, h.at_ t ht, if_pos ⟨by omega, by omega⟩, Int.toNat_natCast]
    unfold ent
    rw [take_row ht]
  · rw [k3 k hk fun t _ ht he => e ⟨t, ht, he⟩, h.out k hk fun t ht he => e ⟨t, ht, he⟩, if_neg (by omega)]
theorem mem_pvs {q : Nat → Nat} {r k : Nat} : ((k : Nat) : Int) ∈ pvs q r ↔ ∃ t, t < r ∧ q t = k := by
  unfold pvs
  rw [List.mem_map]
  constructor
  · rintro ⟨t, ht, he⟩
    exact ⟨t, List.mem_range.1 ht, by omega⟩
  · rintro ⟨t, ht, he⟩
    exact ⟨t, List.mem_range.2 ht, by omega⟩
theorem os_ko {p : Int} {L : List (List Int)} {q : Nat → Nat} {l : List Int} {n r : Nat} (h : Lds n r q l) : ∀ (d j : Nat) (acc : List (List Int)), j + d = n → os p (L.take r) l n d j acc = ko p L q r n d j acc := by
  intro d
  induction d with
  | zero => intros; rfl
  | succ d ih =>
    intro j acc hj
    rw [os, ko]
    have hiff : (0 ≤ l.getD j 0) ↔ ((j : Nat) : Int) ∈ pvs q r := by
      rw [mem_pvs]
      constructor
      · intro h0
        by_cases e : ∃ t, t < r ∧ q t = j
        · exact e
        · rw [h.out j (by omega) fun t ht he => e ⟨t, ht, he⟩] at h0; omega
      · rintro ⟨t, ht, rfl⟩
        rw [h.at_ t ht]; omega
    by_cases e : ((j : Nat) : Int) ∈ pvs q r
    · rw [if_pos e, if_pos (hiff.2 e)]
      exact ih _ _ (by omega)
    · rw [if_neg e, if_neg (fun h => e (hiff.1 h)), ow_kx h _ (by rw [List.length_set, List.length_replicate])]
      exact ih _ _ (by omega)
/-- The vectors of the kernel. -/
structure Ker (p : Int) (n r c : Nat) (q : Nat → Nat) (acc : List (List Int)) (f : Nat → Nat) : Prop where
  dm : Dm n acc.length acc
  rg : ∀ j k, j < acc.length → k < n → 0 ≤ ent acc j k ∧ ent acc j k < p
  cnt : acc.length ≤ c
  fc : ∀ i, i < acc.length → f i < c
  fq : ∀ i, i < acc.length → ∀ t, t < r → q t ≠ f i
  inj : ∀ i j, i < acc.length → j < acc.length → f i = f j → i = j
  del : ∀ i, i < acc.length → ∀ k, k < n → (∀ t, t < r → q t ≠ k) → ent acc i k = if k = f i then 1 else 0
theorem ko_ker {p : Int} {L : List (List Int)} {q : Nat → Nat} {l : List Int} {n r : Nat} (h2 : 2 ≤ p) (h1 : p ≤ 97) (h : Lds n r q l) : ∀ (d c : Nat) (acc : List (List Int)) (f : Nat → Nat), c + d = n → Ker p n r c q acc f → ∃ f', Ker p n r n q (ko p L q r n d c acc) f' := by
  intro d
  induction d with
  | zero =>
    intro c acc f hc hK
    obtain rfl : c = n := by omega
    exact ⟨f, hK⟩
  | succ d ih =>
    intro c acc f hc hK
    rw [ko]
    by_cases e : ((c : Nat) : Int) ∈ pvs q r
    · rw [if_pos e]
      exact ih (c + 1) acc f (by omega) ⟨hK.dm, hK.rg, by have := hK.cnt; omega, fun i hi => by have := hK.fc i hi; omega, hK.fq, hK.inj, hK.del⟩
    · rw [if_neg e]
      have hne : ∀ t, t < r → q t ≠ c := fun t ht he => e (mem_pvs.2 ⟨t, ht, he⟩)
      obtain ⟨x, hx⟩ : ∃ x, kx p L q c r 0 ((List.replicate n 0).set c 1) = x := ⟨_, rfl⟩
      obtain ⟨k1, k2, k3⟩ := kx_get (p := p) (L := L) (c := c) h.qn h.inj r 0 ((List.replicate n 0).set c 1) (by omega) (by rw [List.length_set, List.length_replicate])
      rw [hx] at k1 k2 k3 ⊢
      have hx0 : ∀ k, k < n → ((List.replicate n (0 : Int)).set c 1).getD k 0 = if k = c then 1 else 0 := fun k hk => by
        rw [getD_set _ _ _ _ _ (by rw [List.length_replicate]; omega)]
        by_cases e : c = k
        · rw [if_pos e, if_pos e.symm]
        · rw [if_neg e, if_neg (fun h => e h.symm), List.getD_eq_getElem?_getD, List.getElem?_replicate, if_pos hk]; rfl
      have hlen : (acc ++ [x]).length = acc.length + 1 := by simp
      have hent : ∀ j k, ent (acc ++ [x]) j k = if j < acc.length then ent acc j k else if j = acc.length then x.getD k 0 else 0 := fun j k => by
        unfold ent
        rw [getD_snoc]
        split
        · rfl
        · split
          · rfl
          · rfl
      refine ih (c + 1) (acc ++ [x]) (fun i => if i = acc.length then c else f i) (by omega) ⟨⟨rfl, fun j hj => ?_⟩, fun j k hj hk => ?_, by rw [hlen]; have := hK.cnt; omega, fun i hi => ?_, fun i hi t ht => ?_, fun i j hi hj hij => ?_, fun i hi k hk hkq => ?_⟩
      · rw [getD_snoc]
        rw [hlen] at hj
        by_cases e1 : j < acc.length
        · rw [if_pos e1]; exact hK.dm.2 j e1
        · rw [if_neg e1, if_pos (by omega)]; exact k1
      · rw [hent]
        by_cases e1 : j < acc.length
        · rw [if_pos e1]; exact hK.rg j k e1 hk
        · rw [if_neg e1]
          split
          · by_cases e2 : ∃ t, t < r ∧ q t = k
            · obtain ⟨t, ht, rfl⟩ := e2
              rw [k2 t (by omega) ht]
              exact md_range h2 h1 _
            · rw [k3 k hk fun t _ ht he => e2 ⟨t, ht, he⟩, hx0 k hk]
              split <;> omega
          · omega
      · by_cases e1 : i = acc.length
        · simp only [if_pos e1]; omega
        · simp only [if_neg e1]; rw [hlen] at hi; have := hK.fc i (by omega); omega
      · by_cases e1 : i = acc.length
        · simp only [if_pos e1]; exact hne t ht
        · simp only [if_neg e1]; rw [hlen] at hi; exact hK.fq i (by omega) t ht
      · rw [hlen] at hi hj
        by_cases e1 : i = acc.length <;> by_cases e2 : j = acc.length
        · omega
        · simp only [if_pos e1, if_neg e2] at hij
          have := hK.fc j (by omega); omega
        · simp only [if_neg e1, if_pos e2] at hij
          have := hK.fc i (by omega); omega
        · simp only [if_neg e1, if_neg e2] at hij
          exact hK.inj i j (by omega) (by omega) hij
      · rw [hlen] at hi
        rw [hent]
        by_cases e1 : i = acc.length
        · rw [if_neg (by omega), if_pos e1, k3 k hk fun t _ ht => hkq t ht, hx0 k hk]
          simp only [if_pos e1]
        · rw [if_pos (by omega), hK.del i (by omega) k hk hkq]
          simp only [if_neg e1]
theorem ker_ind {p : Int} {n r : Nat} {q : Nat → Nat} {acc : List (List Int)} {f : Nat → Nat} (hK : Ker p n r n q acc f) : Ind p n acc.length acc := by
  intro a ha j hj
  have h := ha (f j) (hK.fc j hj)
  have e : sm (fun i => a i * ent acc i (f j)) acc.length = a j := by
    rw [← sm_one a hj]
    refine sm_congr _ fun i hi => ?_
    rw [hK.del i hi (f j) (hK.fc j hj) (hK.fq j hj)]
    by_cases e1 : i = j
    · rw [e1, if_pos rfl, if_pos rfl]
    · rw [if_neg (fun h => e1 (hK.inj i j hi hj h.symm)), if_neg e1]
  rw [e] at h
  exact h
/-- Both texts find the same radical. -/
theorem radical_same {p : Int} {T : List (List Int)} (hp : isP p = true) (hR : Rg p T) (hD : Dm T.length T.length T) (h0 : 0 < T.length) (h9 : T.length ≤ 9) (hr : ∀ r ∈ T, r.length = T.length) (hs : ∀ i j, i < T.length → j < T.length → ent T i j = ent T j i) :
    ∃ R, kerF p T = some R ∧ radF p T = some R ∧ R.length ≤ 9 ∧ ∀ x ∈ R, x.length = T.length := by
  obtain ⟨h2, h1⟩ := isP_range hp
  have hSq : Sqr T := ⟨h0, by omega, hr⟩
  obtain ⟨g1, g2, g3, ⟨q, hE⟩, _⟩ := g0_ech hp T.length 0 T 0 (fun _ => 0) (by omega) hD hR (by omega) (ech_start _ _)
  obtain ⟨G, hG⟩ : ∃ G, g0 p (iv2 p) T.length T.length T.length 0 T 0 = G := ⟨_, rfl⟩
  rw [hG] at g1 g2 g3 hE
  have eG : kerG p T = G := hG
  -- the table is symmetric
  have hT : trs T T.length T.length = T := by
    refine tab_ext (n := T.length) (m := T.length) ⟨trs_len .., fun j hj => ?_⟩ hD fun j i hj hi => ?_
    · unfold trs; simp [List.getD_eq_getElem?_getD, hj, trr_len]
    · unfold trs trr ent
      simp only [List.getD_eq_getElem?_getD, List.getElem?_map, List.getElem?_range hj, Option.map_some, Option.getD_some, List.getElem?_range hi]
      have := hs i j hi hj
      unfold ent at this
      simpa [List.getD_eq_getElem?_getD] using this
  have eR : radG p T = G := by unfold radG; rw [hT, r0_g0 hp _ _ _ _ (by omega) hD hR]; exact hG
  have hfz : ∀ i, i < G.2 → fz (G.1.getD i []) T.length 0 = some (q i) := fun i hi => fz_at _ _ (by omega) (by have := hE.lt i hi; omega) (fun k hk => hE.lead i hi k hk) (by rw [show (G.1.getD i []).getD (q i) 0 = 1 from hE.one i hi]; decide)
  have hinj : ∀ i j, i < G.2 → j < G.2 → q i = q j → i = j := fun i j hi hj e => by
    rcases Nat.lt_trichotomy i j with h | h | h
    · have := hE.inc i j h hj; omega
    · exact h
    · have := hE.inc j i h hi; omega
  -- the leads
  have hfz2 : ∀ i, i < G.2 → fz ((G.1.take G.2).getD i []) T.length 0 = some (q i) := fun i hi => by rw [take_row hi]; exact hfz i hi
  obtain ⟨l1, l2, l3⟩ := ls_go hfz2 (fun i hi => hE.lt i hi) hinj G.2 0 (lf T.length 0 (List.replicate T.length 0)) (by omega)
    (by rw [lf_go T.length T.length 0 _ (by omega) (by simp) (fun k hk => absurd hk (Nat.not_lt_zero _))]; simp) (fun t ht => by omega)
    (fun k hk _ => by
      rw [lf_go T.length T.length 0 _ (by omega) (by simp) (fun k hk => absurd hk (Nat.not_lt_zero _)), List.getD_eq_getElem?_getD, List.getElem?_replicate, if_pos hk]; rfl)
  have hLd : Lds T.length G.2 q (radL p T) := by
    have e : radL p T = ls (G.1.take G.2) T.length G.2 0 (lf T.length 0 (List.replicate T.length 0)) := by unfold radL; rw [eR]
    rw [e]
    exact ⟨l1, fun i hi => hE.lt i hi, hinj, l2, l3⟩
  have hkV : ∀ i, i < G.2 → kerV p T i = q i := fun i hi => by unfold kerV; rw [eG, hfz i hi]; rfl
  have hko : kerO p T = ko p G.1 q G.2 T.length T.length 0 [] := by
    unfold kerO
    rw [eG]
    have hpv : pvs (kerV p T) G.2 = pvs q G.2 := by
      unfold pvs
      exact List.map_congr_left fun i hi => by rw [hkV i (List.mem_range.1 hi)]
    have hkx : ∀ (d i c : Nat) (x : List Int), i + d = G.2 → kx p G.1 (kerV p T) c d i x = kx p G.1 q c d i x := by
      intro d
      induction d with
      | zero => intros; rfl
      | succ d ih => intro i c x hi; rw [kx, kx, hkV i (by omega)]; exact ih _ _ _ (by omega)
    have : ∀ (d c : Nat) (acc : List (List Int)), ko p G.1 (kerV p T) G.2 T.length d c acc = ko p G.1 q G.2 T.length d c acc := by
      intro d
      induction d with
      | zero => intros; rfl
      | succ d ih => intro c acc; rw [ko, ko, hpv, hkx _ _ _ _ (by omega)]; exact ih _ _
    exact this _ _ _
  have hro : radO p T = kerO p T := by
    unfold radO
    rw [eR, os_ko hLd _ _ _ (by omega), hko]
  obtain ⟨f, hK⟩ := ko_ker (L := G.1) h2 h1 hLd T.length 0 [] (fun _ => 0) (by omega) ⟨⟨rfl, fun j hj => absurd hj (Nat.not_lt_zero _)⟩, fun j k hj => absurd hj (Nat.not_lt_zero _), Nat.le_refl _, fun i hi => absurd hi (Nat.not_lt_zero _), fun i hi => absurd hi (Nat.not_lt_zero _), fun i j hi => absurd hi (Nat.not_lt_zero _), fun i hi => absurd hi (Nat.not_lt_zero _)⟩
  rw [← hko] at hK
  obtain ⟨O, hO⟩ : ∃ O, kerO p T = O := ⟨_, rfl⟩
  rw [hO] at hK
  have hRO : Rg p O := Rg.of h2 hK.dm hK.rg
  obtain ⟨o1, o2, o3, ⟨q2, hE2⟩, o5⟩ := g0_ech (n := T.length) hp T.length 0 O 0 (fun _ => 0) (by omega) hK.dm hRO (by omega) (ech_start _ _)
  have hI := o5 (ker_ind hK)
  obtain ⟨H, hH⟩ : ∃ H, g0 p (iv2 p) O.length T.length T.length 0 O 0 = H := ⟨_, rfl⟩
  rw [hH] at o1 o2 o3 hE2 hI
  have eH : kerH p T = H := by unfold kerH; rw [hO]; exact hH
  have eH2 : radH p T = H := by unfold radH; rw [hro, hO, r0_g0 hp _ _ _ _ (by omega) hK.dm hRO]; exact hH
  have hfull : H.2 = O.length := by
    by_cases e : H.2 < O.length
    · have hd := hI (fun j => if j = H.2 then 1 else 0) (fun k hk => by
        have e1 : sm (fun j => (if j = H.2 then 1 else 0) * ent H.1 j k) O.length = 0 := by
          rw [sm_congr (g := fun j => ent H.1 j k * (if j = H.2 then 1 else 0)) _ fun j _ => Int.mul_comm _ _, sm_one (fun j => ent H.1 j k) e]
          exact hE2.zero _ (Nat.le_refl _) e k hk
        rw [e1]; exact ⟨0, by simp⟩) H.2 e
      rw [if_pos rfl] at hd
      have := Int.le_of_dvd (by omega) hd
      omega
    · omega
  have hlen : H.1.length = O.length := o1.1
  refine ⟨H.1, ?_, ?_, ?_, fun x hx => ?_⟩
  · have hkB : kerB p T = true := by
      unfold kerB
      rw [eG, eH, hO]
      simp only [Bool.and_eq_true, decide_eq_true_eq]
      refine ⟨⟨⟨⟨⟨h2, by omega⟩, g1.1⟩, g3⟩, ?_⟩, hlen⟩
      exact List.all_eq_true.2 fun i hi => by rw [hfz i (List.mem_range.1 hi)]; rfl
    unfold kerF
    rw [if_pos ⟨hSq, hkB⟩, eH]
  · have hrB : radB p T = true := by
      unfold radB
      rw [eR]
      simp only [Bool.and_eq_true, decide_eq_true_eq]
      exact ⟨⟨h2, by omega⟩, g3⟩
    unfold radF
    rw [if_pos ⟨hSq, hrB⟩, eH2, hfull, ← hlen, List.take_length]
  · rw [hlen]; have := hK.cnt; omega
  · obtain ⟨j, hj, rfl⟩ := List.getElem_of_mem hx
    have := o1.2 j (by omega)
    rw [List.getD_eq_getElem?_getD, List.getElem?_eq_getElem hj] at this
    exact this

end Go.Proofs.Ytmpdloamgiejhaa.PR
namespace Go.Proofs.Ytmpdloamgiejhaa.PN
open Go.RowKit Go.Proofs.Ytmpdloamgiejhaa.Hand Go.Proofs.YtmpdloamgiejhaaW.PrintWords Go.Proofs.YtmpdloamgiejhaaW.PrintLast Go.Proofs.Ytmpdloamgiejhaa.PA Go.Proofs.Ytmpdloamgiejhaa.PE Go.Proofs.Ytmpdloamgiejhaa.PR
set_option linter.unusedVariables false
set_option linter.unusedSimpArgs false

/-- In a column of a first entry all other rows have 0. -/
def Off (m r : Nat) (L : List (List Int)) (q : Nat → Nat) : Prop := ∀ i, i < r → ∀ j, j < m → j ≠ i → ent L j (q i) = 0
theorem off_step {p v : Int} {n m c r k : Nat} {L L' : List (List Int)} {q : Nat → Nat} (h2 : 2 ≤ p) (hR : Rg p L) (hS : Stp p n m c r k v L L') (hc : c < n) (hr : r < m) (hrk : r ≤ k) (hk : k < m) (h : Ech m c r L q) (ho : Off m r L q) : Off m (r + 1) L' (fun i => if i = r then c else q i) := by
  have hz : ∀ l, l < c → (ent L k l * v) % p = 0 := fun l hl => by rw [h.zero k hrk hk l hl, Int.zero_mul, Int.zero_emod]
  intro i hi j hj hji
  by_cases e : i = r
  · simp only [if_pos e]
    rw [hS.els j c hj hc (by omega), hS.inv, Int.mul_one, Int.sub_self, Int.zero_emod]
  · simp only [if_neg e]
    have hi2 : i < r := by omega
    have hq := h.lt i hi2
    by_cases e2 : j = r
    · rw [e2, hS.row _ (by omega), hz _ hq]
    · rw [hS.els j _ hj (by omega) e2, hz _ hq, Int.mul_zero, Int.sub_zero, ho i hi2 _ (sw_lt hr hk hj) (fun e3 => ?_), Int.zero_emod]
      have : sw r k i = j := by rw [← e3, sw_sw]
      have h4 : sw r k i = i := by unfold sw; rw [if_neg (by omega), if_neg (by omega)]
      omega
/-- Every row times x is 0. -/
def Nul (p : Int) (n m : Nat) (L : List (List Int)) (x : Nat → Int) : Prop := ∀ i, i < m → p ∣ sm (fun k => ent L i k * x k) n
theorem nul_row {p v : Int} {n m c r k : Nat} {L L' : List (List Int)} (hS : Stp p n m c r k v L L') (x : Nat → Int) : p ∣ v * sm (fun j => ent L k j * x j) n - sm (fun j => ent L' r j * x j) n := by
  rw [← sm_mul, ← sm_sub]
  refine sm_dvd n fun j hj => ?_
  rw [hS.row j hj]
  have e : v * (ent L k j * x j) - ent L k j * v % p * x j = (ent L k j * v - ent L k j * v % p) * x j := by
    rw [Int.sub_mul, Int.mul_comm (ent L k j) v, Int.mul_assoc]
  rw [e]
  exact Int.dvd_mul_of_dvd_left (dvd_emod_sub p _)
theorem nul_els {p v : Int} {n m c r k t : Nat} {L L' : List (List Int)} (hS : Stp p n m c r k v L L') (ht : t < m) (htr : t ≠ r) (x : Nat → Int) : p ∣ (sm (fun j => ent L (sw r k t) j * x j) n - (ent L (sw r k t) c * v) * sm (fun j => ent L k j * x j) n) - sm (fun j => ent L' t j * x j) n := by
  rw [← sm_mul, ← sm_sub, ← sm_sub]
  refine sm_dvd n fun j hj => ?_
  rw [hS.els t j ht hj htr]
  obtain ⟨y, hy⟩ : ∃ y, ent L (sw r k t) c = y := ⟨_, rfl⟩
  obtain ⟨a, ha⟩ : ∃ a, ent L (sw r k t) j = a := ⟨_, rfl⟩
  obtain ⟨b, hb⟩ : ∃ b, ent L k j = b := ⟨_, rfl⟩
  rw [hy, ha, hb]
  have e : a * x j - y * v * (b * x j) - (a - y * (b * v % p)) % p * x j = ((a - y * (b * v % p)) - (a - y * (b * v % p)) % p) * x j - y * (b * v - b * v % p) * x j := by
    generalize (a - y * (b * v % p)) % p = u
    generalize b * v % p = z
    have e1 : y * v * (b * x j) = y * (b * v) * x j := by
      rw [Int.mul_assoc y v, Int.mul_assoc y (b * v), ← Int.mul_assoc v b, Int.mul_comm v b]
    rw [e1, Int.sub_mul, Int.sub_mul, Int.mul_sub, Int.sub_mul]
    omega
  rw [e]
  exact Int.dvd_sub (Int.dvd_mul_of_dvd_left (dvd_emod_sub p _)) (Int.dvd_mul_of_dvd_left (Int.dvd_mul_of_dvd_right (dvd_emod_sub p _)))
theorem nul_fwd {p v : Int} {n m c r k : Nat} {L L' : List (List Int)} (hS : Stp p n m c r k v L L') (hr : r < m) (hk : k < m) {x : Nat → Int} (h : Nul p n m L x) : Nul p n m L' x := by
  intro t ht
  by_cases e : t = r
  · subst e
    have h1 := nul_row hS x
    have h2 : p ∣ v * sm (fun j => ent L k j * x j) n := Int.dvd_mul_of_dvd_right (h k hk)
    have := Int.dvd_sub h2 h1
    rwa [Int.sub_sub_self] at this
  · have h1 := nul_els hS ht e x
    have h2 : p ∣ sm (fun j => ent L (sw r k t) j * x j) n - (ent L (sw r k t) c * v) * sm (fun j => ent L k j * x j) n := Int.dvd_sub (h _ (sw_lt hr hk ht)) (Int.dvd_mul_of_dvd_right (h k hk))
    have := Int.dvd_sub h2 h1
    rwa [Int.sub_sub_self] at this
theorem dvd_unit {p x v s : Int} (hi : (x * v) % p = 1) (h : p ∣ v * s) : p ∣ s := by
  obtain ⟨w, hw⟩ := h
  obtain ⟨z, hz⟩ : ∃ z, x * v = 1 + p * z := ⟨x * v / p, by rw [Int.emod_def] at hi; omega⟩
  refine ⟨x * w - z * s, ?_⟩
  have h8 : x * v * s = p * (x * w) := by rw [Int.mul_assoc, hw, Int.mul_left_comm]
  have h9 : x * v * s = s + p * (z * s) := by rw [hz, Int.add_mul, Int.one_mul, Int.mul_assoc]
  rw [Int.mul_sub, ← h8, h9]
  omega
theorem nul_back {p v : Int} {n m c r k : Nat} {L L' : List (List Int)} (hS : Stp p n m c r k v L L') (hr : r < m) (hk : k < m) {x : Nat → Int} (h : Nul p n m L' x) : Nul p n m L x := by
  have hK : p ∣ sm (fun j => ent L k j * x j) n := by
    refine dvd_unit hS.inv ?_
    have := Int.dvd_add (nul_row hS x) (h r hr)
    rwa [Int.sub_add_cancel] at this
  intro i hi
  have hti := sw_lt hr hk hi
  by_cases e : sw r k i = r
  · have : i = k := by rw [← sw_sw r k i, e, sw_r]
    rw [this]; exact hK
  · have h1 := Int.dvd_add (nul_els hS hti e x) (h _ hti)
    rw [Int.sub_add_cancel, sw_sw] at h1
    have h2 := Int.dvd_add h1 (Int.dvd_mul_of_dvd_right (b := ent L i c * v) hK)
    rwa [Int.sub_add_cancel] at h2
theorem g0_ech2 {p : Int} {n m : Nat} (hp : isP p = true) : ∀ (d c : Nat) (L : List (List Int)) (r : Nat) (q : Nat → Nat), c + d = n → Dm n m L → Rg p L → r ≤ m → Ech m c r L q → Off m r L q →
    (∃ q', Ech m n (g0 p (iv2 p) m n d c L r).2 (g0 p (iv2 p) m n d c L r).1 q' ∧ Off m (g0 p (iv2 p) m n d c L r).2 (g0 p (iv2 p) m n d c L r).1 q') ∧ (∀ x, Nul p n m L x ↔ Nul p n m (g0 p (iv2 p) m n d c L r).1 x) := by
  obtain ⟨h2, h1⟩ := isP_range hp
  intro d
  induction d with
  | zero =>
    intro c L r q hc hD hR hr h ho
    obtain rfl : c = n := by omega
    exact ⟨⟨q, h, ho⟩, fun x => Iff.rfl⟩
  | succ d ih =>
    intro c L r q hc hD hR hr h ho
    rw [g0]
    by_cases hm : m ≤ r
    · rw [if_pos hm]
      exact ⟨⟨q, ⟨fun i hi => by have := h.lt i hi; omega, h.inc, h.one, h.lead, fun j hj hjm => by omega⟩, ho⟩, fun x => Iff.rfl⟩
    · rw [if_neg hm]
      cases hk : ixg L c (m - r) r with
      | none =>
        refine ih (c + 1) L r q (by omega) hD hR hr ⟨fun i hi => by have := h.lt i hi; omega, h.inc, h.one, h.lead, fun j hj hjm l hl => ?_⟩ ho
        by_cases e : l = c
        · rw [e]; exact ixg_none hk j hj (by omega)
        · exact h.zero j hj hjm l (by omega)
      | some k =>
        obtain ⟨k1, k2, k3⟩ := ixg_some hk
        obtain ⟨⟨v, hS⟩, _⟩ := stp_spec (n := n) (m := m) (c := c) (r := r) (k := k) hp hD hR (by omega) (by omega) (by omega) k3
        obtain ⟨i1, i2⟩ := ih (c + 1) (stp p n m c r k L) (r + 1) _ (by omega) hS.dm hS.rg (by omega) (ech_step h2 hR hS (by omega) (by omega) k1 (by omega) h) (off_step h2 hR hS (by omega) (by omega) k1 (by omega) h ho)
        exact ⟨i1, fun x => ⟨fun hx => (i2 x).1 (nul_fwd hS (by omega) (by omega) hx), fun hx => nul_back hS (by omega) (by omega) ((i2 x).2 hx)⟩⟩
theorem sm_zero {f : Nat → Int} : ∀ m, (∀ j, j < m → f j = 0) → sm f m = 0 := by
  intro m
  induction m with
  | zero => intro _; rfl
  | succ m ih => intro h; rw [sm, ih fun j hj => h j (by omega), h m (by omega)]; rfl
/-- A vector of the kernel is one. -/
theorem kx_nul {p : Int} {L : List (List Int)} {q : Nat → Nat} {n m r c : Nat} (h2 : 2 ≤ p) (h1 : p ≤ 97) (hR : Rg p L) (hE : Ech m n r L q) (hO : Off m r L q) (hrm : r ≤ m) (hc : c < n) (hne : ∀ t, t < r → q t ≠ c) : Nul p n m L (fun k => (kx p L q c r 0 ((List.replicate n 0).set c 1)).getD k 0) := by
  have hinj : ∀ i j, i < r → j < r → q i = q j → i = j := fun i j hi hj e => by
    rcases Nat.lt_trichotomy i j with h | h | h
    · have := hE.inc i j h hj; omega
    · exact h
    · have := hE.inc j i h hi; omega
  obtain ⟨k1, k2, k3⟩ := kx_get (p := p) (L := L) (c := c) (fun i hi => hE.lt i hi) hinj r 0 ((List.replicate n 0).set c 1) (by omega) (by rw [List.length_set, List.length_replicate])
  have hx0 : ∀ k, k < n → ((List.replicate n (0 : Int)).set c 1).getD k 0 = if k = c then 1 else 0 := fun k hk => by
    rw [getD_set _ _ _ _ _ (by rw [List.length_replicate]; omega)]
    by_cases e : c = k
    · rw [if_pos e, if_pos e.symm]
    · rw [if_neg e, if_neg (fun h => e h.symm), List.getD_eq_getElem?_getD, List.getElem?_replicate, if_pos hk]; rfl
  intro i hi
  generalize kx p L q c r 0 ((List.replicate n 0).set c 1) = x at k1 k2 k3 ⊢
  by_cases hir : i < r
  · have hqi := hE.lt i hir
    have hx : x.getD (q i) 0 = md p (wrap64 (-(ent L i c))) := k2 i (by omega) hir
    have hf : ∀ k, k < n → ent L i k * x.getD k 0 = if k = q i then x.getD (q i) 0 else (if k = c then ent L i c else 0) := by
      intro k hk
      by_cases e1 : k = q i
      · rw [if_pos e1, e1, hE.one i hir, Int.one_mul]
      · rw [if_neg e1]
        by_cases e2 : ∃ t, t < r ∧ q t = k
        · obtain ⟨t, ht, rfl⟩ := e2
          rw [hO t ht i hi (fun h => e1 (by rw [h])), Int.zero_mul, if_neg (hne t ht)]
        · rw [k3 k hk fun t _ ht he => e2 ⟨t, ht, he⟩, hx0 k hk]
          by_cases e3 : k = c
          · rw [if_pos e3, if_pos e3, e3, Int.mul_one]
          · rw [if_neg e3, if_neg e3, Int.mul_zero]
    rw [sm_congr n hf, sm_at n hqi, sm_at (f := fun _ => 0) n hc, sm_zero n fun _ _ => rfl, hx, if_neg (hne i hir)]
    have hr := hR i c
    rw [wrap_id (by omega) (by omega), md_emod h2 h1]
    have e : (0 : Int) - 0 + ent L i c - 0 + -ent L i c % p = -(-ent L i c - -ent L i c % p) := by omega
    rw [e]
    exact (Int.dvd_neg).2 (dvd_emod_sub p _)
  · rw [sm_zero n fun k hk => by rw [hE.zero i (by omega) hi k hk, Int.zero_mul]]
    exact ⟨0, by simp⟩
theorem ko_nul {p : Int} {L : List (List Int)} {q : Nat → Nat} {n m r : Nat} (h2 : 2 ≤ p) (h1 : p ≤ 97) (hR : Rg p L) (hE : Ech m n r L q) (hO : Off m r L q) (hrm : r ≤ m) : ∀ (d c : Nat) (acc : List (List Int)), c + d = n → (∀ i, i < acc.length → Nul p n m L (fun k => ent acc i k)) → ∀ i, i < (ko p L q r n d c acc).length → Nul p n m L (fun k => ent (ko p L q r n d c acc) i k) := by
  intro d
  induction d with
  | zero => intro c acc _ h; exact h
  | succ d ih =>
    intro c acc hc h
    rw [ko]
    by_cases e : ((c : Nat) : Int) ∈ pvs q r
    · rw [if_pos e]; exact ih _ _ (by omega) h
    · rw [if_neg e]
      refine ih _ _ (by omega) fun i hi => ?_
      have hlen : (acc ++ [kx p L q c r 0 ((List.replicate n 0).set c 1)]).length = acc.length + 1 := by simp
      rw [hlen] at hi
      by_cases e1 : i < acc.length
      · have : (fun k => ent (acc ++ [kx p L q c r 0 ((List.replicate n 0).set c 1)]) i k) = fun k => ent acc i k := by
          funext k; unfold ent; rw [getD_snoc, if_pos e1]
        rw [this]; exact h i e1
      · have : (fun k => ent (acc ++ [kx p L q c r 0 ((List.replicate n 0).set c 1)]) i k) = fun k => (kx p L q c r 0 ((List.replicate n 0).set c 1)).getD k 0 := by
          funext k; unfold ent; rw [getD_snoc, if_neg e1, if_pos (by omega)]
        rw [this]
        exact kx_nul h2 h1 hR hE hO hrm (by omega) fun t ht he => e (mem_pvs.2 ⟨t, ht, he⟩)
theorem ko_len {p : Int} {L : List (List Int)} {q : Nat → Nat} {n m r : Nat} (hE : Ech m n r L q) : ∀ (d c : Nat) (acc : List (List Int)) (t : Nat), c + d = n → t ≤ r → (∀ i, i < t → q i < c) → (∀ i, t ≤ i → i < r → c ≤ q i) → acc.length + t = c → (ko p L q r n d c acc).length + r = n := by
  intro d
  induction d with
  | zero =>
    intro c acc t hc ht h1 h2 h3
    rw [ko]
    by_cases e : t < r
    · have a := h2 t (Nat.le_refl _) e
      have b := hE.lt t e
      omega
    · omega
  | succ d ih =>
    intro c acc t hc ht h1 h2 h3
    rw [ko]
    by_cases e : ((c : Nat) : Int) ∈ pvs q r
    · rw [if_pos e]
      obtain ⟨i, hi, he⟩ := mem_pvs.1 e
      have hti : t ≤ i := by
        rcases Nat.lt_or_ge i t with h | h
        · have := h1 i h; omega
        · exact h
      have hit : i = t := by
        rcases Nat.lt_or_ge t i with h | h
        · have a := h2 t (Nat.le_refl _) (by omega)
          have b := hE.inc t i h hi
          omega
        · omega
      subst hit
      refine ih (c + 1) acc (i + 1) (by omega) (by omega) (fun j hj => ?_) (fun j hj hjr => ?_) (by omega)
      · by_cases e2 : j = i
        · rw [e2]; omega
        · have := h1 j (by omega); omega
      · have := hE.inc i j (by omega) hjr; omega
    · rw [if_neg e]
      refine ih (c + 1) _ t (by omega) ht (fun j hj => by have := h1 j hj; omega) (fun j hj hjr => ?_) (by simp; omega)
      have := h2 j hj hjr
      rcases Nat.lt_or_ge c (q j) with h | h
      · omega
      · exact absurd (mem_pvs.2 ⟨j, hjr, by omega⟩) e
/-- What the law asks of the radical. -/
theorem radical_more {p : Int} {T R : List (List Int)} (hp : isP p = true) (hR : Rg p T) (hD : Dm T.length T.length T) (h0 : 0 < T.length) (hs : ∀ i j, i < T.length → j < T.length → ent T i j = ent T j i) (hk : kerF p T = some R) :
    R.length + (kerG p T).2 = T.length ∧ Rg p R ∧ ∀ i j, i < R.length → j < T.length → p ∣ sm (fun k => ent R i k * ent T k j) T.length := by
  obtain ⟨h2, h1⟩ := isP_range hp
  have eR : R = (kerH p T).1 := by
    unfold kerF at hk
    split at hk
    · exact (Option.some.inj hk).symm
    · cases hk
  obtain ⟨g1, g2, g3, _, _⟩ := g0_ech hp T.length 0 T 0 (fun _ => 0) (by omega) hD hR (by omega) (ech_start _ _)
  obtain ⟨⟨q, hE, hO⟩, hN⟩ := g0_ech2 hp T.length 0 T 0 (fun _ => 0) (by omega) hD hR (by omega) (ech_start _ _) (fun i hi => absurd hi (Nat.not_lt_zero _))
  obtain ⟨G, hG⟩ : ∃ G, g0 p (iv2 p) T.length T.length T.length 0 T 0 = G := ⟨_, rfl⟩
  rw [hG] at g1 g2 g3 hE hO hN
  have eG : kerG p T = G := hG
  have hfz : ∀ i, i < G.2 → fz (G.1.getD i []) T.length 0 = some (q i) := fun i hi => fz_at _ _ (by omega) (by have := hE.lt i hi; omega) (fun k hk => hE.lead i hi k hk) (by rw [show (G.1.getD i []).getD (q i) 0 = 1 from hE.one i hi]; decide)
  have hinj : ∀ i j, i < G.2 → j < G.2 → q i = q j → i = j := fun i j hi hj e => by
    rcases Nat.lt_trichotomy i j with h | h | h
    · have := hE.inc i j h hj; omega
    · exact h
    · have := hE.inc j i h hi; omega
  have hkV : ∀ i, i < G.2 → kerV p T i = q i := fun i hi => by unfold kerV; rw [eG, hfz i hi]; rfl
  have hko : kerO p T = ko p G.1 q G.2 T.length T.length 0 [] := by
    unfold kerO
    rw [eG]
    have hpv : pvs (kerV p T) G.2 = pvs q G.2 := by
      unfold pvs
      exact List.map_congr_left fun i hi => by rw [hkV i (List.mem_range.1 hi)]
    have hkx : ∀ (d i c : Nat) (x : List Int), i + d = G.2 → kx p G.1 (kerV p T) c d i x = kx p G.1 q c d i x := by
      intro d
      induction d with
      | zero => intros; rfl
      | succ d ih => intro i c x hi; rw [kx, kx, hkV i (by omega)]; exact ih _ _ _ (by omega)
    have : ∀ (d c : Nat) (acc : List (List Int)), ko p G.1 (kerV p T) G.2 T.length d c acc = ko p G.1 q G.2 T.length d c acc := by
      intro d
      induction d with
      | zero => intros; rfl
      | succ d ih => intro c acc; rw [ko, ko, hpv, hkx _ _ _ _ (by omega)]; exact ih _ _
    exact this _ _ _
  have hlen := ko_len (p := p) (L := G.1) hE T.length 0 [] 0 (by omega) (by omega) (fun i hi => absurd hi (Nat.not_lt_zero _)) (fun i _ _ => Nat.zero_le _) rfl
  have hnul := ko_nul h2 h1 g2 hE hO g3 T.length 0 [] (by omega) (fun i hi => absurd hi (Nat.not_lt_zero _))
  rw [← hko] at hlen hnul
  -- the leads: only their being is asked for
  obtain ⟨l1, l2, l3⟩ := ls_go (R := G.1) hfz (fun i hi => hE.lt i hi) hinj G.2 0 (lf T.length 0 (List.replicate T.length 0)) (by omega)
    (by rw [lf_go T.length T.length 0 _ (by omega) (by simp) (fun k hk => absurd hk (Nat.not_lt_zero _))]; simp) (fun t ht => by omega)
    (fun k hk _ => by
      rw [lf_go T.length T.length 0 _ (by omega) (by simp) (fun k hk => absurd hk (Nat.not_lt_zero _)), List.getD_eq_getElem?_getD, List.getElem?_replicate, if_pos hk]; rfl)
  have hLd : Lds T.length G.2 q (ls G.1 T.length G.2 0 (lf T.length 0 (List.replicate T.length 0))) := ⟨l1, fun i hi => hE.lt i hi, hinj, l2, l3⟩
  obtain ⟨f, hK⟩ := ko_ker (L := G.1) h2 h1 hLd T.length 0 [] (fun _ => 0) (by omega) ⟨⟨rfl, fun j hj => absurd hj (Nat.not_lt_zero _)⟩, fun j k hj => absurd hj (Nat.not_lt_zero _), Nat.le_refl _, fun i hi => absurd hi (Nat.not_lt_zero _), fun i hi => absurd hi (Nat.not_lt_zero _), fun i j hi => absurd hi (Nat.not_lt_zero _), fun i hi => absurd hi (Nat.not_lt_zero _)⟩
  rw [← hko] at hK
  obtain ⟨O, hO2⟩ : ∃ O, kerO p T = O := ⟨_, rfl⟩
  rw [hO2] at hK hlen hnul
  have hRO : Rg p O := Rg.of h2 hK.dm hK.rg
  obtain ⟨o1, o2, o3, _, _⟩ := g0_ech (n := T.length) hp T.length 0 O 0 (fun _ => 0) (by omega) hK.dm hRO (by omega) (ech_start _ _)
  obtain ⟨_, oN⟩ := g0_ech2 (n := T.length) hp T.length 0 O 0 (fun _ => 0) (by omega) hK.dm hRO (by omega) (ech_start _ _) (fun i hi => absurd hi (Nat.not_lt_zero _))
  have eH : (kerH p T) = g0 p (iv2 p) O.length T.length T.length 0 O 0 := by unfold kerH; rw [hO2]
  rw [← eH] at o1 o2 oN
  rw [← eR] at o1 o2 oN
  refine ⟨by rw [o1.1, eG]; exact hlen, o2, fun i j hi hj => ?_⟩
  have hz : Nul p T.length O.length O (fun k => ent T k j) := by
    intro t ht
    have h3 := (hN (fun k => ent O t k)).2 (hnul t ht) j hj
    rw [sm_congr (g := fun k => ent T j k * ent O t k) _ fun k hk => by show ent O t k * ent T k j = _; rw [hs k j hk hj, Int.mul_comm]]
    exact h3
  exact (oN _).1 hz i (by rw [← o1.1]; exact hi)
/-! #### the determinant and the rank -/
theorem e0_le {p : Int} {iv : Int → Int} {n : Nat} : ∀ (d c : Nat) (L : List (List Int)) (det : Int) (r : Nat), (e0 p iv n d c L det r).2 ≤ r + d := by
  intro d
  induction d with
  | zero => intros; exact Nat.le_refl _
  | succ d ih =>
    intro c L det r
    rw [e0]
    split
    · have := ih (c + 1) L 0 r; omega
    · exact Nat.le_trans (ih _ _ _ _) (by omega)
theorem e0_det {p : Int} {n : Nat} (hp : isP p = true) : ∀ (d c : Nat) (L : List (List Int)) (det : Int), c + d = n → Dm n n L → Rg p L → 0 < det → det < p → ((e0 p (iv1 p) n d c L det c).1 = 0 ↔ (e0 p (iv1 p) n d c L det c).2 < n) := by
  obtain ⟨h2, h1⟩ := isP_range hp
  intro d
  induction d with
  | zero =>
    intro c L det hc hD hR h3 h4
    rw [e0]
    simp only
    rw [md_id h2 h1 (by omega) h4]
    omega
  | succ d ih =>
    intro c L det hc hD hR h3 h4
    rw [e0]
    cases hk : ixg L c (n - c) c with
    | none =>
      simp only
      have a := e0_zero h2 h1 (iv1 p) n d (c + 1) L c
      have b := e0_le (p := p) (iv := iv1 p) (n := n) d (c + 1) L 0 c
      exact ⟨fun _ => by omega, fun _ => a⟩
    | some k =>
      obtain ⟨k1, k2, k3⟩ := ixg_some hk
      simp only
      have hcn : c < n := by omega
      have hkn : k < n := by omega
      obtain ⟨M, hM⟩ : ∃ M, (if k = c then L else swp L k c) = M := ⟨_, rfl⟩
      have hDM : Dm n n M := by rw [← hM]; split; exact hD; exact hD.swp hkn hcn
      have hRM : Rg p M := by rw [← hM]; split; exact hR; exact hR.swp hD hkn hcn
      have hx : ent M c c ≠ 0 := by
        rw [← hM]
        split
        · rename_i e; rw [e] at k3; exact k3
        · rw [ent_swp _ _ _ (by rw [hD.1]; exact hkn) (by rw [hD.1]; exact hcn), show sw k c c = k by unfold sw; split; omega; rw [if_pos rfl]]; exact k3
      rw [hM]
      have hxr := hRM c c
      have hinv := inv_ok hp (show 1 ≤ ent M c c by omega) hxr.2
      obtain ⟨x, hxe⟩ : ∃ x, ent M c c = x := ⟨_, rfl⟩
      rw [hxe] at hx hxr hinv ⊢
      obtain ⟨det1, hd1⟩ : ∃ det1, (if k = c then det else wrap64 (-det)) = det1 := ⟨_, rfl⟩
      have hd2 : det1 = det ∨ det1 = -det := by
        rw [← hd1]
        split
        · exact .inl rfl
        · exact .inr (wrap_id (by omega) (by omega))
      rw [hd1]
      have hb := mul_rg h1 (show 0 ≤ det by omega) h4 hxr.1 hxr.2
      have hw : wrap64 (det1 * x) = det1 * x := by
        rcases hd2 with e | e
        · rw [e]; exact wrap_id (by omega) (by omega)
        · rw [e, Int.neg_mul]; exact wrap_id (by omega) (by omega)
      have hi := e1_inv (v := iv1 p x) (c := c) (r := c) h2 h1 (n - (c + 1)) (c + 1) M (by omega) hDM hRM
      have hr := md_range h2 h1 (wrap64 (det1 * x))
      refine ih (c + 1) _ _ (by omega) hi.1 hi.2 ?_ hr.2
      have hne : md p (wrap64 (det1 * x)) ≠ 0 := by
        intro h5
        rw [hw, md_emod h2 h1] at h5
        have h6 : p ∣ det1 * x := Int.dvd_of_emod_eq_zero h5
        have h7 : p ∣ det1 := by
          refine dvd_unit (x := iv1 p x) (v := x) (by rw [Int.mul_comm]; exact hinv.2.2.2.2) ?_
          rw [Int.mul_comm]; exact h6
        have h8 : p ∣ det := by
          rcases hd2 with e | e
          · rw [← e]; exact h7
          · rw [e] at h7; exact Int.dvd_neg.1 h7
        have := Int.le_of_dvd h3 h8
        omega
      omega

end Go.Proofs.Ytmpdloamgiejhaa.PN
namespace Go.Proofs.Ytmpdloamgiejhaa.PGr
open Go.RowKit Go.Proofs.Ytmpdloamgiejhaa.Hand Go.Proofs.YtmpdloamgiejhaaW.PrintWords Go.Proofs.YtmpdloamgiejhaaW.PrintLast Go.Proofs.Ytmpdloamgiejhaa.PA Go.Proofs.Ytmpdloamgiejhaa.PE Go.Proofs.Ytmpdloamgiejhaa.PG Go.Proofs.Ytmpdloamgiejhaa.PF Go.Proofs.Ytmpdloamgiejhaa.PR Go.Proofs.Ytmpdloamgiejhaa.PN
set_option linter.unusedVariables false
set_option linter.unusedSimpArgs false

set_option maxRecDepth 100000 in
theorem sym7 : ∀ n m : Fin 7, 1 ≤ n.val → m.val ≤ n.val → (n.val - m.val) % 2 = 0 → ((hl n.val 0 m.val ⟨#[]⟩).all fun a => (hl n.val 0 m.val ⟨#[]⟩).all fun b => pv a b == pv b a) = true := by decide +kernel
theorem symAt {n k : Int} {L : List ByteArray} (h1 : 1 ≤ n) (h6 : n ≤ 6) (hk : 0 ≤ k) (hkn : k ≤ n) (he : (n - k) % 2 = 0) (hL : spec_l04Halves.f 3000 n k = some L) : ∀ a ∈ L, ∀ b ∈ L, pv a b = pv b a := by
  obtain ⟨n, rfl⟩ := Int.eq_ofNat_of_zero_le (show 0 ≤ n by omega)
  obtain ⟨m, rfl⟩ := Int.eq_ofNat_of_zero_le hk
  have hh := halves7 ⟨n, by omega⟩ ⟨m, by omega⟩ (by show 1 ≤ n; omega) (by show m ≤ n; omega) (by show (n - m) % 2 = 0; omega)
  have hp := sym7 ⟨n, by omega⟩ ⟨m, by omega⟩ (by show 1 ≤ n; omega) (by show m ≤ n; omega) (by show (n - m) % 2 = 0; omega)
  simp only at hh hp
  rw [hh] at hL
  obtain rfl := Option.some.inj hL
  intro a ha b hb
  have := List.all_eq_true.1 (List.all_eq_true.1 hp a ha) b hb
  exact beq_iff_eq.1 this
/-- Both tables, with what the radical asks. -/
theorem gramS (p c n k : Int) : (isT p c n k = false) ∨ (isT p c n k = true ∧ ∃ L, Ok p c L ∧ spec_l04Gram.f 3000 p c n k = some (gram p c L) ∧ impl_GramTable.f 3000 p c n k = some (gram p c L, 0) ∧ ∀ a ∈ L, ∀ b ∈ L, pv a b = pv b a) := by
  cases hT : isT p c n k with
  | false => exact Or.inl rfl
  | true =>
    obtain ⟨hp, c0, cp, n1, n6, k0, kn, he⟩ := isT_iff hT
    have hr := isP_range hp
    obtain ⟨L, h1, h2, h3, h4⟩ := halvesAt n1 n6 k0 kn he
    have H : Ok p c L := ⟨hr.1, hr.2, c0, cp, h3.2, h3.1, h4⟩
    refine Or.inr ⟨rfl, L, H, ?_, ?_, symAt n1 n6 k0 kn he h1⟩
    · unfold spec_l04Gram.f
      rw [h1, Option.bind_some]
      have := specRows H L.length 0 (2999 - L.length * 12) (by have := H.len; omega) (by have := H.len; omega)
      rw [show 2999 - L.length * 12 + L.length * 12 + 1 = 3000 by have := H.len; omega] at this
      exact this
    · unfold impl_GramTable.f
      rw [(tableE3 p c n k).2, hT, Option.bind_some, if_pos rfl, h2, Option.bind_some]
      have := implRows H L.length 0 (2999 - L.length * 12) (by have := H.len; omega) (by have := H.len; omega)
      rw [show 2999 - L.length * 12 + L.length * 12 + 1 = 3000 by have := H.len; omega] at this
      exact this
theorem ent_gram2 (p c : Int) (L : List ByteArray) {i j : Nat} (hi : i < L.length) (hj : j < L.length) : ent (gram p c L) i j = en p c L[i] L[j] := by
  unfold ent gram
  simp [List.getD_eq_getElem?_getD, hi, hj]
theorem detE2 {p : Int} {T : List (List Int)} (hp : isP p = true) (hR : Rg p T) (hD : Dm T.length T.length T) (h0 : 0 < T.length) (h9 : T.length ≤ 100) (hr : ∀ r ∈ T, r.length = T.length) :
    detF T p = some (e0 p (iv1 p) T.length T.length 0 T 1 0).1 ∧ echF p T = some ((e0 p (iv1 p) T.length T.length 0 T 1 0).1, ((e0 p (iv1 p) T.length T.length 0 T 1 0).2 : Int)) ∧ iechF T p = some ((e0 p (iv1 p) T.length T.length 0 T 1 0).2 : Int) := by
  obtain ⟨h2, h1⟩ := isP_range hp
  refine ⟨?_, ?_, ?_⟩
  · unfold detF
    rw [if_pos ⟨by omega, h0, h9, hr⟩, Int.emod_eq_of_lt (by omega) (by omega)]
    exact dt0_spec hp h9 T.length 0 T 1 (by omega) hD hR (by omega) (by omega)
  · unfold echF
    rw [if_pos ⟨⟨h2, by omega⟩, h0, h9, hr⟩]
  · unfold iechF
    rw [if_pos ⟨⟨h2, by omega⟩, h0, h9, hr⟩, rank_spec hp T.length 0 0 T T 1 (by omega) hD hD hR hR fun _ _ _ => rfl]
/-- All that the law asks of a Gram table. -/
structure Gms (p : Int) (T R : List (List Int)) (d : Int) (r : Nat) : Prop where
  p2 : 2 ≤ p
  p97 : p ≤ 97
  t9 : T.length ≤ 9
  tr : ∀ x ∈ T, x.length = T.length
  sym : ∀ i j, i < T.length → j < T.length → ent T i j = ent T j i
  det : d = 0 ↔ r < T.length
  rad : R.length + r = T.length
  rr : ∀ x ∈ R, x.length = T.length
  tg : Rg p T
  rg : Rg p R
  prod : ∀ i j, i < R.length → j < T.length → p ∣ sm (fun k => ent R i k * ent T k j) T.length
theorem gramAll (p c n k : Int) :
    (spec_GramTable.f 3000 p c n k = some ([], 2) ∧ impl_GramTable.f 3000 p c n k = some ([], 2) ∧ spec_GramDeterminant.f p c n k = some (0, 2) ∧ impl_GramDeterminant.f p c n k = some (0, 2) ∧ spec_GramRank.f p c n k = some (0, 2) ∧ impl_GramRank.f p c n k = some (0, 2) ∧ spec_RadicalOf.f p c n k = some ([], 2) ∧ impl_RadicalOf.f p c n k = some ([], 2)) ∨
    (∃ T R d r, spec_GramTable.f 3000 p c n k = some (T, 0) ∧ impl_GramTable.f 3000 p c n k = some (T, 0) ∧ spec_GramDeterminant.f p c n k = some (d, 0) ∧ impl_GramDeterminant.f p c n k = some (d, 0) ∧ spec_GramRank.f p c n k = some (((r : Nat) : Int), 0) ∧ impl_GramRank.f p c n k = some (((r : Nat) : Int), 0) ∧ spec_RadicalOf.f p c n k = some (R, 0) ∧ impl_RadicalOf.f p c n k = some (R, 0) ∧ Gms p T R d r) := by
  rcases gramS p c n k with hT | ⟨hT, L, H, hs, hi, hsym⟩
  · left
    have e1 : spec_l04Two.f 3000 p c n k = some false := by rw [(tableE3 p c n k).1, hT]
    have e2 : impl_GramTable.f 3000 p c n k = some ([], 2) := by
      unfold impl_GramTable.f
      rw [(tableE3 p c n k).2, hT]; rfl
    refine ⟨?_, e2, ?_, ?_, ?_, ?_, ?_, ?_⟩
    · unfold spec_GramTable.f; rw [e1]; rfl
    · unfold spec_GramDeterminant.f; rw [e1]; rfl
    · unfold impl_GramDeterminant.f; rw [e2]; rfl
    · unfold spec_GramRank.f; rw [e1]; rfl
    · unfold impl_GramRank.f; rw [e2]; rfl
    · unfold spec_RadicalOf.f; rw [e1]; rfl
    · unfold impl_RadicalOf.f; rw [e2]; rfl
  · right
    have hd := gram_dims p c L
    have hp := (isT_iff hT).1
    obtain ⟨h2, h1⟩ := isP_range hp
    have e1 : spec_l04Two.f 3000 p c n k = some true := by rw [(tableE3 p c n k).1, hT]
    have hD : Dm (gram p c L).length (gram p c L).length (gram p c L) := by rw [hd.1]; exact dm_gram p c L
    have hR := ent_gram p c L H
    have h0 : 0 < (gram p c L).length := by rw [hd.1]; exact H.pos
    have h9 : (gram p c L).length ≤ 9 := by rw [hd.1]; exact H.len
    have hr : ∀ r ∈ gram p c L, r.length = (gram p c L).length := by rw [hd.1]; exact hd.2
    have hsy : ∀ i j, i < (gram p c L).length → j < (gram p c L).length → ent (gram p c L) i j = ent (gram p c L) j i := fun i j hi hj => by
      rw [hd.1] at hi hj
      rw [ent_gram2 p c L hi hj, ent_gram2 p c L hj hi]
      unfold en
      rw [hsym _ (List.getElem_mem hi) _ (List.getElem_mem hj)]
    generalize gram p c L = T at hs hi hD hR h0 h9 hr hsy
    obtain ⟨R, k1, k2, k3, k4⟩ := radical_same hp hR hD h0 h9 hr hsy
    obtain ⟨m1, m2, m3⟩ := radical_more hp hR hD h0 hsy k1
    obtain ⟨f1, f2, f3⟩ := detE2 hp hR hD h0 (by omega) hr
    have f4 := e0_det hp T.length 0 T 1 (by omega) hD hR (by omega) (by omega)
    have f5 := rank_spec hp T.length 0 0 T T 1 (by omega) hD hD hR hR fun _ _ _ => rfl
    have f6 : (kerG p T).2 = (e0 p (iv1 p) T.length T.length 0 T 1 0).2 := f5
    refine ⟨T, R, (e0 p (iv1 p) T.length T.length 0 T 1 0).1, (e0 p (iv1 p) T.length T.length 0 T 1 0).2, ?_, hi, ?_, ?_, ?_, ?_, ?_, ?_, ⟨h2, h1, h9, hr, hsy, f4, by rw [← f6]; exact m1, k4, hR, m2, m3⟩⟩
    · unfold spec_GramTable.f; rw [e1, Option.bind_some, if_pos rfl, hs]; rfl
    · unfold spec_GramDeterminant.f; rw [e1, Option.bind_some, if_pos rfl, hs, Option.bind_some, f2]; rfl
    · unfold impl_GramDeterminant.f; rw [hi, Option.bind_some]; simp only [if_pos]; rw [f1]; rfl
    · unfold spec_GramRank.f; rw [e1, Option.bind_some, if_pos rfl, hs, Option.bind_some, f2]; rfl
    · unfold impl_GramRank.f; rw [hi, Option.bind_some]; simp only [if_pos]; rw [f3]; rfl
    · unfold spec_RadicalOf.f; rw [e1, Option.bind_some, if_pos rfl, hs, Option.bind_some, k2]; rfl
    · unfold impl_RadicalOf.f; rw [hi, Option.bind_some]; simp only [if_pos]; rw [k1]; rfl

end Go.Proofs.Ytmpdloamgiejhaa.PGr
