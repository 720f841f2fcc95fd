/- The plain law of WordText: both tests of a word answer alike, and each letter is told by one digit. No condition. -/
import Derived.Test.YtlagckiombkngaaDoorQx3
namespace Go.Proofs.YtlagckiombkngaaDoor.Pure
open Go.RowKit Go.Proofs.YtlagckiombkngaaDoor.Q Go.Proofs.YtlagckiombkngaaDoor.Hand Go.Proofs.YtlagckiombkngaaDoorW.PrintWords Go.Proofs.YtlagckiombkngaaDoorW.PrintLast
set_option linter.unusedVariables false
set_option linter.unusedSimpArgs false
theorem specIn (a lo hi : Int) : spec_l01In.f a lo hi = some (decide (lo ≤ a ∧ a ≤ hi)) := by
  unfold spec_l01In.f
  by_cases h : a ≥ lo
  · rw [if_pos h]
    by_cases h2 : a ≤ hi
    · rw [decide_eq_true h2, decide_eq_true (by omega)]
    · rw [decide_eq_false h2, decide_eq_false (by omega)]
  · rw [if_neg h, decide_eq_false (by omega)]
theorem wrap_id {x : Int} (h0 : -9223372036854775808 ≤ x) (h1 : x ≤ 9223372036854775807) : wrap64 x = x := by
  unfold wrap64
  omega
theorem wrap_nat {i : Nat} (h : i ≤ 1000000000) : wrap64 ((i : Int) + 1) = ((i + 1 : Nat) : Int) := by
  unfold wrap64
  omega
/-- Copying a list of numbers gives the list. -/
theorem to_go (l : List Int) (hb : l.length ≤ 1048576) : ∀ (d i k : Nat) (xs : List Int), i + d = l.length → d < k → xs.length = l.length → (∀ j : Nat, j < i → xs[j]? = l[j]?) → laws_toInt64S.l0 k l xs (i : Int) = some l := by
  intro d
  induction d with
  | zero =>
    intro i k xs hi hk hx hv
    obtain ⟨k, rfl⟩ : ∃ m, k = m + 1 := ⟨k - 1, by omega⟩
    simp only [laws_toInt64S.l0]
    rw [if_neg (by omega)]
    congr 1
    apply List.ext_getElem?
    intro j
    by_cases hj : j < l.length
    · exact hv j (by omega)
    · rw [List.getElem?_eq_none (by omega), List.getElem?_eq_none (by omega)]
  | succ d ih =>
    intro i k xs hi hk hx hv
    obtain ⟨k, rfl⟩ : ∃ m, k = m + 1 := ⟨k - 1, by omega⟩
    simp only [laws_toInt64S.l0]
    rw [if_pos (by omega), if_pos (by omega), if_pos (by omega), wrap_nat (by omega)]
    refine ih (i + 1) k _ (by omega) (by omega) (by simp [hx]) ?_
    intro j hj
    rw [Int.toNat_natCast, List.getElem?_set]
    by_cases h : i = j
    · subst h
      rw [if_pos rfl, if_pos (by omega)]
      unfold rd
      rw [Int.toNat_natCast, List.getD_eq_getElem?_getD, List.getElem?_eq_getElem (by omega)]
      rfl
    · rw [if_neg h]; exact hv j (by omega)
theorem toS (l : List Int) (hb : l.length ≤ 1048576) {k : Nat} (hk : l.length < k) : laws_toInt64S.f k l = some l := by
  unfold laws_toInt64S.f
  rw [if_pos (by omega), if_pos (by omega)]
  exact to_go l hb l.length 0 k _ (by omega) hk (by simp) (by intro j hj; omega)
theorem drop_any {l : List Int} {i : Nat} (hi : i < l.length) (P : Int → Bool) : (l.drop i).any P = (P (rd l (i : Int)) || (l.drop (i + 1)).any P) := by
  rw [List.drop_eq_getElem_cons hi, List.any_cons]
  unfold rd
  rw [Int.toNat_natCast, List.getD_eq_getElem?_getD, List.getElem?_eq_getElem hi]
  rfl

theorem eqS_refl (l : List Int) (hb : l.length ≤ 2000000) : ∀ (d i k : Nat), i + d = l.length → d < k → laws_eqInt64S.l0 k l l (i : Int) = some true := by
  intro d
  induction d with
  | zero =>
    intro i k hi hk
    obtain ⟨k, rfl⟩ : ∃ m, k = m + 1 := ⟨k - 1, by omega⟩
    simp only [laws_eqInt64S.l0]
    rw [if_neg (by omega)]
  | succ d ih =>
    intro i k hi hk
    obtain ⟨k, rfl⟩ : ∃ m, k = m + 1 := ⟨k - 1, by omega⟩
    simp only [laws_eqInt64S.l0]
    rw [if_pos (by omega), if_pos (by omega), if_pos (by omega), if_pos trivial, wrap_id (by omega) (by omega)]
    exact ih (i + 1) k (by omega) (by omega)
theorem eqS (l : List Int) (hb : l.length ≤ 2000000) {k : Nat} (hk : l.length < k) : laws_eqInt64S.f k l l = some true := by
  unfold laws_eqInt64S.f
  rw [if_pos rfl]
  exact eqS_refl l hb l.length 0 k (by omega) hk
theorem is_go (n : Int) (l : List Int) (hb : l.length ≤ 1048576) : ∀ (d i k : Nat), i + d = l.length → d < k → spec_l03Is.l0 k n l (i : Int) = some (!(l.drop i).any (badW n)) := by
  intro d
  induction d with
  | zero =>
    intro i k hi hk
    obtain ⟨k, rfl⟩ : ∃ m, k = m + 1 := ⟨k - 1, by omega⟩
    simp only [spec_l03Is.l0]
    rw [if_neg (by omega), List.drop_of_length_le (by omega)]
    rfl
  | succ d ih =>
    intro i k hi hk
    obtain ⟨k, rfl⟩ : ∃ m, k = m + 1 := ⟨k - 1, by omega⟩
    simp only [spec_l03Is.l0]
    rw [if_pos (by omega), if_pos (by omega), wrap_nat (by omega), drop_any (by omega), specIn, Option.bind_some]
    generalize rd l (i : Int) = x
    by_cases h1 : 0 ≤ x ∧ x ≤ wrap64 (n - 2)
    · rw [decide_eq_true h1, if_pos rfl, ih (i + 1) k (by omega) (by omega)]
      have : badW n x = false := by unfold badW; rw [decide_eq_true h1.1, decide_eq_true h1.2]; rfl
      rw [this]
      rfl
    · rw [decide_eq_false h1, if_neg (by simp)]
      have : badW n x = true := by
        unfold badW
        by_cases h2 : 0 ≤ x
        · rw [decide_eq_false (fun h3 : x ≤ wrap64 (n - 2) => h1 ⟨h2, h3⟩)]; simp
        · rw [decide_eq_false h2]; rfl
      rw [this]
      rfl
def okW (n : Int) (l : List Int) : Bool := decide (2 ≤ n ∧ n ≤ 8) && (decide (l.length ≤ 60) && !(l.any (badW n)))
theorem specIs (n : Int) (l : List Int) (hb : l.length ≤ 1048576) {k : Nat} (hk : l.length + 1 < k) : spec_l03Is.f k n l = some (okW n l) := by
  obtain ⟨k, rfl⟩ : ∃ m, k = m + 1 := ⟨k - 1, by omega⟩
  unfold spec_l03Is.f okW
  rw [specIn, Option.bind_some]
  by_cases h1 : 2 ≤ n ∧ n ≤ 8
  · rw [decide_eq_true h1, if_pos rfl]
    simp only [spec_l03Is.j0]
    by_cases h2 : l.length ≤ 60
    · rw [decide_eq_false (by omega : ¬ (l.length : Int) > 60), if_neg (by simp), decide_eq_true h2]
      have := is_go n l hb l.length 0 k (by omega) (by omega)
      rw [List.drop_zero] at this
      simpa using this
    · rw [decide_eq_true (by omega : (l.length : Int) > 60), if_pos rfl, decide_eq_false h2]
      rfl
  · rw [decide_eq_false h1, if_neg (by simp)]
    simp only [spec_l03Is.j0]
    rfl
theorem implIs (n : Int) (l : List Int) (hb : l.length ≤ 1048576) : impl_wordOk.f n l = some (okW n l) := by
  unfold impl_wordOk.f okW
  rw [if_pos (by omega)]

theorem dec_dgt (x : Int) (h : 0 ≤ x ∧ x < 10) (k : Nat) : spec_l01Dec.f (k + 1) x = some (dgt x) := by
  simp only [spec_l01Dec.f]
  rw [if_neg (by omega), if_pos h.2]
  rcases ten h with rfl | rfl | rfl | rfl | rfl | rfl | rfl | rfl | rfl | rfl <;> decide +kernel
theorem fmt_dgt (x : Int) (h : 0 ≤ x ∧ x < 10) : strconv_FormatInt.f x 10 = some (dgt x) := by
  unfold strconv_FormatInt.f
  rw [if_pos ⟨h, rfl⟩]
theorem dgt_size (x : Int) : (dgt x).size = 1 := rfl
theorem txt_go (l : List Int) (hb : l.length ≤ 1048576) (hw : ∀ j, j < l.length → 0 ≤ rd l (j : Int) ∧ rd l (j : Int) < 10) : ∀ (d i : Nat) (acc : ByteArray), i + d = l.length → acc.size ≤ i →
    ∃ r : ByteArray × Int, ∀ k, d + 1 < k → spec_WordText.l0 k l acc (i : Int) = some r ∧ impl_WordText.l0 k acc l (l.length : Int) (i : Int) = some r := by
  intro d
  induction d with
  | zero =>
    intro i acc hi ha
    refine ⟨(acc, 0), fun k hk => ?_⟩
    obtain ⟨k, rfl⟩ : ∃ m, k = m + 1 := ⟨k - 1, by omega⟩
    simp only [spec_WordText.l0, impl_WordText.l0]
    rw [if_neg (by omega), if_neg (by omega)]
    exact ⟨rfl, rfl⟩
  | succ d ih =>
    intro i acc hi ha
    have hx := hw i (by omega)
    have hs : (acc ++ dgt (rd l (i : Int))).size = acc.size + 1 := by rw [ByteArray.size_append]; rfl
    obtain ⟨r, hr⟩ := ih (i + 1) (acc ++ dgt (rd l (i : Int))) (by omega) (by omega)
    refine ⟨r, fun k hk => ?_⟩
    obtain ⟨k, rfl⟩ : ∃ m, k = m + 2 := ⟨k - 2, by omega⟩
    have hr' := hr (k + 1) (by omega)
    have e1 : spec_WordText.l0 (k + 1 + 1) l acc (i : Int) = spec_WordText.l0 (k + 1) l (acc ++ dgt (rd l (i : Int))) ((i + 1 : Nat) : Int) := by
      rw [spec_WordText.l0]
      rw [if_pos (by omega), if_pos (by omega), dec_dgt _ hx k, Option.bind_some, if_pos (by rw [dgt_size]; omega), wrap_nat (by omega)]
    have e2 : impl_WordText.l0 (k + 1 + 1) acc l (l.length : Int) (i : Int) = impl_WordText.l0 (k + 1) (acc ++ dgt (rd l (i : Int))) l (l.length : Int) ((i + 1 : Nat) : Int) := by
      rw [impl_WordText.l0]
      rw [if_pos (by omega), if_pos (by omega), if_pos (by omega), fmt_dgt _ hx, Option.bind_some, if_pos (by rw [dgt_size]; omega), wrap_nat (by omega)]
    exact ⟨e1.trans hr'.1, e2.trans hr'.2⟩
theorem okW_rng {n : Int} {l : List Int} (h : okW n l = true) : ∀ j, j < l.length → 0 ≤ rd l (j : Int) ∧ rd l (j : Int) < 10 := by
  intro j hj
  unfold okW at h
  simp only [Bool.and_eq_true, decide_eq_true_eq, Bool.not_eq_true'] at h
  obtain ⟨h1, h2, h3⟩ := h
  rw [List.any_eq_false] at h3
  have hm : rd l (j : Int) ∈ l := by
    unfold rd
    rw [Int.toNat_natCast, List.getD_eq_getElem?_getD, List.getElem?_eq_getElem hj]
    exact List.getElem_mem hj
  have hb := h3 _ hm
  unfold badW at hb
  simp only [Bool.not_eq_true', Bool.not_eq_false, Bool.and_eq_true, decide_eq_true_eq] at hb
  have hw : wrap64 (n - 2) = n - 2 := by unfold wrap64; omega
  omega
theorem textBoth (n : Int) (l : List Int) (hb : l.length ≤ 1048576) : ∃ r : ByteArray × Int, ∀ k, l.length + 2 < k → spec_WordText.f k n l = some r ∧ impl_WordText.f k n l = some r := by
  cases ho : okW n l with
  | false =>
    refine ⟨((⟨#[]⟩ : ByteArray), 2), fun k hk => ?_⟩
    unfold spec_WordText.f impl_WordText.f
    rw [specIs n l hb (by omega), implIs n l hb, ho, Option.bind_some, Option.bind_some, if_neg (by simp)]
    exact ⟨rfl, rfl⟩
  | true =>
    obtain ⟨r, hr⟩ := txt_go l hb (okW_rng ho) l.length 0 (⟨#[]⟩ : ByteArray) (by omega) (by decide)
    refine ⟨r, fun k hk => ?_⟩
    unfold spec_WordText.f impl_WordText.f
    rw [specIs n l hb (by omega), implIs n l hb, ho, Option.bind_some, Option.bind_some, if_pos rfl, if_pos rfl]
    exact hr k (by omega)
theorem FnExactWordText : laws_FnExactWordText.Pure := by
  intro a0 l1 h0 h1 h2 h3
  by_cases hl : l1.length ≤ 1048576
  · obtain ⟨r, hr⟩ := textBoth a0 l1 hl
    refine ⟨1048580, ?_⟩
    have hT := toS l1 hl (show l1.length < 1048580 by omega)
    have hT2 := toS l1 hl (show l1.length < 1048579 by omega)
    have hE := eqS l1 (by omega) (show l1.length < 1048579 by omega)
    obtain ⟨hs, hi⟩ := hr 1048580 (by omega)
    unfold laws_FnExactWordText.f
    rw [if_neg (by omega), hT, Option.bind_some, hs, Option.bind_some, Option.bind_some, hi, Option.bind_some, if_pos rfl]
    have hj : ∀ b : Bool, b = false → laws_FnExactWordText.j0 1048580 l1 l1 b = some true := by
      intro b hb
      subst hb
      rw [show (1048580 : Nat) = 1048579 + 1 from rfl]
      simp only [laws_FnExactWordText.j0]
      rw [if_neg (by simp), hT2, Option.bind_some, hE, Option.bind_some, if_pos rfl]
    exact hj _ (by simp)
  · refine ⟨1, ?_⟩
    unfold laws_FnExactWordText.f
    rw [if_pos (by omega)]

end Go.Proofs.YtlagckiombkngaaDoor.Pure
