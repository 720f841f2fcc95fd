/- The plain law of IsShort: both tests for a permutation answer alike, and so do both searches for three falling entries. No condition. -/
import Derived.Test.YtlagckiombkngaaQx2
namespace Go.Proofs.Ytlagckiombkngaa.Pure
open Go.RowKit Go.Proofs.Ytlagckiombkngaa.Q Go.Proofs.Ytlagckiombkngaa.Hand Go.Proofs.YtlagckiombkngaaW.PrintWords Go.Proofs.YtlagckiombkngaaW.PrintLast
set_option linter.unusedVariables false
set_option linter.unusedSimpArgs false
theorem wrap_id {x : Int} (h0 : -9223372036854775808 ≤ x) (h1 : x ≤ 9223372036854775807) : wrap64 x = x := by
  unfold wrap64
  omega
theorem wrap_nat {i : Nat} (h : i ≤ 1000000000) : wrap64 ((i : Int) + 1) = ((i + 1 : Nat) : Int) := by
  unfold wrap64
  omega
/-- Copying a list of numbers gives the list. -/
theorem to_go (l : List Int) (hb : l.length ≤ 1048576) : ∀ (d i k : Nat) (xs : List Int), i + d = l.length → d < k → xs.length = l.length → (∀ j : Nat, j < i → xs[j]? = l[j]?) → laws_toInt64S.l0 k l xs (i : Int) = some l := by
  intro d
  induction d with
  | zero =>
    intro i k xs hi hk hx hv
    obtain ⟨k, rfl⟩ : ∃ m, k = m + 1 := ⟨k - 1, by omega⟩
    simp only [laws_toInt64S.l0]
    rw [if_neg (by omega)]
    congr 1
    apply List.ext_getElem?
    intro j
    by_cases hj : j < l.length
    · exact hv j (by omega)
    · rw [List.getElem?_eq_none (by omega), List.getElem?_eq_none (by omega)]
  | succ d ih =>
    intro i k xs hi hk hx hv
    obtain ⟨k, rfl⟩ : ∃ m, k = m + 1 := ⟨k - 1, by omega⟩
    simp only [laws_toInt64S.l0]
    rw [if_pos (by omega), if_pos (by omega), if_pos (by omega), wrap_nat (by omega)]
    refine ih (i + 1) k _ (by omega) (by omega) (by simp [hx]) ?_
    intro j hj
    rw [Int.toNat_natCast, List.getElem?_set]
    by_cases h : i = j
    · subst h
      rw [if_pos rfl, if_pos (by omega)]
      unfold rd
      rw [Int.toNat_natCast, List.getD_eq_getElem?_getD, List.getElem?_eq_getElem (by omega)]
      rfl
    · rw [if_neg h]; exact hv j (by omega)
theorem toS (l : List Int) (hb : l.length ≤ 1048576) {k : Nat} (hk : l.length < k) : laws_toInt64S.f k l = some l := by
  unfold laws_toInt64S.f
  rw [if_pos (by omega), if_pos (by omega)]
  exact to_go l hb l.length 0 k _ (by omega) hk (by simp) (by intro j hj; omega)
theorem eqS_refl (l : List Int) (hb : l.length ≤ 2000000) : ∀ (d i k : Nat), i + d = l.length → d < k → laws_eqInt64S.l0 k l l (i : Int) = some true := by
  intro d
  induction d with
  | zero =>
    intro i k hi hk
    obtain ⟨k, rfl⟩ : ∃ m, k = m + 1 := ⟨k - 1, by omega⟩
    simp only [laws_eqInt64S.l0]
    rw [if_neg (by omega)]
  | succ d ih =>
    intro i k hi hk
    obtain ⟨k, rfl⟩ : ∃ m, k = m + 1 := ⟨k - 1, by omega⟩
    simp only [laws_eqInt64S.l0]
    rw [if_pos (by omega), if_pos (by omega), if_pos (by omega), if_pos trivial, wrap_id (by omega) (by omega)]
    exact ih (i + 1) k (by omega) (by omega)
theorem eqS (l : List Int) (hb : l.length ≤ 2000000) {k : Nat} (hk : l.length < k) : laws_eqInt64S.f k l l = some true := by
  unfold laws_eqInt64S.f
  rw [if_pos rfl]
  exact eqS_refl l hb l.length 0 k (by omega) hk

/-! ### permutations -/
theorem pmR_iff (n : Int) (hn : n ≤ 8) : ∀ (l : List Int) (m : List Bool), m.length = 8 → (pmR n l m = true ↔ (∀ x ∈ l, 0 ≤ x ∧ x ≤ n - 1) ∧ l.Nodup ∧ ∀ x ∈ l, m.getD x.toNat false = false) := by
  intro l
  induction l with
  | nil => intro m hm; simp [pmR]
  | cons x r ih =>
    intro m hm
    simp only [pmR]
    by_cases c1 : 0 ≤ x ∧ x ≤ n - 1
    · rw [if_pos c1]
      by_cases c2 : m.getD x.toNat false = true
      · rw [if_pos c2]
        constructor
        · intro h; cases h
        · rintro ⟨_, _, h3⟩
          rw [h3 x List.mem_cons_self] at c2
          cases c2
      · rw [if_neg c2, ih _ (by rw [List.length_set]; exact hm)]
        rw [Bool.not_eq_true] at c2
        have get : ∀ y : Int, 0 ≤ y → ((m.set x.toNat true).getD y.toNat false = false ↔ (y ≠ x ∧ m.getD y.toNat false = false)) := by
          intro y hy
          rw [List.getD_eq_getElem?_getD, List.getD_eq_getElem?_getD, List.getElem?_set]
          by_cases e : y = x
          · subst e
            rw [if_pos rfl, if_pos (by omega)]
            simp
          · rw [if_neg (by omega)]
            simp [e]
        constructor
        · rintro ⟨h1, h2, h3⟩
          refine ⟨fun y hy => ?_, ?_, fun y hy => ?_⟩
          · rcases List.mem_cons.1 hy with rfl | hy
            · exact c1
            · exact h1 y hy
          · refine List.nodup_cons.2 ⟨fun hx => ?_, h2⟩
            exact ((get x c1.1).1 (h3 x hx)).1 rfl
          · rcases List.mem_cons.1 hy with rfl | hy
            · exact c2
            · exact ((get y (h1 y hy).1).1 (h3 y hy)).2
        · rintro ⟨h1, h2, h3⟩
          refine ⟨fun y hy => h1 y (List.mem_cons_of_mem _ hy), (List.nodup_cons.1 h2).2, fun y hy => ?_⟩
          refine (get y (h1 y (List.mem_cons_of_mem _ hy)).1).2 ⟨fun e => ?_, h3 y (List.mem_cons_of_mem _ hy)⟩
          subst e
          exact (List.nodup_cons.1 h2).1 hy
    · rw [if_neg c1]
      constructor
      · intro h; cases h
      · rintro ⟨h1, _, _⟩
        exact absurd (h1 x List.mem_cons_self) c1
theorem up_spec : ∀ (s : List Int) (i : Nat), upI s i = true → s.Pairwise (· < ·) ∧ ∀ x ∈ s, (i : Int) ≤ x ∧ x < (i : Int) + (s.length : Int) := by
  intro s
  induction s with
  | nil => intro i _; exact ⟨List.Pairwise.nil, by simp⟩
  | cons x r ih =>
    intro i h
    simp only [upI] at h
    by_cases c : x = (i : Int)
    · rw [if_pos c] at h
      obtain ⟨h1, h2⟩ := ih (i + 1) h
      refine ⟨List.pairwise_cons.2 ⟨fun y hy => ?_, h1⟩, fun y hy => ?_⟩
      · have := h2 y hy; omega
      · rw [List.length_cons]
        rcases List.mem_cons.1 hy with rfl | hy
        · omega
        · have := h2 y hy; omega
    · rw [if_neg c] at h
      cases h
theorem few (b : Int) : ∀ (s : List Int) (a : Int), s.Pairwise (· < ·) → (∀ x ∈ s, a ≤ x ∧ x < b) → a ≤ b → (s.length : Int) ≤ b - a := by
  intro s
  induction s with
  | nil => intro a _ _ h; simp; omega
  | cons x r ih =>
    intro a hp hm hab
    obtain ⟨h1, h2⟩ := List.pairwise_cons.1 hp
    have hx := hm x List.mem_cons_self
    have := ih (x + 1) h2 (fun y hy => ⟨by have := h1 y hy; omega, (hm y (List.mem_cons_of_mem _ hy)).2⟩) (by omega)
    rw [List.length_cons]
    omega
theorem up_of : ∀ (s : List Int) (i : Nat), s.Pairwise (· < ·) → (∀ x ∈ s, (i : Int) ≤ x ∧ x < (i : Int) + (s.length : Int)) → upI s i = true := by
  intro s
  induction s with
  | nil => intro i _ _; rfl
  | cons x r ih =>
    intro i hp hm
    obtain ⟨h1, h2⟩ := List.pairwise_cons.1 hp
    have hx := hm x List.mem_cons_self
    rw [List.length_cons] at hm hx
    have hf := few ((i : Int) + ((r.length + 1 : Nat) : Int)) r (x + 1) h2 (fun y hy => ⟨by have := h1 y hy; omega, (hm y (List.mem_cons_of_mem _ hy)).2⟩) (by omega)
    have e : x = (i : Int) := by omega
    simp only [upI]
    rw [if_pos e]
    refine ih (i + 1) h2 (fun y hy => ?_)
    have a1 := h1 y hy
    have a2 := (hm y (List.mem_cons_of_mem _ hy)).2
    omega
theorem srt_pair (l : List Int) : (srt l).Pairwise (· ≤ ·) := by
  have h := List.pairwise_mergeSort (le := fun x y : Int => decide (x ≤ y)) (fun a b c h1 h2 => by simp only [decide_eq_true_eq] at *; omega) (fun a b => by simp only [Bool.or_eq_true, decide_eq_true_eq]; omega) l
  exact h.imp (fun h => of_decide_eq_true h)
theorem perm_agree (l : List Int) (hl : l.length ≤ 1048576) : ∃ b, spec_l03Permutation.f l = some b ∧ impl_isPermutation.f l = some b ∧ (b = true → l.length ≤ 8) := by
  unfold spec_l03Permutation.f impl_isPermutation.f
  rw [if_pos hl]
  refine ⟨_, rfl, ?_, ?_⟩
  · congr 1
    by_cases c : 1 ≤ l.length ∧ l.length ≤ 8
    · rw [if_pos c, decide_eq_true (show (1 : Int) ≤ (l.length : Int) by omega), decide_eq_true (show (l.length : Int) ≤ 8 by omega), Bool.and_self, Bool.and_true]
      have hpm := List.mergeSort_perm l (fun x y => decide (x ≤ y))
      have hiff := pmR_iff (l.length : Int) (by omega) l (List.replicate 8 false) (by simp)
      rw [Bool.eq_iff_iff, hiff]
      constructor
      · intro h
        obtain ⟨h1, h2⟩ := up_spec _ _ h
        rw [srt_length] at h2
        refine ⟨fun x hx => ?_, ?_, fun x hx => ?_⟩
        · have := h2 x (hpm.mem_iff.2 hx)
          omega
        · exact hpm.nodup_iff.1 (h1.imp (fun h => by omega))
        · rw [List.getD_eq_getElem?_getD, List.getElem?_replicate]
          split <;> rfl
      · rintro ⟨h1, h2, _⟩
        refine up_of _ _ ?_ (fun x hx => ?_)
        · have hn := hpm.nodup_iff.2 h2
          exact ((srt_pair l).and hn).imp (fun h => by have := h.1; have := h.2; omega)
        · rw [srt_length]
          have := h1 x (hpm.mem_iff.1 hx)
          omega
    · rw [if_neg c]
      have : (decide ((1 : Int) ≤ (l.length : Int)) && decide ((l.length : Int) ≤ 8)) = false := by
        rw [← Bool.decide_and]
        exact decide_eq_false (by omega)
      rw [this, Bool.and_false]
  · intro h
    by_cases c : 1 ≤ l.length ∧ l.length ≤ 8
    · exact c.2
    · rw [if_neg c] at h
      cases h
/-! ### three falling entries -/
theorem sh2 (l : List Int) (hl : l.length ≤ 1048576) (i j : Nat) (hi : i < l.length) (hj : j < l.length) (r : Bool) (h : ∃ k, Q.spec_l03Short.l1 k l (i : Int) (wrap64 ((j : Int) + 1)) = some r) : ∀ (d m : Nat), m + d = l.length →
    ∃ k, Q.spec_l03Short.l2 k l (i : Int) (j : Int) (m : Int) = some (if rd l (j : Int) < rd l (i : Int) ∧ (l.drop m).any (fun c => decide (c < rd l (j : Int))) = true then false else r) := by
  intro d
  induction d with
  | zero =>
    intro m hm
    obtain ⟨k, hk⟩ := h
    refine ⟨k + 1, ?_⟩
    simp only [Q.spec_l03Short.l2]
    rw [if_neg (by omega), hk, List.drop_eq_nil_of_le (by omega), if_neg (by simp)]
  | succ d ih =>
    intro m hm
    have hm1 : m < l.length := by omega
    obtain ⟨k, hk⟩ := ih (m + 1) (by omega)
    have hw : wrap64 ((m : Int) + 1) = ((m + 1 : Nat) : Int) := wrap_nat (by omega)
    refine ⟨k + 1, ?_⟩
    simp only [Q.spec_l03Short.l2]
    rw [if_pos (by omega), if_pos (by omega), if_pos (by omega), if_pos (by omega), if_pos (by omega), drop_rd l m hm1, List.any_cons, hw, hk]
    by_cases c1 : rd l (j : Int) < rd l (i : Int)
    · rw [if_pos (show rd l (i : Int) > rd l (j : Int) from c1), if_pos (by omega)]
      by_cases c2 : rd l (m : Int) < rd l (j : Int)
      · rw [if_pos (show rd l (j : Int) > rd l (m : Int) from c2), decide_eq_true c2, Bool.true_or, if_pos ⟨c1, rfl⟩]
      · rw [if_neg (show ¬ rd l (j : Int) > rd l (m : Int) from c2), decide_eq_false c2, Bool.false_or]
    · rw [if_neg (show ¬ rd l (i : Int) > rd l (j : Int) from c1), if_neg (fun hh => c1 hh.1), if_neg (fun hh => c1 hh.1)]
theorem sh1 (l : List Int) (hl : l.length ≤ 1048576) (i : Nat) (hi : i < l.length) (h : ∃ k, Q.spec_l03Short.l0 k l (wrap64 ((i : Int) + 1)) = some (shI (l.drop (i + 1)))) : ∀ (d j : Nat), j + d = l.length →
    ∃ k, Q.spec_l03Short.l1 k l (i : Int) (j : Int) = some (shJ (rd l (i : Int)) (l.drop j) && shI (l.drop (i + 1))) := by
  intro d
  induction d with
  | zero =>
    intro j hj
    obtain ⟨k, hk⟩ := h
    refine ⟨k + 1, ?_⟩
    simp only [Q.spec_l03Short.l1]
    rw [if_neg (by omega), hk, List.drop_eq_nil_of_le (show l.length ≤ j by omega)]
    simp only [shJ, Bool.true_and]
  | succ d ih =>
    intro j hj
    have hj1 : j < l.length := by omega
    have hw : wrap64 ((j : Int) + 1) = ((j + 1 : Nat) : Int) := wrap_nat (by omega)
    obtain ⟨k, hk⟩ := sh2 l hl i j hi hj1 _ (by rw [hw]; exact ih (j + 1) (by omega)) (l.length - (j + 1)) (j + 1) (by omega)
    refine ⟨k + 1, ?_⟩
    simp only [Q.spec_l03Short.l1]
    rw [if_pos (by omega), hw, hk, drop_rd l j hj1]
    simp only [shJ]
    by_cases c1 : rd l (j : Int) < rd l (i : Int)
    · rw [if_pos c1]
      by_cases c2 : (l.drop (j + 1)).any (fun c => decide (c < rd l (j : Int))) = true
      · rw [if_pos ⟨c1, c2⟩, if_pos c2, Bool.false_and]
      · rw [if_neg (fun hh => c2 hh.2), if_neg c2]
    · rw [if_neg (fun hh => c1 hh.1), if_neg c1]
theorem sh0 (l : List Int) (hl : l.length ≤ 1048576) : ∀ (d i : Nat), i + d = l.length → ∃ k, Q.spec_l03Short.l0 k l (i : Int) = some (shI (l.drop i)) := by
  intro d
  induction d with
  | zero =>
    intro i hi
    refine ⟨1, ?_⟩
    simp only [Q.spec_l03Short.l0]
    rw [if_neg (by omega), List.drop_eq_nil_of_le (show l.length ≤ i by omega)]
    rfl
  | succ d ih =>
    intro i hi
    have hi1 : i < l.length := by omega
    have hw : wrap64 ((i : Int) + 1) = ((i + 1 : Nat) : Int) := wrap_nat (by omega)
    obtain ⟨k, hk⟩ := sh1 l hl i hi1 (by rw [hw]; exact ih (i + 1) (by omega)) (l.length - (i + 1)) (i + 1) (by omega)
    refine ⟨k + 1, ?_⟩
    simp only [Q.spec_l03Short.l0]
    rw [if_pos (by omega), hw, hk, drop_rd l i hi1]
    rfl
theorem FnExactIsShort : laws_FnExactIsShort.Pure := by
  intro l0 h1 h2 h3
  by_cases hl : l0.length ≤ 1048576
  · obtain ⟨b, hs, hi, hb⟩ := perm_agree l0 hl
    obtain ⟨k1, hk1⟩ := sh0 l0 hl l0.length 0 (by omega)
    rw [List.drop_zero] at hk1
    have hmono : ∀ k, k1 ≤ k → Q.spec_l03Short.f k l0 = some (shI l0) := by
      intro k hk
      induction hk with
      | refl => exact hk1
      | step _ ih => exact Q.spec_l03Short.mono _ _ _ ih
    obtain ⟨m, hm1, hm2⟩ : ∃ m, k1 ≤ m + 1 ∧ l0.length < m := ⟨max k1 (l0.length + 1), by omega, by omega⟩
    refine ⟨m + 1, ?_⟩
    have hS := hmono (m + 1) hm1
    have hT := toS l0 hl (show l0.length < m + 1 by omega)
    have hT2 := toS l0 hl hm2
    have hE := eqS l0 (by omega) hm2
    have hI : impl_isShort.f l0 = some (shI l0) := by
      unfold impl_isShort.f
      rw [if_pos (by omega)]
    unfold laws_FnExactIsShort.f spec_IsShort.f impl_IsShort.f
    rw [if_neg (by omega), hT, Option.bind_some, hs, Option.bind_some]
    cases b with
    | true => simp [hS, hi, hI, laws_FnExactIsShort.j0, hT, hT2, hE]
    | false => simp [hS, hi, hI, laws_FnExactIsShort.j0, hT, hT2, hE]
  · refine ⟨1, ?_⟩
    unfold laws_FnExactIsShort.f
    rw [if_pos (by omega)]

end Go.Proofs.Ytlagckiombkngaa.Pure
