/- The permutation of a braid word: the program and the reference tell the same: plain lemmas. No condition. -/
import Derived.Test.YtfboiigejaiodaaPB
namespace Go.Proofs.Ytfboiigejaiodaa.PX
open Go.RowKit Go.Proofs.Ytfboiigejaiodaa.Q Go.Proofs.Ytfboiigejaiodaa.Hand Go.Proofs.YtfboiigejaiodaaW.PrintWords Go.Proofs.YtfboiigejaiodaaW.PrintLast Go.Proofs.Ytfboiigejaiodaa.PA Go.Proofs.Ytfboiigejaiodaa.PB


theorem impl_l2 (n : Nat) (hn : n ≤ 6) (a : List Int) (hg : Hand.Good n a) : ∀ (d i k : Nat), i + d = n → d < k → impl_BraidPermutation.l2 k (outAfter a n i) a (a.length : Int) (i : Int) = some (outAfter a n n, 0) := by
  intro d
  induction d with
  | zero =>
    intro i k hi hk
    obtain ⟨k, rfl⟩ : ∃ m, k = m + 1 := ⟨k - 1, by omega⟩
    have hl := hg.1
    simp only [impl_BraidPermutation.l2]
    rw [if_neg (by omega), show i = n by omega]
  | succ d ih =>
    intro i k hi hk
    obtain ⟨k, rfl⟩ : ∃ m, k = m + 1 := ⟨k - 1, by omega⟩
    have hl := hg.1
    obtain ⟨h0, h1⟩ := hg.2 i (by omega)
    simp only [impl_BraidPermutation.l2, wrap_nat (show i ≤ 1000000000 by omega)]
    rw [if_pos (by omega), if_pos (by omega), if_pos (by omega), if_pos h0, if_pos (by rw [outAfter_len]; omega)]
    exact ih (i + 1) k (by omega) (by omega)
theorem impl_l1 (n : Nat) (hn2 : 2 ≤ n) (hn : n ≤ 6) (l : List Int) (hl : l.length ≤ 24) (hw : ∀ j : Nat, j < l.length → rd l (j : Int) ≠ 0 ∧ 1 - (n : Int) ≤ rd l (j : Int) ∧ rd l (j : Int) ≤ (n : Int) - 1) :
    ∀ (d i k : Nat), i + d = l.length → d + n + 2 < k → impl_BraidPermutation.l1 k (atAfter n l i) (List.replicate n 0) l (l.length : Int) (i : Int) = some (permB n l, 0) := by
  intro d
  induction d with
  | zero =>
    intro i k hi hk
    obtain ⟨k, rfl⟩ : ∃ m, k = m + 1 := ⟨k - 1, by omega⟩
    simp only [impl_BraidPermutation.l1]
    rw [if_neg (by omega), show i = l.length by omega]
    exact impl_l2 n hn _ (good_at n l hw l.length (Nat.le_refl _)) n 0 k (by omega) (by omega)
  | succ d ih =>
    intro i k hi hk
    obtain ⟨k, rfl⟩ : ∃ m, k = m + 1 := ⟨k - 1, by omega⟩
    obtain ⟨w0, w1, w2⟩ := hw i (by omega)
    have hg := good_at n l hw i (by omega)
    have hlen := hg.1
    have hnext := ih (i + 1) k (by omega) (by omega)
    have e0 : atAfter n l (i + 1) = swp (atAfter n l i) ((rd l (i : Int)).natAbs - 1) (rd l (i : Int)).natAbs := rfl
    rw [e0] at hnext
    obtain ⟨m, hm, hm1, hm2⟩ : ∃ m : Nat, mx (rd l (i : Int)) (wrap64 (-(rd l (i : Int)))) = ((m + 1 : Nat) : Int) ∧ m + 1 < n ∧ (rd l (i : Int)).natAbs = m + 1 := by
      generalize rd l (i : Int) = x at w0 w1 w2
      refine ⟨(mx x (wrap64 (-x))).toNat - 1, ?_⟩
      rw [wrap_id (by omega) (by omega)]
      unfold mx
      split <;> omega
    rw [hm2, show m + 1 - 1 = m by omega] at hnext
    unfold swp at hnext
    have e1 : wrap64 (((m + 1 : Nat) : Int) - 1) = (m : Int) := by rw [wrap_id (by omega) (by omega)]; omega
    simp only [impl_BraidPermutation.l1, hm, e1, wrap_nat (show i ≤ 1000000000 by omega), Int.toNat_natCast]
    rw [if_pos (by omega), if_pos (by omega), if_pos (by omega), if_pos (by omega), if_pos (by omega), if_pos (by omega), if_pos (by omega)]
    exact hnext
theorem impl_l0 (n : Nat) (hn2 : 2 ≤ n) (hn : n ≤ 6) (l : List Int) (hl : l.length ≤ 24) (hw : ∀ j : Nat, j < l.length → rd l (j : Int) ≠ 0 ∧ 1 - (n : Int) ≤ rd l (j : Int) ∧ rd l (j : Int) ≤ (n : Int) - 1) :
    ∀ (d i k : Nat) (xs : List Int), i + d = n → xs.length = n → (∀ j : Nat, j < i → xs[j]? = some (j : Int)) → d + l.length + n + 4 < k → impl_BraidPermutation.l0 k l xs (List.replicate n 0) (n : Int) (i : Int) = some (permB n l, 0) := by
  intro d
  induction d with
  | zero =>
    intro i k xs hi hx hv hk
    obtain ⟨k, rfl⟩ : ∃ m, k = m + 1 := ⟨k - 1, by omega⟩
    simp only [impl_BraidPermutation.l0]
    rw [if_neg (by omega)]
    have e : xs = base n := by
      apply List.ext_getElem?
      intro j
      by_cases hj : j < n
      · rw [hv j (by omega)]
        simp [base, hj]
      · rw [List.getElem?_eq_none (by omega), List.getElem?_eq_none (by rw [base_len]; omega)]
    rw [e]
    exact impl_l1 n hn2 hn l hl hw l.length 0 k (by omega) (by omega)
  | succ d ih =>
    intro i k xs hi hx hv hk
    obtain ⟨k, rfl⟩ : ∃ m, k = m + 1 := ⟨k - 1, by omega⟩
    simp only [impl_BraidPermutation.l0, wrap_nat (show i ≤ 1000000000 by omega)]
    rw [if_pos (by omega), if_pos (by omega), if_pos (by omega), Int.toNat_natCast]
    refine ih (i + 1) k _ (by omega) (by simp [hx]) (fun j hj => ?_) (by omega)
    rw [List.getElem?_set]
    by_cases h : i = j
    · subst h; rw [if_pos rfl, if_pos (by omega)]
    · rw [if_neg h]; exact hv j (by omega)
theorem both (n : Int) (l : List Int) (hb : l.length ≤ 1048576) : ∃ ys e, ys.length ≤ 25 ∧ (∀ k, l.length + 40 < k → (spec_l06Word.f k n l).bind (fun t => if t = true then (spec_l06Permutation.f n l).bind (fun p => some (p, (0 : Int))) else some ([], 2)) = some (ys, e)) ∧ (∀ k : Nat, l.length + 40 < k → impl_BraidPermutation.f k n l = some (ys, e)) ∧ (e = 0 → okB n l = true ∧ spec_l06Permutation.f n l = some ys ∧ ys = permB n.toNat l) ∧ (e ≠ 0 → okB n l = false ∧ e = 2) := by
  cases ho : okB n l with
  | false =>
    refine ⟨[], 2, by simp, fun k hk => ?_, fun k hk => ?_, fun h => absurd h (by decide), fun _ => ⟨rfl, rfl⟩⟩
    · rw [specWord n l hb (by omega), ho, Option.bind_some, if_neg (by simp)]
    · unfold impl_BraidPermutation.f
      rw [implWord n l hb, ho, Option.bind_some, if_neg (by simp)]
  | true =>
    obtain ⟨h1, h2, h3, h4⟩ := okB_spec ho
    have hp : spec_l06Permutation.f n l = some (permB n.toNat l) := by
      unfold spec_l06Permutation.f
      rw [if_pos (okW_of ho)]
    obtain ⟨m, rfl⟩ := Int.eq_ofNat_of_zero_le (show 0 ≤ n by omega)
    refine ⟨permB m l, 0, by unfold permB; rw [outAfter_len]; omega, fun k hk => ?_, fun k hk => ?_, fun _ => ⟨rfl, hp, rfl⟩, fun h => absurd rfl h⟩
    · rw [specWord _ l hb (by omega), ho, Option.bind_some, if_pos rfl, hp]
      rfl
    · unfold impl_BraidPermutation.f
      rw [implWord _ l hb, ho, Option.bind_some, if_pos rfl, if_pos (by omega), if_pos (by omega), Option.bind_some, Int.toNat_natCast, List.length_replicate]
      exact impl_l0 m (by omega) (by omega) l h3 h4 m 0 k _ (by omega) (by simp) (fun j hj => absurd hj (by omega)) (by omega)

end Go.Proofs.Ytfboiigejaiodaa.PX
