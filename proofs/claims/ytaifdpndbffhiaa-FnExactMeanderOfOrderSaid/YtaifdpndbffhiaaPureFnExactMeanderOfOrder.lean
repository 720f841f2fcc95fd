/- The plain law of MeanderOfOrder: the program and the reference tell the same. No condition. -/
import Derived.Test.YtaifdpndbffhiaaPB
import Derived.Test.YtaifdpndbffhiaaQx1
namespace Go.Proofs.Ytaifdpndbffhiaa.Pure
open Go.RowKit Go.Proofs.Ytaifdpndbffhiaa.Q Go.Proofs.Ytaifdpndbffhiaa.Hand Go.Proofs.YtaifdpndbffhiaaW.PrintWords Go.Proofs.YtaifdpndbffhiaaW.PrintLast Go.Proofs.Ytaifdpndbffhiaa.PA Go.Proofs.Ytaifdpndbffhiaa.PB
set_option linter.unusedVariables false
set_option linter.unusedSimpArgs false

/-- Copying a list of numbers gives the list. -/
theorem to_go (l : List Int) (hb : l.length ≤ 1048576) : ∀ (d i k : Nat) (xs : List Int), i + d = l.length → d < k → xs.length = l.length → (∀ j : Nat, j < i → xs[j]? = l[j]?) → laws_toInt64S.l0 k l xs (i : Int) = some l := by
  intro d
  induction d with
  | zero =>
    intro i k xs hi hk hx hv
    obtain ⟨k, rfl⟩ : ∃ m, k = m + 1 := ⟨k - 1, by omega⟩
    simp only [laws_toInt64S.l0]
    rw [if_neg (by omega)]
    congr 1
    apply List.ext_getElem?
    intro j
    by_cases hj : j < l.length
    · exact hv j (by omega)
    · rw [List.getElem?_eq_none (by omega), List.getElem?_eq_none (by omega)]
  | succ d ih =>
    intro i k xs hi hk hx hv
    obtain ⟨k, rfl⟩ : ∃ m, k = m + 1 := ⟨k - 1, by omega⟩
    simp only [laws_toInt64S.l0]
    rw [if_pos (by omega), if_pos (by omega), if_pos (by omega), wrap_nat (by omega)]
    refine ih (i + 1) k _ (by omega) (by omega) (by simp [hx]) ?_
    intro j hj
    rw [Int.toNat_natCast, List.getElem?_set]
    by_cases h : i = j
    · subst h
      rw [if_pos rfl, if_pos (by omega)]
      unfold rd
      rw [Int.toNat_natCast, List.getD_eq_getElem?_getD, List.getElem?_eq_getElem (by omega)]
      rfl
    · rw [if_neg h]; exact hv j (by omega)
theorem toS (l : List Int) (hb : l.length ≤ 1048576) {k : Nat} (hk : l.length < k) : laws_toInt64S.f k l = some l := by
  unfold laws_toInt64S.f
  rw [if_pos (by omega), if_pos (by omega)]
  exact to_go l hb l.length 0 k _ (by omega) hk (by simp) (by intro j hj; omega)
theorem eqS_refl (l : List Int) (hb : l.length ≤ 2000000) : ∀ (d i k : Nat), i + d = l.length → d < k → laws_eqInt64S.l0 k l l (i : Int) = some true := by
  intro d
  induction d with
  | zero =>
    intro i k hi hk
    obtain ⟨k, rfl⟩ : ∃ m, k = m + 1 := ⟨k - 1, by omega⟩
    simp only [laws_eqInt64S.l0]
    rw [if_neg (by omega)]
  | succ d ih =>
    intro i k hi hk
    obtain ⟨k, rfl⟩ : ∃ m, k = m + 1 := ⟨k - 1, by omega⟩
    simp only [laws_eqInt64S.l0]
    rw [if_pos (by omega), if_pos (by omega), if_pos (by omega), if_pos trivial, wrap_id (by omega) (by omega)]
    exact ih (i + 1) k (by omega) (by omega)
theorem eqS (l : List Int) (hb : l.length ≤ 2000000) {k : Nat} (hk : l.length < k) : laws_eqInt64S.f k l l = some true := by
  unfold laws_eqInt64S.f
  rw [if_pos rfl]
  exact eqS_refl l hb l.length 0 k (by omega) hk
theorem FnExactMeanderOfOrder : laws_FnExactMeanderOfOrder.Pure := by
  intro l0 h1 h2 h3
  by_cases hl : l0.length ≤ 1048576
  · obtain ⟨r, hr⟩ := orderBoth l0
    refine ⟨1048580, ?_⟩
    have hT := toS l0 hl (show l0.length < 1048580 by omega)
    have hT2 := toS l0 hl (show l0.length < 1048579 by omega)
    have hE := eqS l0 (by omega) (show l0.length < 1048579 by omega)
    obtain ⟨hs, hi⟩ := hr 1048580 (by omega)
    unfold laws_FnExactMeanderOfOrder.f
    rw [if_neg (by omega), hT, Option.bind_some, hs, Option.bind_some, Option.bind_some, hi, Option.bind_some, if_pos rfl, if_pos rfl]
    have hj : ∀ b : Bool, b = false → laws_FnExactMeanderOfOrder.j0 1048580 l0 l0 b = some true := by
      intro b hb
      subst hb
      rw [show (1048580 : Nat) = 1048579 + 1 from rfl]
      simp only [laws_FnExactMeanderOfOrder.j0]
      rw [if_neg (by simp), hT2, Option.bind_some, hE, Option.bind_some, if_pos rfl]
    exact hj _ (by simp)
  · refine ⟨1, ?_⟩
    unfold laws_FnExactMeanderOfOrder.f
    rw [if_pos (by omega)]

end Go.Proofs.Ytaifdpndbffhiaa.Pure
