/- Lists of numbers that are copied, held against each other, marked and looked at again: plain lemmas. No condition. -/
import Derived.Test.YtfboiigejaiodaaHandBraid
import Derived.Test.YtfboiigejaiodaaQx1
namespace Go.Proofs.Ytfboiigejaiodaa.PA
open Go.RowKit Go.Proofs.Ytfboiigejaiodaa.Q Go.Proofs.Ytfboiigejaiodaa.Hand Go.Proofs.YtfboiigejaiodaaW.PrintWords Go.Proofs.YtfboiigejaiodaaW.PrintLast

theorem specIn (a lo hi : Int) : spec_l01In.f a lo hi = some (decide (lo ≤ a ∧ a ≤ hi)) := by
  unfold spec_l01In.f
  by_cases h : a ≥ lo
  · rw [if_pos h]
    by_cases h2 : a ≤ hi
    · rw [decide_eq_true h2, decide_eq_true (by omega)]
    · rw [decide_eq_false h2, decide_eq_false (by omega)]
  · rw [if_neg h, decide_eq_false (by omega)]
theorem wrap_id {x : Int} (h0 : -9223372036854775808 ≤ x) (h1 : x ≤ 9223372036854775807) : wrap64 x = x := by
  unfold wrap64
  omega
theorem wrap_nat {i : Nat} (h : i ≤ 1000000000) : wrap64 ((i : Int) + 1) = ((i + 1 : Nat) : Int) := by
  unfold wrap64
  omega
/-- Copying a list of numbers gives the list. -/
theorem to_go (l : List Int) (hb : l.length ≤ 1048576) : ∀ (d i k : Nat) (xs : List Int), i + d = l.length → d < k → xs.length = l.length → (∀ j : Nat, j < i → xs[j]? = l[j]?) → laws_toInt64S.l0 k l xs (i : Int) = some l := by
  intro d
  induction d with
  | zero =>
    intro i k xs hi hk hx hv
    obtain ⟨k, rfl⟩ : ∃ m, k = m + 1 := ⟨k - 1, by omega⟩
    simp only [laws_toInt64S.l0]
    rw [if_neg (by omega)]
    congr 1
    apply List.ext_getElem?
    intro j
    by_cases hj : j < l.length
    · exact hv j (by omega)
    · rw [List.getElem?_eq_none (by omega), List.getElem?_eq_none (by omega)]
  | succ d ih =>
    intro i k xs hi hk hx hv
    obtain ⟨k, rfl⟩ : ∃ m, k = m + 1 := ⟨k - 1, by omega⟩
    simp only [laws_toInt64S.l0]
    rw [if_pos (by omega), if_pos (by omega), if_pos (by omega), wrap_nat (by omega)]
    refine ih (i + 1) k _ (by omega) (by omega) (by simp [hx]) ?_
    intro j hj
    rw [Int.toNat_natCast, List.getElem?_set]
    by_cases h : i = j
    · subst h
      rw [if_pos rfl, if_pos (by omega)]
      unfold rd
      rw [Int.toNat_natCast, List.getD_eq_getElem?_getD, List.getElem?_eq_getElem (by omega)]
      rfl
    · rw [if_neg h]; exact hv j (by omega)
theorem toS (l : List Int) (hb : l.length ≤ 1048576) {k : Nat} (hk : l.length < k) : laws_toInt64S.f k l = some l := by
  unfold laws_toInt64S.f
  rw [if_pos (by omega), if_pos (by omega)]
  exact to_go l hb l.length 0 k _ (by omega) hk (by simp) (by intro j hj; omega)
theorem drop_any {l : List Int} {i : Nat} (hi : i < l.length) (P : Int → Bool) : (l.drop i).any P = (P (rd l (i : Int)) || (l.drop (i + 1)).any P) := by
  rw [List.drop_eq_getElem_cons hi, List.any_cons]
  unfold rd
  rw [Int.toNat_natCast, List.getD_eq_getElem?_getD, List.getElem?_eq_getElem hi]
  rfl
/-- A list of the length n with the numbers from s on. -/
def cnt (s : Int) (n : Nat) : List Int := (List.range n).map fun j : Nat => s + (j : Int)
theorem eqS_refl (l : List Int) (hb : l.length ≤ 2000000) : ∀ (d i k : Nat), i + d = l.length → d < k → laws_eqInt64S.l0 k l l (i : Int) = some true := by
  intro d
  induction d with
  | zero =>
    intro i k hi hk
    obtain ⟨k, rfl⟩ : ∃ m, k = m + 1 := ⟨k - 1, by omega⟩
    simp only [laws_eqInt64S.l0]
    rw [if_neg (by omega)]
  | succ d ih =>
    intro i k hi hk
    obtain ⟨k, rfl⟩ : ∃ m, k = m + 1 := ⟨k - 1, by omega⟩
    simp only [laws_eqInt64S.l0]
    rw [if_pos (by omega), if_pos (by omega), if_pos (by omega), if_pos trivial, wrap_id (by omega) (by omega)]
    exact ih (i + 1) k (by omega) (by omega)
theorem eqS (l : List Int) (hb : l.length ≤ 2000000) {k : Nat} (hk : l.length < k) : laws_eqInt64S.f k l l = some true := by
  unfold laws_eqInt64S.f
  rw [if_pos rfl]
  exact eqS_refl l hb l.length 0 k (by omega) hk
theorem mark_go (n : Nat) (hb : n ≤ 2000000) : ∀ (d i k : Nat) (l : List Int), l.length = n → i + d = n → d < k → (∀ j : Nat, j < i → l[j]? = some (1 + (j : Int))) →
    laws_markInt64S.l0 k l (1 + (i : Int)) (i : Int) = some (1 + (n : Int), cnt 1 n) := by
  intro d
  induction d with
  | zero =>
    intro i k l hl hi hk hv
    obtain ⟨k, rfl⟩ : ∃ m, k = m + 1 := ⟨k - 1, by omega⟩
    simp only [laws_markInt64S.l0]
    rw [if_neg (by omega), show i = n from by omega]
    congr 2
    apply List.ext_getElem?
    intro j
    unfold cnt
    by_cases hj : j < n
    · rw [hv j (by omega)]; simp [hj]
    · rw [List.getElem?_eq_none (by omega), List.getElem?_eq_none (by simp; omega)]
  | succ d ih =>
    intro i k l hl hi hk hv
    obtain ⟨k, rfl⟩ : ∃ m, k = m + 1 := ⟨k - 1, by omega⟩
    simp only [laws_markInt64S.l0]
    rw [if_pos (by omega), if_pos (by omega), wrap_id (x := 1 + (i : Int) + 1) (by omega) (by omega), wrap_id (x := (i : Int) + 1) (by omega) (by omega), show 1 + (i : Int) + 1 = 1 + ((i + 1 : Nat) : Int) from by omega]
    refine ih (i + 1) k _ (by simp [hl]) (by omega) (by omega) ?_
    intro j hj
    rw [Int.toNat_natCast, List.getElem?_set]
    by_cases h : i = j
    · subst h; rw [if_pos rfl, if_pos (by omega)]
    · rw [if_neg h]; exact hv j (by omega)
theorem markS (l : List Int) (hb : l.length ≤ 2000000) {k : Nat} (hk : l.length < k) : laws_markInt64S.f k l 1 = some (1 + (l.length : Int), cnt 1 l.length) :=
  mark_go l.length hb l.length 0 k l rfl (by omega) hk (by intro j hj; omega)
theorem held_go (n : Nat) (hb : n ≤ 2000000) : ∀ (d i k : Nat), i + d = n → d < k → laws_heldInt64S.l0 k (cnt 1 n) (1 + (i : Int)) (i : Int) = some (1 + (n : Int)) := by
  intro d
  induction d with
  | zero =>
    intro i k hi hk
    obtain ⟨k, rfl⟩ : ∃ m, k = m + 1 := ⟨k - 1, by omega⟩
    simp only [laws_heldInt64S.l0]
    rw [if_neg (by simp [cnt]; omega), show i = n from by omega]
  | succ d ih =>
    intro i k hi hk
    obtain ⟨k, rfl⟩ : ∃ m, k = m + 1 := ⟨k - 1, by omega⟩
    simp only [laws_heldInt64S.l0]
    rw [if_pos (by simp [cnt]; omega), if_pos (by omega), if_pos (by unfold rd cnt; rw [Int.toNat_natCast, List.getD_eq_getElem?_getD]; simp [show i < n from by omega]), wrap_id (x := 1 + (i : Int) + 1) (by omega) (by omega), wrap_id (x := (i : Int) + 1) (by omega) (by omega), show 1 + (i : Int) + 1 = 1 + ((i + 1 : Nat) : Int) from by omega]
    exact ih (i + 1) k (by omega) (by omega)
theorem heldS (n : Nat) (hb : n ≤ 2000000) {k : Nat} (hk : n < k) : laws_heldInt64S.f k (cnt 1 n) 1 = some (1 + (n : Int)) := held_go n hb n 0 k (by omega) hk

end Go.Proofs.Ytfboiigejaiodaa.PA
