/- What the laws do to mark a list of numbers and to look at it again: plain lemmas. No condition. -/
import Derived.Test.YtbkokdpginghoaaPA
import Derived.Test.YtbkokdpginghoaaQx4
import Derived.Test.YtbkokdpginghoaaQx5
namespace Go.Proofs.Ytbkokdpginghoaa.PC
open Go.RowKit Go.Proofs.Ytbkokdpginghoaa.Q Go.Proofs.YtbkokdpginghoaaW.PrintWords Go.Proofs.YtbkokdpginghoaaW.PrintLast Go.Proofs.Ytbkokdpginghoaa.PA

/-- A list of the length n with the numbers from s on. -/
def cnt (s : Int) (n : Nat) : List Int := (List.range n).map fun j : Nat => s + (j : Int)
theorem eqS_refl (l : List Int) (hb : l.length ≤ 1000000) : ∀ (d i k : Nat), i + d = l.length → d < k → laws_eqInt64S.l0 k l l (i : Int) = some true := by
  intro d
  induction d with
  | zero =>
    intro i k hi hk
    obtain ⟨k, rfl⟩ : ∃ m, k = m + 1 := ⟨k - 1, by omega⟩
    simp only [laws_eqInt64S.l0]
    rw [if_neg (by omega)]
  | succ d ih =>
    intro i k hi hk
    obtain ⟨k, rfl⟩ : ∃ m, k = m + 1 := ⟨k - 1, by omega⟩
    simp only [laws_eqInt64S.l0]
    rw [if_pos (by omega), if_pos (by omega), if_pos (by omega), if_pos trivial, wrap_id (by omega) (by omega)]
    exact ih (i + 1) k (by omega) (by omega)
theorem eqS (l : List Int) (hb : l.length ≤ 1000000) {k : Nat} (hk : l.length < k) : laws_eqInt64S.f k l l = some true := by
  unfold laws_eqInt64S.f
  rw [if_pos rfl]
  exact eqS_refl l hb l.length 0 k (by omega) hk
theorem mark_go (n : Nat) (hb : n ≤ 1000000) : ∀ (d i k : Nat) (l : List Int), l.length = n → i + d = n → d < k → (∀ j : Nat, j < i → l[j]? = some (1 + (j : Int))) →
    laws_markInt64S.l0 k l (1 + (i : Int)) (i : Int) = some (1 + (n : Int), cnt 1 n) := by
  intro d
  induction d with
  | zero =>
    intro i k l hl hi hk hv
    obtain ⟨k, rfl⟩ : ∃ m, k = m + 1 := ⟨k - 1, by omega⟩
    simp only [laws_markInt64S.l0]
    rw [if_neg (by omega), show i = n from by omega]
    congr 2
    apply List.ext_getElem?
    intro j
    unfold cnt
    by_cases hj : j < n
    · rw [hv j (by omega)]; simp [hj]
    · rw [List.getElem?_eq_none (by omega), List.getElem?_eq_none (by simp; omega)]
  | succ d ih =>
    intro i k l hl hi hk hv
    obtain ⟨k, rfl⟩ : ∃ m, k = m + 1 := ⟨k - 1, by omega⟩
    simp only [laws_markInt64S.l0]
    rw [if_pos (by omega), if_pos (by omega), wrap_id (x := 1 + (i : Int) + 1) (by omega) (by omega), wrap_id (x := (i : Int) + 1) (by omega) (by omega), show 1 + (i : Int) + 1 = 1 + ((i + 1 : Nat) : Int) from by omega]
    refine ih (i + 1) k _ (by simp [hl]) (by omega) (by omega) ?_
    intro j hj
    rw [Int.toNat_natCast, List.getElem?_set]
    by_cases h : i = j
    · subst h; rw [if_pos rfl, if_pos (by omega)]
    · rw [if_neg h]; exact hv j (by omega)
theorem markS (l : List Int) (hb : l.length ≤ 1000000) {k : Nat} (hk : l.length < k) : laws_markInt64S.f k l 1 = some (1 + (l.length : Int), cnt 1 l.length) :=
  mark_go l.length hb l.length 0 k l rfl (by omega) hk (by intro j hj; omega)
theorem held_go (n : Nat) (hb : n ≤ 1000000) : ∀ (d i k : Nat), i + d = n → d < k → laws_heldInt64S.l0 k (cnt 1 n) (1 + (i : Int)) (i : Int) = some (1 + (n : Int)) := by
  intro d
  induction d with
  | zero =>
    intro i k hi hk
    obtain ⟨k, rfl⟩ : ∃ m, k = m + 1 := ⟨k - 1, by omega⟩
    simp only [laws_heldInt64S.l0]
    rw [if_neg (by simp [cnt]; omega), show i = n from by omega]
  | succ d ih =>
    intro i k hi hk
    obtain ⟨k, rfl⟩ : ∃ m, k = m + 1 := ⟨k - 1, by omega⟩
    simp only [laws_heldInt64S.l0]
    rw [if_pos (by simp [cnt]; omega), if_pos (by omega), if_pos (by unfold rd cnt; rw [Int.toNat_natCast, List.getD_eq_getElem?_getD]; simp [show i < n from by omega]), wrap_id (x := 1 + (i : Int) + 1) (by omega) (by omega), wrap_id (x := (i : Int) + 1) (by omega) (by omega), show 1 + (i : Int) + 1 = 1 + ((i + 1 : Nat) : Int) from by omega]
    exact ih (i + 1) k (by omega) (by omega)
theorem heldS (n : Nat) (hb : n ≤ 1000000) {k : Nat} (hk : n < k) : laws_heldInt64S.f k (cnt 1 n) 1 = some (1 + (n : Int)) := held_go n hb n 0 k (by omega) hk

end Go.Proofs.Ytbkokdpginghoaa.PC
