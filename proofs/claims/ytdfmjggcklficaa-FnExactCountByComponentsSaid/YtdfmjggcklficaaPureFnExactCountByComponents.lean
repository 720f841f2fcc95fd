/- CountByComponents of the program returns what the reference returns, for all whole numbers: the pure statement. No condition. -/
import Derived.Test.YtdfmjggcklficaaPVI
import Derived.Test.YtdfmjggcklficaaPVS
import Derived.Test.YtdfmjggcklficaaQx1
import Derived.Test.YtdfmjggcklficaaQx2
import Derived.Test.YtdfmjggcklficaaQx5
import Derived.Test.YtdfmjggcklficaaQx6
namespace Go.Proofs.Ytdfmjggcklficaa.Pure
open Go.RowKit Go.Proofs.Ytdfmjggcklficaa.Q Go.Proofs.Ytdfmjggcklficaa.Hand Go.Proofs.YtdfmjggcklficaaW.PrintWords Go.Proofs.YtdfmjggcklficaaW.PrintLast Go.Proofs.Ytdfmjggcklficaa.PV

theorem wrap_id {x : Int} (h0 : -9223372036854775808 ≤ x) (h1 : x ≤ 9223372036854775807) : wrap64 x = x := by
  unfold wrap64
  omega
theorem wrap_nat {i : Nat} (h : i ≤ 1000000000) : wrap64 ((i : Int) + 1) = ((i + 1 : Nat) : Int) := by
  unfold wrap64
  omega
/-- A list of the length n with the numbers from s on. -/
def cnt (s : Int) (n : Nat) : List Int := (List.range n).map fun j : Nat => s + (j : Int)
theorem eqS_refl (l : List Int) (hb : l.length ≤ 2000000) : ∀ (d i k : Nat), i + d = l.length → d < k → laws_eqInt64S.l0 k l l (i : Int) = some true := by
  intro d
  induction d with
  | zero =>
    intro i k hi hk
    obtain ⟨k, rfl⟩ : ∃ m, k = m + 1 := ⟨k - 1, by omega⟩
    simp only [laws_eqInt64S.l0]
    rw [if_neg (by omega)]
  | succ d ih =>
    intro i k hi hk
    obtain ⟨k, rfl⟩ : ∃ m, k = m + 1 := ⟨k - 1, by omega⟩
    simp only [laws_eqInt64S.l0]
    rw [if_pos (by omega), if_pos (by omega), if_pos (by omega), if_pos trivial, wrap_id (by omega) (by omega)]
    exact ih (i + 1) k (by omega) (by omega)
theorem eqS (l : List Int) (hb : l.length ≤ 2000000) {k : Nat} (hk : l.length < k) : laws_eqInt64S.f k l l = some true := by
  unfold laws_eqInt64S.f
  rw [if_pos rfl]
  exact eqS_refl l hb l.length 0 k (by omega) hk
theorem mark_go (n : Nat) (hb : n ≤ 2000000) : ∀ (d i k : Nat) (l : List Int), l.length = n → i + d = n → d < k → (∀ j : Nat, j < i → l[j]? = some (1 + (j : Int))) →
    laws_markInt64S.l0 k l (1 + (i : Int)) (i : Int) = some (1 + (n : Int), cnt 1 n) := by
  intro d
  induction d with
  | zero =>
    intro i k l hl hi hk hv
    obtain ⟨k, rfl⟩ : ∃ m, k = m + 1 := ⟨k - 1, by omega⟩
    simp only [laws_markInt64S.l0]
    rw [if_neg (by omega), show i = n from by omega]
    congr 2
    apply List.ext_getElem?
    intro j
    unfold cnt
    by_cases hj : j < n
    · rw [hv j (by omega)]; simp [hj]
    · rw [List.getElem?_eq_none (by omega), List.getElem?_eq_none (by simp; omega)]
  | succ d ih =>
    intro i k l hl hi hk hv
    obtain ⟨k, rfl⟩ : ∃ m, k = m + 1 := ⟨k - 1, by omega⟩
    simp only [laws_markInt64S.l0]
    rw [if_pos (by omega), if_pos (by omega), wrap_id (x := 1 + (i : Int) + 1) (by omega) (by omega), wrap_id (x := (i : Int) + 1) (by omega) (by omega), show 1 + (i : Int) + 1 = 1 + ((i + 1 : Nat) : Int) from by omega]
    refine ih (i + 1) k _ (by simp [hl]) (by omega) (by omega) ?_
    intro j hj
    rw [Int.toNat_natCast, List.getElem?_set]
    by_cases h : i = j
    · subst h; rw [if_pos rfl, if_pos (by omega)]
    · rw [if_neg h]; exact hv j (by omega)
theorem markS (l : List Int) (hb : l.length ≤ 2000000) {k : Nat} (hk : l.length < k) : laws_markInt64S.f k l 1 = some (1 + (l.length : Int), cnt 1 l.length) :=
  mark_go l.length hb l.length 0 k l rfl (by omega) hk (by intro j hj; omega)
theorem held_go (n : Nat) (hb : n ≤ 2000000) : ∀ (d i k : Nat), i + d = n → d < k → laws_heldInt64S.l0 k (cnt 1 n) (1 + (i : Int)) (i : Int) = some (1 + (n : Int)) := by
  intro d
  induction d with
  | zero =>
    intro i k hi hk
    obtain ⟨k, rfl⟩ : ∃ m, k = m + 1 := ⟨k - 1, by omega⟩
    simp only [laws_heldInt64S.l0]
    rw [if_neg (by simp [cnt]; omega), show i = n from by omega]
  | succ d ih =>
    intro i k hi hk
    obtain ⟨k, rfl⟩ : ∃ m, k = m + 1 := ⟨k - 1, by omega⟩
    simp only [laws_heldInt64S.l0]
    rw [if_pos (by simp [cnt]; omega), if_pos (by omega), if_pos (by unfold rd cnt; rw [Int.toNat_natCast, List.getD_eq_getElem?_getD]; simp [show i < n from by omega]), wrap_id (x := 1 + (i : Int) + 1) (by omega) (by omega), wrap_id (x := (i : Int) + 1) (by omega) (by omega), show 1 + (i : Int) + 1 = 1 + ((i + 1 : Nat) : Int) from by omega]
    exact ih (i + 1) k (by omega) (by omega)
theorem heldS (n : Nat) (hb : n ≤ 2000000) {k : Nat} (hk : n < k) : laws_heldInt64S.f k (cnt 1 n) 1 = some (1 + (n : Int)) := held_go n hb n 0 k (by omega) hk

theorem specIn (a lo hi : Int) : spec_l01In.f a lo hi = some (decide (lo ≤ a ∧ a ≤ hi)) := by
  unfold spec_l01In.f
  by_cases h : a ≥ lo
  · rw [if_pos h]
    by_cases h2 : a ≤ hi
    · rw [decide_eq_true h2, decide_eq_true (by omega)]
    · rw [decide_eq_false h2, decide_eq_false (by omega)]
  · rw [if_neg h, decide_eq_false (by omega)]
theorem implIn (a lo hi : Int) : impl_in.f a lo hi = some (decide (lo ≤ a ∧ a ≤ hi)) := specIn a lo hi

theorem up_f {f : Nat → Option (List Int × Int)} (hm : ∀ k, LeO (f k) (f (k + 1))) {r : List Int × Int} (h : f 3000 = some r) : ∀ d, f (3000 + d) = some r := by
  intro d
  induction d with
  | zero => exact h
  | succ d ih => exact hm (3000 + d) r ih
theorem law_of (m : Int) (L : List Int) (c : Int) (hL : L.length ≤ 5) (hs0 : spec_CountByComponents.f 3000 m = some (L, c)) (hi0 : impl_CountByComponents.f 3000 m = some (L, c)) : ∀ n : Nat, 3000 ≤ n → laws_FnExactCountByComponents.f (n + 3) m = some true := by
  intro n hn
  obtain ⟨d, rfl⟩ : ∃ d, n = 3000 + d := ⟨n - 3000, by omega⟩
  have hs : spec_CountByComponents.f (3000 + d + 3) m = some (L, c) := up_f (f := fun k => spec_CountByComponents.f k m) (spec_CountByComponents.mono m) hs0 (d + 3)
  have hi3 : impl_CountByComponents.f (3000 + d + 3) m = some (L, c) := up_f (f := fun k => impl_CountByComponents.f k m) (impl_CountByComponents.mono m) hi0 (d + 3)
  have hi2 : impl_CountByComponents.f (3000 + d + 2) m = some (L, c) := up_f (f := fun k => impl_CountByComponents.f k m) (impl_CountByComponents.mono m) hi0 (d + 2)
  generalize hN : 3000 + d = N at *
  unfold laws_FnExactCountByComponents.f
  rw [hs, Option.bind_some, hi3, Option.bind_some]
  dsimp only
  rw [eqS L (by omega) (by omega), Option.bind_some, if_pos rfl, bne_self_eq_false]
  simp only [laws_FnExactCountByComponents.j0]
  rw [if_neg (by simp), markS L (by omega) (by omega), Option.bind_some]
  dsimp only
  rw [heldS L.length (by omega) (by omega), Option.bind_some, if_neg (by omega), if_pos rfl, hi2, Option.bind_some]
  dsimp only
  rw [eqS L (by omega) (by omega), Option.bind_some, if_pos rfl, bne_self_eq_false]
  simp only [laws_FnExactCountByComponents.j1]
  rw [if_neg (by simp), heldS L.length (by omega) (by omega), Option.bind_some, if_neg (by omega), if_pos rfl]
theorem FnExactCountByComponents : laws_FnExactCountByComponents.Pure := by
  intro m _
  refine ⟨3003, ?_⟩
  by_cases h : 1 ≤ m ∧ m ≤ 5
  · obtain ⟨h1, h5⟩ := h
    have hm : m = 1 ∨ m = 2 ∨ m = 3 ∨ m = 4 ∨ m = 5 := by omega
    rcases hm with rfl | rfl | rfl | rfl | rfl
    · exact law_of _ _ _ (by decide) spec_CountByComponents_1 impl_CountByComponents_1 3000 (Nat.le_refl _)
    · exact law_of _ _ _ (by decide) spec_CountByComponents_2 impl_CountByComponents_2 3000 (Nat.le_refl _)
    · exact law_of _ _ _ (by decide) spec_CountByComponents_3 impl_CountByComponents_3 3000 (Nat.le_refl _)
    · exact law_of _ _ _ (by decide) spec_CountByComponents_4 impl_CountByComponents_4 3000 (Nat.le_refl _)
    · exact law_of _ _ _ (by decide) spec_CountByComponents_5 impl_CountByComponents_5 3000 (Nat.le_refl _)
  · refine law_of m [] 2 (by decide) ?_ ?_ 3000 (Nat.le_refl _)
    · unfold spec_CountByComponents.f
      rw [specIn, decide_eq_false h, Option.bind_some, if_neg (by simp)]
    · unfold impl_CountByComponents.f
      rw [implIn, decide_eq_false h, Option.bind_some, if_neg (by simp)]

end Go.Proofs.Ytdfmjggcklficaa.Pure
