/- The two tests of a braid word say the same: plain lemmas. No condition. -/
import Derived.Test.YtfboiigejaiodaaPA
namespace Go.Proofs.Ytfboiigejaiodaa.PB
open Go.RowKit Go.Proofs.Ytfboiigejaiodaa.Q Go.Proofs.Ytfboiigejaiodaa.Hand Go.Proofs.YtfboiigejaiodaaW.PrintWords Go.Proofs.YtfboiigejaiodaaW.PrintLast Go.Proofs.Ytfboiigejaiodaa.PA

theorem word_go (n : Int) (l : List Int) (hb : l.length ≤ 1048576) : ∀ (d i k : Nat), i + d = l.length → d < k → spec_l06Word.l0 k n l (i : Int) = some (!(l.drop i).any (badB n)) := by
  intro d
  induction d with
  | zero =>
    intro i k hi hk
    obtain ⟨k, rfl⟩ : ∃ m, k = m + 1 := ⟨k - 1, by omega⟩
    simp only [spec_l06Word.l0]
    rw [if_neg (by omega), List.drop_of_length_le (by omega)]
    rfl
  | succ d ih =>
    intro i k hi hk
    obtain ⟨k, rfl⟩ : ∃ m, k = m + 1 := ⟨k - 1, by omega⟩
    simp only [spec_l06Word.l0]
    rw [if_pos (by omega), if_pos (by omega), wrap_nat (by omega), drop_any (by omega)]
    generalize rd l (i : Int) = x
    by_cases h0 : x = 0
    · rw [if_pos h0]
      have : badB n x = true := by unfold badB; rw [h0]; rfl
      rw [this]
      rfl
    · rw [if_neg h0, specIn, Option.bind_some]
      by_cases h1 : wrap64 (1 - n) ≤ x ∧ x ≤ wrap64 (n - 1)
      · rw [decide_eq_true h1, if_pos rfl, ih (i + 1) k (by omega) (by omega)]
        have : badB n x = false := by unfold badB; rw [beq_eq_false_iff_ne.2 h0, decide_eq_true h1.1, decide_eq_true h1.2]; rfl
        rw [this]
        rfl
      · rw [decide_eq_false h1, if_neg (by simp)]
        have : badB n x = true := by
          unfold badB
          rw [beq_eq_false_iff_ne.2 h0]
          by_cases h2 : wrap64 (1 - n) ≤ x
          · rw [decide_eq_false (fun h3 : x ≤ wrap64 (n - 1) => h1 ⟨h2, h3⟩)]; simp
          · rw [decide_eq_false h2]; rfl
        rw [this]
        rfl
/-- Both tests of a braid word. -/
def okB (n : Int) (l : List Int) : Bool := decide (2 ≤ n ∧ n ≤ 6) && (decide (l.length ≤ 24) && !(l.any (badB n)))
theorem specWord (n : Int) (l : List Int) (hb : l.length ≤ 1048576) {k : Nat} (hk : l.length + 1 < k) : spec_l06Word.f k n l = some (okB n l) := by
  obtain ⟨k, rfl⟩ : ∃ m, k = m + 1 := ⟨k - 1, by omega⟩
  unfold spec_l06Word.f okB
  rw [specIn, Option.bind_some]
  by_cases h1 : 2 ≤ n ∧ n ≤ 6
  · rw [decide_eq_true h1, if_pos rfl]
    simp only [spec_l06Word.j0]
    by_cases h2 : l.length ≤ 24
    · rw [decide_eq_false (by omega : ¬ (l.length : Int) > 24), if_neg (by simp), decide_eq_true h2]
      have := word_go n l hb l.length 0 k (by omega) (by omega)
      rw [List.drop_zero] at this
      simpa using this
    · rw [decide_eq_true (by omega : (l.length : Int) > 24), if_pos rfl, decide_eq_false h2]
      rfl
  · rw [decide_eq_false h1, if_neg (by simp)]
    simp only [spec_l06Word.j0]
    rfl
theorem implWord (n : Int) (l : List Int) (hb : l.length ≤ 1048576) : impl_braidOk.f n l = some (okB n l) := by
  unfold impl_braidOk.f okB
  rw [if_pos (by omega)]
theorem okB_spec {n : Int} {l : List Int} (h : okB n l = true) : 2 ≤ n ∧ n ≤ 6 ∧ l.length ≤ 24 ∧ ∀ j : Nat, j < l.length → rd l (j : Int) ≠ 0 ∧ 1 - n ≤ rd l (j : Int) ∧ rd l (j : Int) ≤ n - 1 := by
  unfold okB at h
  simp only [Bool.and_eq_true, decide_eq_true_iff, Bool.not_eq_true'] at h
  obtain ⟨⟨h1, h2⟩, h3, h4⟩ := h
  refine ⟨h1, h2, h3, fun j hj => ?_⟩
  rw [List.any_eq_false] at h4
  have hm : rd l (j : Int) ∈ l := by
    unfold rd
    rw [Int.toNat_natCast, List.getD_eq_getElem?_getD, List.getElem?_eq_getElem hj]
    exact List.getElem_mem hj
  have h5 := h4 _ hm
  generalize rd l (j : Int) = x at h5
  unfold badB at h5
  rw [wrap_id (x := 1 - n) (by omega) (by omega), wrap_id (x := n - 1) (by omega) (by omega)] at h5
  simp only [Bool.or_eq_true, beq_iff_eq, Bool.not_eq_true', Bool.and_eq_false_iff, decide_eq_false_iff_not, not_or, Decidable.not_not] at h5
  omega

theorem okW_of {n : Int} {l : List Int} (h : okB n l = true) : okW n l = true := by
  obtain ⟨h1, h2, h3, h4⟩ := okB_spec h
  unfold okW
  simp only [Bool.and_eq_true, decide_eq_true_eq, List.all_eq_true]
  refine ⟨h1, h2, h3, fun x hx => ?_⟩
  obtain ⟨j, hj, rfl⟩ := List.getElem_of_mem hx
  have e : rd l (j : Int) = l[j] := by
    unfold rd
    rw [Int.toNat_natCast, List.getD_eq_getElem?_getD]
    simp [hj]
  rw [← e]
  exact h4 j hj

end Go.Proofs.Ytfboiigejaiodaa.PB
