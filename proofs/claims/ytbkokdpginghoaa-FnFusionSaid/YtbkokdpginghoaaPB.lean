/- Labels and admissible labels: the program and the reference say the same; plain lemmas. No condition. -/
import Derived.Test.YtbkokdpginghoaaPA
import Derived.Test.YtbkokdpginghoaaQx2
import Derived.Test.YtbkokdpginghoaaQx3
namespace Go.Proofs.Ytbkokdpginghoaa.PB
open Go.RowKit Go.Proofs.Ytbkokdpginghoaa.Q Go.Proofs.YtbkokdpginghoaaW.PrintWords Go.Proofs.YtbkokdpginghoaaW.PrintLast Go.Proofs.Ytbkokdpginghoaa.PA

def labOk (z : Nat) (l : List Int) : Bool := l.all fun a => decide (0 ≤ a ∧ a ≤ (z : Int) - 1)
theorem drop_all {l : List Int} {i : Nat} (hi : i < l.length) (P : Int → Bool) : (l.drop i).all P = (P (rd l (i : Int)) && (l.drop (i + 1)).all P) := by
  rw [List.drop_eq_getElem_cons hi, List.all_cons]
  unfold rd
  rw [Int.toNat_natCast, List.getD_eq_getElem?_getD, List.getElem?_eq_getElem hi]
  rfl
theorem specLab {z : Nat} (hz : z ≤ 99) (l : List Int) (hl : l.length ≤ 100) : ∀ (d i k : Nat), i + d = l.length → d < k → spec_l05Labels.l0 k l (z : Int) (i : Int) = some (if (l.drop i).all (fun a => decide (0 ≤ a ∧ a ≤ (z : Int) - 1)) = true then ((z : Int), 0) else (0, 2)) := by
  intro d
  induction d with
  | zero =>
    intro i k hi hk
    obtain ⟨k, rfl⟩ : ∃ m, k = m + 1 := ⟨k - 1, by omega⟩
    simp only [spec_l05Labels.l0]
    rw [if_neg (by omega), List.drop_of_length_le (by omega)]
    simp
  | succ d ih =>
    intro i k hi hk
    obtain ⟨k, rfl⟩ : ∃ m, k = m + 1 := ⟨k - 1, by omega⟩
    simp only [spec_l05Labels.l0]
    rw [if_pos (by omega), if_pos (by omega), wrap_id (x := (z : Int) - 1) (by omega) (by omega), wrap_id (x := (i : Int) + 1) (by omega) (by omega), specIn, Option.bind_some, drop_all (by omega)]
    by_cases h : 0 ≤ rd l (i : Int) ∧ rd l (i : Int) ≤ (z : Int) - 1
    · rw [decide_eq_true h, if_pos rfl, Bool.true_and]
      exact ih (i + 1) k (by omega) (by omega)
    · rw [decide_eq_false h, if_neg (by simp), Bool.false_and, if_neg (by simp)]
theorem implLab {z : Nat} (hz : z ≤ 99) (l : List Int) (hl : l.length ≤ 100) : ∀ (d i k : Nat), i + d = l.length → d < k → impl_labelsOk.l0 k (z : Int) l (l.length : Int) (i : Int) = some ((l.drop i).all (fun a => decide (0 ≤ a ∧ a ≤ (z : Int) - 1))) := by
  intro d
  induction d with
  | zero =>
    intro i k hi hk
    obtain ⟨k, rfl⟩ : ∃ m, k = m + 1 := ⟨k - 1, by omega⟩
    simp only [impl_labelsOk.l0]
    rw [if_neg (by omega), List.drop_of_length_le (by omega)]
    simp
  | succ d ih =>
    intro i k hi hk
    obtain ⟨k, rfl⟩ : ∃ m, k = m + 1 := ⟨k - 1, by omega⟩
    simp only [impl_labelsOk.l0]
    rw [if_pos (by omega), if_pos (by omega), if_pos (by omega), wrap_id (x := (z : Int) - 1) (by omega) (by omega), wrap_id (x := (i : Int) + 1) (by omega) (by omega), implIn, Option.bind_some, drop_all (by omega)]
    by_cases h : 0 ≤ rd l (i : Int) ∧ rd l (i : Int) ≤ (z : Int) - 1
    · rw [decide_eq_true h, if_pos rfl, Bool.true_and]
      exact ih (i + 1) k (by omega) (by omega)
    · rw [decide_eq_false h, if_neg (by simp), Bool.false_and]
theorem specLabels {p c : Int} {l : List Int} (hl : l.length ≤ 100) {k : Nat} (hk : 300 ≤ k) :
    (okPC p c = false ∧ spec_l05Labels.f k p c l = some (0, 2)) ∨ ∃ z, okPC p c = true ∧ IsZ p c z ∧ spec_l05Labels.f k p c l = some (if labOk z l = true then ((z : Int), 0) else (0, 2)) := by
  unfold spec_l05Labels.f
  rw [specCode hk, Option.bind_some]
  cases h : okPC p c with
  | false => exact .inl ⟨rfl, by simp⟩
  | true =>
    obtain ⟨hp, hc⟩ := okPC_spec h
    have hr := isP_range hp
    obtain ⟨z, hz⟩ := zero_ex hp hc
    refine .inr ⟨z, rfl, hz, ?_⟩
    rw [if_pos rfl, if_pos rfl, specZeroF (by omega) hz hk, Option.bind_some]
    exact specLab hz.2.1 l hl l.length 0 k (by omega) (by omega)
theorem implLabels {p c : Int} {l : List Int} (hl : l.length ≤ 100) {k : Nat} (hk : 300 ≤ k) :
    (okPC p c = false → impl_labelsOk.f k p c l = some false) ∧ ∀ z, okPC p c = true → IsZ p c z → impl_labelsOk.f k p c l = some (labOk z l) := by
  unfold impl_labelsOk.f
  rw [implField hk, Option.bind_some]
  refine ⟨fun h => by rw [h]; simp, fun z h hz => ?_⟩
  obtain ⟨hp, hc⟩ := okPC_spec h
  have hr := isP_range hp
  rw [h, if_pos rfl, implZeroF hr hc hz hk, Option.bind_some]
  exact implLab hz.2.1 l hl l.length 0 k (by omega) (by omega)
theorem adm_eq (a b c d : Int) : spec_l05Admissible.f a b c d = impl_admissible.f a b c d := rfl
theorem adm_some (a b c d : Int) : ∃ r, impl_admissible.f a b c d = some r := by
  unfold impl_admissible.f
  repeat' split
  all_goals exact ⟨_, rfl⟩

end Go.Proofs.Ytbkokdpginghoaa.PB
