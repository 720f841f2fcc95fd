/- FusionOf of the program returns what the reference returns, for all whole numbers, and shares no memory: the pure statement. No condition. -/
import Derived.Test.YtbkokdpginghoaaPB
import Derived.Test.YtbkokdpginghoaaPC
import Derived.Test.YtbkokdpginghoaaQx5
import Derived.Test.YtbkokdpginghoaaQx4
import Derived.Test.YtbkokdpginghoaaQx4
namespace Go.Proofs.Ytbkokdpginghoaa.Pure
open Go.RowKit Go.Proofs.Ytbkokdpginghoaa.Q Go.Proofs.YtbkokdpginghoaaW.PrintWords Go.Proofs.YtbkokdpginghoaaW.PrintLast Go.Proofs.Ytbkokdpginghoaa.PA Go.Proofs.Ytbkokdpginghoaa.PB Go.Proofs.Ytbkokdpginghoaa.PC


/-- The labels from d on that are admissible with a and b, behind a list. -/
theorem fuse (a b : Int) {z : Nat} (hz : z ≤ 99) : ∀ (d i : Nat) (xs : List Int), i + d = z → xs.length ≤ i →
    ∃ ys, ys.length ≤ z ∧ ∀ k, d < k → spec_FusionOf.l0 k a b (z : Int) xs (i : Int) = some (ys, 0) ∧ impl_FusionOf.l0 k a b (z : Int) xs (z : Int) (i : Int) = some (ys, 0) := by
  intro d
  induction d with
  | zero =>
    intro i xs hi hx
    refine ⟨xs, by omega, fun k hk => ?_⟩
    obtain ⟨k, rfl⟩ : ∃ m, k = m + 1 := ⟨k - 1, by omega⟩
    simp only [spec_FusionOf.l0, impl_FusionOf.l0]
    exact ⟨if_neg (by omega), if_neg (by omega)⟩
  | succ d ih =>
    intro i xs hi hx
    obtain ⟨r, hr⟩ := adm_some z a b i
    cases r with
    | true =>
      obtain ⟨ys, hy, h⟩ := ih (i + 1) (xs ++ [(i : Int)]) (by omega) (by simp; omega)
      refine ⟨ys, hy, fun k hk => ?_⟩
      obtain ⟨k, rfl⟩ : ∃ m, k = m + 1 := ⟨k - 1, by omega⟩
      have e : wrap64 ((i : Int) + 1) = ((i + 1 : Nat) : Int) := by rw [wrap_id (by omega) (by omega)]; omega
      simp only [spec_FusionOf.l0, impl_FusionOf.l0, adm_eq, hr, Option.bind_some, if_true, e]
      refine ⟨?_, ?_⟩ <;> rw [if_pos (by omega), if_pos (by omega)]
      · exact (h k (by omega)).1
      · exact (h k (by omega)).2
    | false =>
      obtain ⟨ys, hy, h⟩ := ih (i + 1) xs (by omega) (by omega)
      refine ⟨ys, hy, fun k hk => ?_⟩
      obtain ⟨k, rfl⟩ : ∃ m, k = m + 1 := ⟨k - 1, by omega⟩
      have e : wrap64 ((i : Int) + 1) = ((i + 1 : Nat) : Int) := by rw [wrap_id (by omega) (by omega)]; omega
      simp only [spec_FusionOf.l0, impl_FusionOf.l0, adm_eq, hr, Option.bind_some, e]
      refine ⟨?_, ?_⟩ <;> rw [if_pos (by omega), if_neg (by simp)]
      · exact (h k (by omega)).1
      · exact (h k (by omega)).2
/-- Both give one list and one code. -/
theorem both (p c a b : Int) : ∃ ys e, ys.length ≤ 99 ∧ ∀ k, 400 ≤ k → spec_FusionOf.f k p c a b = some (ys, e) ∧ impl_FusionOf.f k p c a b = some (ys, e) := by
  by_cases h : okPC p c = true
  · obtain ⟨hp, hc⟩ := okPC_spec h
    have hr := isP_range hp
    obtain ⟨z, hz⟩ := zero_ex hp hc
    by_cases hl : labOk z [a, b] = true
    · obtain ⟨ys, hy, hf⟩ := fuse a b hz.2.1 z 0 [] (by omega) (by simp)
      refine ⟨ys, 0, by have := hz.2.1; omega, fun k hk => ?_⟩
      obtain ⟨hi1, hi2⟩ := implLabels (p := p) (c := c) (l := [a, b]) (by simp) (k := k) (by omega)
      have hs : spec_l05Labels.f k p c [a, b] = some ((z : Int), 0) := by
        unfold spec_l05Labels.f
        rw [specCode (by omega), Option.bind_some, if_pos h, if_pos rfl, specZeroF (by omega) hz (by omega), Option.bind_some]
        have := specLab hz.2.1 [a, b] (by simp) 2 0 k rfl (by omega)
        rw [List.drop_zero] at this
        unfold labOk at hl
        rw [hl, if_pos rfl] at this
        exact this
      obtain ⟨h1, h2⟩ := hf k (by have := hz.2.1; omega)
      unfold spec_FusionOf.f impl_FusionOf.f
      rw [hs, hi2 z h hz, hl]
      simp only [Option.bind_some, if_true]
      rw [implZeroF hr hc hz (by omega), Option.bind_some]
      exact ⟨h1, h2⟩
    · refine ⟨[], 2, by simp, fun k hk => ?_⟩
      obtain ⟨hi1, hi2⟩ := implLabels (p := p) (c := c) (l := [a, b]) (by simp) (k := k) (by omega)
      have hs : spec_l05Labels.f k p c [a, b] = some (0, 2) := by
        unfold spec_l05Labels.f
        rw [specCode (by omega), Option.bind_some, if_pos h, if_pos rfl, specZeroF (by omega) hz (by omega), Option.bind_some]
        have := specLab hz.2.1 [a, b] (by simp) 2 0 k rfl (by omega)
        rw [List.drop_zero] at this
        unfold labOk at hl
        rw [if_neg hl] at this
        exact this
      unfold spec_FusionOf.f impl_FusionOf.f
      rw [hs, hi2 z h hz]
      simp only [Option.bind_some]
      rw [if_neg (by omega), if_neg hl]
      exact ⟨rfl, rfl⟩
  · refine ⟨[], 2, by simp, fun k hk => ?_⟩
    obtain ⟨hi1, hi2⟩ := implLabels (p := p) (c := c) (l := [a, b]) (by simp) (k := k) (by omega)
    have h' : okPC p c = false := by simpa using h
    have hs : spec_l05Labels.f k p c [a, b] = some (0, 2) := by
      unfold spec_l05Labels.f
      rw [specCode (by omega), Option.bind_some, h']
      rfl
    unfold spec_FusionOf.f impl_FusionOf.f
    rw [hs, hi1 h']
    exact ⟨rfl, rfl⟩
theorem FnExactFusionOf : laws_FnExactFusionOf.Pure := by
  intro p c a b _ _ _ _
  obtain ⟨ys, e, hy, h⟩ := both p c a b
  refine ⟨402, ?_⟩
  unfold laws_FnExactFusionOf.f
  rw [(h 402 (by omega)).1, (h 402 (by omega)).2, Option.bind_some, Option.bind_some, eqS ys (by omega) (by omega), Option.bind_some, if_pos rfl, bne_self_eq_false]
  rw [show (402 : Nat) = 401 + 1 from rfl]
  simp only [laws_FnExactFusionOf.j0]
  rw [if_neg (by simp), markS ys (by omega) (by omega), Option.bind_some, heldS ys.length (by omega) (by omega), Option.bind_some, if_neg (by omega), if_pos rfl, (h 401 (by omega)).2, Option.bind_some, eqS ys (by omega) (by omega), Option.bind_some, if_pos rfl, bne_self_eq_false]
  rw [show (401 : Nat) = 400 + 1 from rfl]
  simp only [laws_FnExactFusionOf.j1]
  rw [if_neg (by simp), heldS ys.length (by omega) (by omega), Option.bind_some, if_neg (by omega), if_pos rfl]

end Go.Proofs.Ytbkokdpginghoaa.Pure
