/- IsHalf of the program returns what the reference returns, for every text: the pure statement. No condition. -/
import Derived.Test.YtdkpgnbamecifaaPA
import Derived.Test.YtdkpgnbamecifaaQx1
namespace Go.Proofs.Ytdkpgnbamecifaa.Pure
open Go.RowKit Go.Proofs.Ytdkpgnbamecifaa.Q Go.Proofs.Ytdkpgnbamecifaa.Hand Go.Proofs.YtdkpgnbamecifaaW.PrintWords Go.Proofs.YtdkpgnbamecifaaW.PrintLast Go.Proofs.Ytdkpgnbamecifaa.PA


theorem implIn3 (a lo hi : Int) : impl_in.f a lo hi = some (decide (lo ≤ a ∧ a ≤ hi)) := by
  unfold impl_in.f
  by_cases h : a ≥ lo
  · rw [if_pos h]
    by_cases h2 : a ≤ hi
    · rw [decide_eq_true h2, decide_eq_true (by omega)]
    · rw [decide_eq_false h2, decide_eq_false (by omega)]
  · rw [if_neg h, decide_eq_false (by omega)]
theorem FnExactIsHalf : laws_FnExactIsHalf.Pure := by
  intro s _
  refine ⟨2097160, ?_⟩
  unfold laws_FnExactIsHalf.f
  by_cases hb : s.size ≤ 1048576
  · rw [if_neg (by omega)]
    obtain ⟨r, h1, h2⟩ := arcs8_go s hb s.size 0 2097160 (List.replicate s.size 0) [] (by omega) (by omega) (by simp) (by simp) (In.nil 0)
    rw [show ((0 : Nat) : Int) = 0 from rfl] at h1 h2
    have e2 : impl_IsHalf.f 2097160 s = some (r.2 && decide ((1 : Int) ≤ (s.size : Int) ∧ (s.size : Int) ≤ 8)) := by
      unfold impl_IsHalf.f impl_arcs.f
      rw [if_pos (by omega), if_pos (by omega), Int.toNat_natCast, h1, Option.bind_some, implIn3]
      cases r.2 with
      | false => rfl
      | true => rfl
    have e1 : spec_IsHalf.f 2097160 s = some (r.2 && decide ((1 : Int) ≤ (s.size : Int) ∧ (s.size : Int) ≤ 8)) := by
      unfold spec_IsHalf.f spec_l04Is.f spec_l04Arcs.f
      by_cases c1 : (s.size : Int) < 1
      · rw [if_pos c1, decide_eq_false (by omega), Bool.and_false]; rfl
      · rw [if_neg c1]
        by_cases c2 : (s.size : Int) > 8
        · rw [if_pos c2, decide_eq_false (by omega), Bool.and_false]; rfl
        · rw [if_neg c2, decide_eq_true (by omega), Bool.and_true]
          obtain ⟨o', h3⟩ := h2 (by omega) 2097160 (List.replicate 8 0) (by omega)
          rw [h3]; rfl
    rw [e1, e2, Option.bind_some, Option.bind_some]
    simp
  · rw [if_pos (by omega)]

end Go.Proofs.Ytdkpgnbamecifaa.Pure
