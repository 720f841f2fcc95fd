/- PairHalves of the program returns what the reference returns, for all texts: the pure statement. No condition. -/
import Derived.Test.YtdkpgnbamecifaaPU
import Derived.Test.YtdkpgnbamecifaaQx2
namespace Go.Proofs.Ytdkpgnbamecifaa.Pure
open Go.RowKit Go.Proofs.Ytdkpgnbamecifaa.Q Go.Proofs.Ytdkpgnbamecifaa.Hand Go.Proofs.YtdkpgnbamecifaaW.PrintWords Go.Proofs.YtdkpgnbamecifaaW.PrintLast Go.Proofs.Ytdkpgnbamecifaa.PA Go.Proofs.Ytdkpgnbamecifaa.PT Go.Proofs.Ytdkpgnbamecifaa.PU


theorem FnExactPairHalves : laws_FnExactPairHalves.Pure := by
  intro a0 a1 _ _
  refine ⟨2097160, ?_⟩
  unfold laws_FnExactPairHalves.f
  by_cases c0 : (a0.size : Int) > 1048576
  · rw [if_pos c0]
  · rw [if_neg c0]
    by_cases c1 : (a1.size : Int) > 1048576
    · rw [if_pos c1]
    · rw [if_neg c1]
      obtain ⟨v0, i0, s0⟩ := half a0 (by omega)
      obtain ⟨v1, i1, s1⟩ := half a1 (by omega)
      obtain ⟨r, hs, hi⟩ : ∃ r, spec_PairHalves.f 2097160 a0 a1 = some r ∧ impl_PairHalves.f 2097160 a0 a1 = some r := by
        unfold spec_PairHalves.f impl_PairHalves.f
        rw [s0, i0, Option.bind_some, Option.bind_some, show (2097160 : Nat) = 2097159 + 1 from rfl]
        cases v0 with
        | false => exact ⟨_, rfl, rfl⟩
        | true =>
          rw [if_pos rfl, if_pos rfl, s1, i1, Option.bind_some, Option.bind_some]
          cases v1 with
          | false => exact ⟨_, rfl, rfl⟩
          | true =>
            simp only [spec_PairHalves.j0, impl_PairHalves.j0]
            simp only [Bool.not_true, Bool.false_eq_true, if_false]
            by_cases he : (a0.size : Int) = (a1.size : Int)
            · rw [if_pos he, if_pos he]
              obtain ⟨r, hs, hi⟩ := pairSame a0 a1 2097160 s0 s1 (by omega)
              rw [hs, hi]
              exact ⟨_, rfl, rfl⟩
            · rw [if_neg he, if_neg he]
              exact ⟨_, rfl, rfl⟩
      rw [hs, hi, Option.bind_some, Option.bind_some, bne_self_eq_false, if_neg (by simp), if_pos rfl, if_pos rfl]

end Go.Proofs.Ytdkpgnbamecifaa.Pure
