/- ProjectionExists of the program returns what the reference returns, for all whole numbers: the pure statement. No condition. -/
import Derived.Test.YtbkokdpginghoaaPA
import Derived.Test.YtbkokdpginghoaaQx3
namespace Go.Proofs.Ytbkokdpginghoaa.Pure
open Go.RowKit Go.Proofs.Ytbkokdpginghoaa.Q Go.Proofs.YtbkokdpginghoaaW.PrintWords Go.Proofs.YtbkokdpginghoaaW.PrintLast Go.Proofs.Ytbkokdpginghoaa.PA


theorem FnExactProjectionExists : laws_FnExactProjectionExists.Pure := by
  intro p c n _ _ _
  refine ⟨400, ?_⟩
  unfold laws_FnExactProjectionExists.f spec_ProjectionExists.f impl_ProjectionExists.f
  rw [specCode (by omega), implField (by omega)]
  cases h : okPC p c with
  | false => rfl
  | true =>
    obtain ⟨hp, hc⟩ := okPC_spec h
    have hr := isP_range hp
    obtain ⟨z, hz⟩ := zero_ex hp hc
    simp only [Option.bind_some, if_true]
    rw [specIn, implIn]
    by_cases hn : 1 ≤ n ∧ n ≤ 8
    · rw [decide_eq_true hn]
      simp only [Option.bind_some, if_true]
      rw [specZeroF (by omega) hz (by omega), implZeroF hr hc hz (by omega)]
      simp
    · rw [decide_eq_false hn]
      rfl

end Go.Proofs.Ytbkokdpginghoaa.Pure
