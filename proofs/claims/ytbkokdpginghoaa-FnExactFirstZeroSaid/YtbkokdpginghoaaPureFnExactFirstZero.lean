/- FirstZero of the program returns what the reference returns, for all whole numbers: the pure statement. No condition. -/
import Derived.Test.YtbkokdpginghoaaPA
import Derived.Test.YtbkokdpginghoaaQx2
namespace Go.Proofs.Ytbkokdpginghoaa.Pure
open Go.RowKit Go.Proofs.Ytbkokdpginghoaa.Q Go.Proofs.YtbkokdpginghoaaW.PrintWords Go.Proofs.YtbkokdpginghoaaW.PrintLast Go.Proofs.Ytbkokdpginghoaa.PA


theorem FnExactFirstZero : laws_FnExactFirstZero.Pure := by
  intro p c _ _
  refine ⟨400, ?_⟩
  unfold laws_FnExactFirstZero.f spec_FirstZero.f impl_FirstZero.f
  rw [specCode (by omega), implField (by omega)]
  cases h : okPC p c with
  | false => rfl
  | true =>
    obtain ⟨hp, hc⟩ := okPC_spec h
    have hr := isP_range hp
    obtain ⟨z, hz⟩ := zero_ex hp hc
    simp only [Option.bind_some, if_true]
    rw [specZeroF (by omega) hz (by omega), implZeroF hr hc hz (by omega)]
    simp

end Go.Proofs.Ytbkokdpginghoaa.Pure
