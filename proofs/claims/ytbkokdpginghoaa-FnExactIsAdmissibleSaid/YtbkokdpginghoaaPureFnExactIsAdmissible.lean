/- IsAdmissible of the program returns what the reference returns, for all whole numbers: the pure statement. No condition. -/
import Derived.Test.YtbkokdpginghoaaPB
import Derived.Test.YtbkokdpginghoaaQx4
namespace Go.Proofs.Ytbkokdpginghoaa.Pure
open Go.RowKit Go.Proofs.Ytbkokdpginghoaa.Q Go.Proofs.YtbkokdpginghoaaW.PrintWords Go.Proofs.YtbkokdpginghoaaW.PrintLast Go.Proofs.Ytbkokdpginghoaa.PA Go.Proofs.Ytbkokdpginghoaa.PB


theorem FnExactIsAdmissible : laws_FnExactIsAdmissible.Pure := by
  intro p c a b d _ _ _ _ _
  refine ⟨400, ?_⟩
  unfold laws_FnExactIsAdmissible.f spec_IsAdmissible.f impl_IsAdmissible.f
  obtain ⟨hi1, hi2⟩ := implLabels (p := p) (c := c) (l := [a, b, d]) (by simp) (k := 400) (by omega)
  rcases specLabels (p := p) (c := c) (l := [a, b, d]) (by simp) (k := 400) (by omega) with ⟨h, hs⟩ | ⟨z, h, hz, hs⟩
  · rw [hs, hi1 h]
    rfl
  · rw [hs, hi2 z h hz]
    obtain ⟨hp, hc⟩ := okPC_spec h
    have hr := isP_range hp
    cases labOk z [a, b, d] with
    | false => rfl
    | true =>
      obtain ⟨r, hr'⟩ := adm_some z a b d
      simp only [Option.bind_some, if_true, adm_eq]
      rw [implZeroF hr hc hz (by omega), Option.bind_some, hr']
      simp

end Go.Proofs.Ytbkokdpginghoaa.Pure
