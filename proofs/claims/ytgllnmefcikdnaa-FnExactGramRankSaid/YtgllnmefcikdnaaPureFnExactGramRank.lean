/- GramRank of the program returns what the reference returns, for all whole numbers: the pure statement. No condition. -/
import Derived.Test.YtgllnmefcikdnaaPF
import Derived.Test.YtgllnmefcikdnaaQx1
namespace Go.Proofs.Ytgllnmefcikdnaa.Pure
open Go.RowKit Go.Proofs.Ytgllnmefcikdnaa.Q Go.Proofs.Ytgllnmefcikdnaa.Hand Go.Proofs.YtgllnmefcikdnaaW.PrintWords Go.Proofs.YtgllnmefcikdnaaW.PrintLast Go.Proofs.Ytgllnmefcikdnaa.PA Go.Proofs.Ytgllnmefcikdnaa.PG Go.Proofs.Ytgllnmefcikdnaa.PE Go.Proofs.Ytgllnmefcikdnaa.PF
set_option linter.unusedVariables false
set_option linter.unusedSimpArgs false


theorem FnExactGramRank : laws_FnExactGramRank.Pure := by
  intro p c n k _ _ _ _
  have key : ∃ a b, spec_GramRank.f p c n k = some (a, b) ∧ impl_GramRank.f p c n k = some (a, b) := by
    unfold spec_GramRank.f impl_GramRank.f
    rcases gramF p c n k with ⟨_, hs, hi⟩ | ⟨hp, hs, T, hg, hi, hR, hD, h0, h9, hr⟩
    · rw [hs, hi]
      exact ⟨0, 2, rfl, rfl⟩
    · obtain ⟨d, r, h1, h2, h3⟩ := detE hp hR hD h0 (by omega) hr
      rw [hs, hi, Option.bind_some, Option.bind_some, if_pos rfl, hg, Option.bind_some, h2]
      simp only [Option.bind_some, if_true, h1, h3]
      exact ⟨_, _, rfl, rfl⟩
  obtain ⟨a, b, h1, h2⟩ := key
  unfold laws_FnExactGramRank.f
  rw [h1, h2]
  simp

end Go.Proofs.Ytgllnmefcikdnaa.Pure
