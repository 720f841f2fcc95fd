/- GramTable of the program returns what the reference returns, for all whole numbers: the pure statement. No condition. -/
import Derived.Test.YtgllnmefcikdnaaPG
import Derived.Test.YtgllnmefcikdnaaPS
import Derived.Test.YtgllnmefcikdnaaWalkGramTable
namespace Go.Proofs.Ytgllnmefcikdnaa.Pure
open Go.RowKit Go.Proofs.Ytgllnmefcikdnaa.Q Go.Proofs.Ytgllnmefcikdnaa.Hand Go.Proofs.YtgllnmefcikdnaaW.PrintWords Go.Proofs.YtgllnmefcikdnaaW.PrintLast Go.Proofs.Ytgllnmefcikdnaa.PA Go.Proofs.Ytgllnmefcikdnaa.PG Go.Proofs.Ytgllnmefcikdnaa.PS


theorem FnExactGramTable : laws_FnExactGramTable.Pure := by
  intro p c n k _ _ _ _
  rcases gramE p c n k with hT | ⟨hT, L, H, hs, hi⟩
  · obtain ⟨he, m, L', hm, hh, h0⟩ := SSlaw [] (by simp) (by simp) (k := 3000) (by omega)
    refine ⟨3000, [], 2, L', m, ?_, ?_, he, hm, hh, h0⟩
    · unfold spec_GramTable.f
      rw [(tableE3 p c n k).1, hT]; rfl
    · unfold impl_GramTable.f
      rw [(tableE3 p c n k).2, hT]; rfl
  · have hd := gram_dims p c L
    have hlen := H.len
    obtain ⟨he, m, L', hm, hh, h0⟩ := SSlaw (gram p c L) (by omega) (by intro r hr; rw [hd.2 r hr]; omega) (k := 3000) (by omega)
    refine ⟨3000, gram p c L, 0, L', m, ?_, hi, he, hm, hh, h0⟩
    unfold spec_GramTable.f
    rw [(tableE3 p c n k).1, hT, Option.bind_some, if_pos rfl, hs]; rfl

end Go.Proofs.Ytgllnmefcikdnaa.Pure
