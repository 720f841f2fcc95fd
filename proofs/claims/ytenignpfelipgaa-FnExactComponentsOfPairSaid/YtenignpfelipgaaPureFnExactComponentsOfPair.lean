/- ComponentsOfPair of the program returns what the reference returns, for all texts: the pure statement. No condition. -/
import Derived.Test.YtenignpfelipgaaPC
import Derived.Test.YtenignpfelipgaaQx2
namespace Go.Proofs.Ytenignpfelipgaa.Pure
open Go.RowKit Go.Proofs.Ytenignpfelipgaa.Q Go.Proofs.Ytenignpfelipgaa.Hand Go.Proofs.YtenignpfelipgaaW.PrintWords Go.Proofs.YtenignpfelipgaaW.PrintLast Go.Proofs.Ytenignpfelipgaa.PA Go.Proofs.Ytenignpfelipgaa.PC


theorem FnExactComponentsOfPair : laws_FnExactComponentsOfPair.Pure := by
  intro a b _ _
  refine ⟨1048580, ?_⟩
  unfold laws_FnExactComponentsOfPair.f
  by_cases ha : a.size ≤ 1048576
  · rw [if_neg (by omega)]
    by_cases hb : b.size ≤ 1048576
    · rw [if_neg (by omega)]
      obtain ⟨c, h1, h2, h3⟩ := codeBoth a b ha hb
      unfold spec_ComponentsOfPair.f impl_ComponentsOfPair.f
      rw [h1 _ (Nat.le_refl _), h2 _ (Nat.le_refl _), Option.bind_some, Option.bind_some]
      by_cases hc : c = 0
      · obtain ⟨o1, p1, o2, p2, t1, t2, y1, y2, g1, g2, g3, g4, _, g6, g7, g8, g9, g10, g11, g12⟩ := h3 hc
        obtain ⟨m, m1, m2⟩ := compBoth a b (Nat.le_refl _) (g1 _ (Nat.le_refl _)) (g2 _ (Nat.le_refl _)) (g3 _ (Nat.le_refl _)) (g4 _ (Nat.le_refl _)) g6 g7 g8 g9 g10 g11 g12
        rw [if_pos hc, if_pos hc, m1, m2]
        simp
      · rw [if_neg hc, if_neg hc]
        simp
    · rw [if_pos (by omega)]
  · rw [if_pos (by omega)]

end Go.Proofs.Ytenignpfelipgaa.Pure
