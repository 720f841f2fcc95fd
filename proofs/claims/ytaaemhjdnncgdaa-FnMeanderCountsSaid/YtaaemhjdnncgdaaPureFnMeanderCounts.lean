/- FnMeanderCounts holds for every code: the pure statement. No condition. -/
import Derived.Test.YtaaemhjdnncgdaaPM
import Derived.Test.YtaaemhjdnncgdaaPC
import Derived.Test.YtaaemhjdnncgdaaQx7
namespace Go.Proofs.Ytaaemhjdnncgdaa.Pure
open Go.RowKit Go.Proofs.Ytaaemhjdnncgdaa.Q Go.Proofs.Ytaaemhjdnncgdaa.Hand Go.Proofs.YtaaemhjdnncgdaaW.PrintWords Go.Proofs.YtaaemhjdnncgdaaW.PrintLast Go.Proofs.Ytaaemhjdnncgdaa.PA Go.Proofs.Ytaaemhjdnncgdaa.PC Go.Proofs.Ytaaemhjdnncgdaa.PD Go.Proofs.Ytaaemhjdnncgdaa.PM
set_option linter.unusedVariables false
set_option linter.unusedSimpArgs false


theorem j6Ev (m : Int) (L : List (List Int)) (h : EvF (fun k => laws_FnMeanderCounts.l0 k m L 0) true) : EvF (fun k => laws_FnMeanderCounts.j6 k m L) true :=
  EvF.succ h (fun k => by simp only [laws_FnMeanderCounts.j6])
section
variable {s : List Int} (hb : Byt s) (hl : (s.length : Int) ≤ 140737488351232)
include hb hl
theorem dSys : ∃ m, EvF (fun k => spec_DrawSystemsOf.f k s) m := by
  obtain ⟨g, hf⟩ := from_out s
  obtain ⟨x, i, h, e, _⟩ := next_out hb hl (Int.le_refl 0) (by omega) g 8
  refine ⟨x, EvF.bind hf ?_⟩
  simp only [e, Option.bind_some]
  exact EvF.now _
theorem dRain : ∃ m, EvF (fun k => spec_DrawRainbowOf.f k s) m := by
  obtain ⟨g, hf⟩ := from_out s
  obtain ⟨x, i, h, e, _⟩ := next_out hb hl (Int.le_refl 0) (by omega) g 8
  refine ⟨x, EvF.bind hf ?_⟩
  simp only [e, Option.bind_some]
  exact EvF.now _
theorem dTab : ∃ m, EvF (fun k => spec_DrawComponentTable.f k s) m := by
  obtain ⟨g, hf⟩ := from_out s
  obtain ⟨x, i, h, e, _⟩ := next_out hb hl (Int.le_refl 0) (by omega) g 6
  refine ⟨x, EvF.bind hf ?_⟩
  simp only [e, Option.bind_some]
  exact EvF.now _
theorem dCnt : ∃ m, EvF (fun k => spec_DrawCountByComponents.f k s) m := by
  obtain ⟨g, hf⟩ := from_out s
  obtain ⟨x, i, h, e, _⟩ := next_out hb hl (Int.le_refl 0) (by omega) g 7
  refine ⟨x, EvF.bind hf ?_⟩
  simp only [e, Option.bind_some]
  exact EvF.now _
theorem dRb : ∃ m, EvF (fun k => spec_DrawCountWithRainbow.f k s) m := by
  obtain ⟨g, hf⟩ := from_out s
  obtain ⟨x, i, h, e, _⟩ := next_out hb hl (Int.le_refl 0) (by omega) g 8
  refine ⟨x, EvF.bind hf ?_⟩
  simp only [e, Option.bind_some]
  exact EvF.now _

theorem dDet : ∃ r, EvF (fun k => spec_DrawComponentDeterminant.f k s) r := by
  obtain ⟨g, hf⟩ := from_out s
  obtain ⟨x, i, h, e, i0, i1, _⟩ := pick_out hb hl (Int.le_refl 0) (by omega) g ([2, 3, 5, 5, 7, 7, 11, 13, 97] : List Int) (by simp)
  obtain ⟨x2, i2, h2, e2, j0, j1, _⟩ := next_out hb hl i0 i1 h 24
  by_cases hx : x2 = 0
  · refine ⟨(4, 1, 2), EvF.bind hf ?_⟩
    simp only [spec_l01DrawPrime.f, e, e2, Option.bind_some, if_pos hx]
    exact EvF.now _
  · obtain ⟨x3, i3, h3, e3, k0, k1, _⟩ := next_out hb hl j0 j1 h2 16
    obtain ⟨x4, i4, h4, e4, l0, l1, _⟩ := next_out hb hl k0 k1 h3 (wrap64 (x + (wrap64 (Int.tdiv x3 15))))
    obtain ⟨x5, i5, h5, e5, _⟩ := pick_out hb hl l0 l1 h4 ([1, 2, 3, 3, 4, 5] : List Int) (by simp)
    refine ⟨(x, x4, x5), EvF.bind hf ?_⟩
    simp only [spec_l01DrawPrime.f, e, e2, e3, e4, e5, Option.bind_some, if_neg hx]
    exact EvF.now _
theorem j3Ev (m : Int) (L : List (List Int)) (h : EvF (fun k => laws_FnMeanderCounts.l0 k m L 0) true) : EvF (fun k => laws_FnMeanderCounts.j3 k s m L false) true := by
  obtain ⟨e, h1⟩ := dCnt hb hl
  obtain ⟨C, c, h2, h3, h4, h5⟩ := cntEv e
  obtain ⟨f, h6⟩ := dRb hb hl
  obtain ⟨r, h7, h8⟩ := rbEv f
  refine EvF.succ ?_ (fun k => by simp only [laws_FnMeanderCounts.j3]; rw [if_neg (by simp)])
  refine EvF.bind h1 ?_
  refine EvF.bind h2 ?_
  refine EvF.bind h3 ?_
  simp only [if_true]
  refine EvF.bind h4 ?_
  simp only [Bool.not_true]
  refine EvF.succ ?_ (fun k => by simp only [laws_FnMeanderCounts.j4]; rw [if_neg (by simp)])
  refine EvF.bind h6 ?_
  refine EvF.bind h7 ?_
  refine EvF.bind h8 ?_
  simp only [if_true, bne_self_eq_false]
  by_cases hc : c = 0
  · obtain ⟨S, t1, t2, t3, t4, t5⟩ := h5 hc
    refine EvF.succ ?_ (fun k => by simp only [laws_FnMeanderCounts.j5]; rw [if_neg (by simp), if_pos hc, t1, Option.bind_some])
    simp only [if_true]
    refine EvF.bind t2 ?_
    simp only [if_true, if_pos t3, if_pos t4, if_pos t5]
    exact j6Ev m L h
  · refine EvF.succ (j6Ev m L h) (fun k => by simp only [laws_FnMeanderCounts.j5]; rw [if_neg (by simp), if_neg hc])
theorem j1Ev : EvF (fun k => laws_FnMeanderCounts.j1 k s false) true := by
  obtain ⟨m, h1⟩ := dTab hb hl
  obtain ⟨L, c, h2, h3, h4, h5⟩ := tabEv m
  obtain ⟨⟨p, q, l⟩, h6⟩ := dDet hb hl
  obtain ⟨a, b, h7, h8⟩ := compDet p q l
  refine EvF.succ ?_ (fun k => by simp only [laws_FnMeanderCounts.j1]; rw [if_neg (by simp)])
  refine EvF.bind h1 ?_
  refine EvF.bind h2 ?_
  refine EvF.bind h3 ?_
  simp only [if_true]
  refine EvF.bind h4 ?_
  simp only [Bool.not_true]
  refine EvF.succ ?_ (fun k => by simp only [laws_FnMeanderCounts.j2]; rw [if_neg (by simp)])
  refine EvF.bind h6 ?_
  simp only [h7, h8, Option.bind_some, if_true, bne_self_eq_false]
  exact j3Ev hb hl m L h5
theorem lawEv : EvF (fun k => laws_FnMeanderCounts.f k s) true := by
  unfold laws_FnMeanderCounts.f laws_big.f
  simp only [Option.bind_some]
  by_cases hbig : (s.length : Int) > 4096
  · simp only [decide_eq_true hbig, if_true]
    exact EvF.now _
  · simp only [decide_eq_false hbig, Bool.false_eq_true, if_false]
    obtain ⟨m, h1⟩ := dSys hb hl
    obtain ⟨L, c, h2, h3, h4⟩ := sysEv m
    obtain ⟨n, h5⟩ := dRain hb hl
    obtain ⟨R, d, h6, h7⟩ := rainEv n
    refine EvF.bind h1 ?_
    simp only [h2, Option.bind_some]
    refine EvF.bind h3 ?_
    simp only [if_true]
    refine EvF.bind h4 ?_
    simp only [Bool.not_true]
    refine EvF.succ ?_ (fun k => by simp only [laws_FnMeanderCounts.j0]; rw [if_neg (by simp)])
    refine EvF.bind h5 ?_
    simp only [h6, Option.bind_some]
    refine EvF.bind h7 ?_
    simp only [if_true, bne_self_eq_false]
    exact j1Ev hb hl
end
theorem FnMeanderCounts : laws_FnMeanderCounts.Pure := by
  intro s h1 h2 h3
  obtain ⟨K, h⟩ := lawEv (s := s) (fun x hx => by
    have := h3 x hx
    have e1 : IntKind.u8.min = 0 := by decide
    have e2 : IntKind.u8.max = 255 := by decide
    simp only [Lit.wf, e1, e2, Bool.and_eq_true, decide_eq_true_eq] at this
    omega) (by omega)
  exact ⟨K, h K (Nat.le_refl _)⟩

end Go.Proofs.Ytaaemhjdnncgdaa.Pure
