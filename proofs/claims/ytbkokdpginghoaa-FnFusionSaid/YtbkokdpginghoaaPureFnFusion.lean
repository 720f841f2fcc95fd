/- FnFusion holds for every code: the pure statement. No condition. -/
import Derived.Test.YtbkokdpginghoaaPX
import Derived.Test.YtbkokdpginghoaaQx12
import Derived.Test.YtbkokdpginghoaaQx5
namespace Go.Proofs.Ytbkokdpginghoaa.Pure
open Go.RowKit Go.Proofs.Ytbkokdpginghoaa.Q Go.Proofs.YtbkokdpginghoaaW.PrintWords Go.Proofs.YtbkokdpginghoaaW.PrintLast Go.Proofs.Ytbkokdpginghoaa.PA Go.Proofs.Ytbkokdpginghoaa.PB Go.Proofs.Ytbkokdpginghoaa.PT Go.Proofs.Ytbkokdpginghoaa.PU Go.Proofs.Ytbkokdpginghoaa.PV Go.Proofs.Ytbkokdpginghoaa.PD Go.Proofs.Ytbkokdpginghoaa.PX

set_option linter.unusedVariables false
section
variable {s : List Int} (hb : Byt s) (hl : (s.length : Int) ≤ 140737488351232)
include hb hl
theorem j5Ev : EvF (fun k => laws_FnFusion.j5 k s) true := by
  obtain ⟨p, c, n, h1⟩ := dCheb hb hl
  obtain ⟨r1, h2, h3⟩ := chebEv p c n
  obtain ⟨z, m, kk, h4⟩ := dPaths hb hl
  obtain ⟨r2, h5, h6⟩ := pathEv z m kk
  obtain ⟨p', c', a, b, d, h7⟩ := dAdm hb hl
  obtain ⟨r3, h8, h9⟩ := admEv p' c' a b d
  refine EvF.succ ?_ (fun k => by simp only [laws_FnFusion.j5]; rfl)
  refine EvF.bind h1 ?_
  refine EvF.bind h2 ?_
  refine EvF.bind h3 ?_
  refine EvF.bind h4 ?_
  refine EvF.bind h5 ?_
  refine EvF.bind h6 ?_
  refine EvF.bind h7 ?_
  refine EvF.bind h8 ?_
  refine EvF.bind h9 ?_
  simp only [if_true, beq_self_eq_true]
  exact EvF.now _
theorem j4Ev (x28 x29 x30 : Int) (q : Bool) (h : q = true → ¬ x30 < 1 ∧ EvF (fun k => impl_ChebyshevNumber.f k x28 x29 x30) (0, 0)) : EvF (fun k => laws_FnFusion.j4 k s x28 x29 x30 q) true := by
  cases q with
  | false => exact EvF.succ (j5Ev hb hl) (fun k => by simp only [laws_FnFusion.j4]; rw [if_neg (by simp)])
  | true =>
    obtain ⟨h1, h2⟩ := h rfl
    refine EvF.succ ?_ (fun k => by simp only [laws_FnFusion.j4]; first | rw [if_pos trivial] | rw [if_pos rfl])
    refine EvF.bind h2 ?_
    simp only [if_true, if_neg h1]
    exact j5Ev hb hl
theorem j2Ev : EvF (fun k => laws_FnFusion.j2 k s false) true := by
  obtain ⟨p, c, h1⟩ := dZero hb hl
  obtain ⟨v, e, h2, h3, h4⟩ := zeroEv p c
  refine EvF.succ ?_ (fun k => by simp only [laws_FnFusion.j2]; rw [if_neg (by simp)])
  refine EvF.bind h1 ?_
  refine EvF.bind h2 ?_
  refine EvF.bind h3 ?_
  simp only [if_true, bne_self_eq_false]
  by_cases he : e = 0
  · refine EvF.succ (j4Ev hb hl p c v (decide (v ≤ 1000)) (fun _ => h4 he)) (fun k => ?_)
    simp only [laws_FnFusion.j3]
    rw [if_neg (by simp), if_pos he]
  · refine EvF.succ (j4Ev hb hl p c v false (fun h => by simp at h)) (fun k => ?_)
    simp only [laws_FnFusion.j3]
    rw [if_neg (by simp), if_neg he]
theorem j1Ev : EvF (fun k => laws_FnFusion.j1 k s) true := by
  obtain ⟨p, c, a, b, h1⟩ := dFusion hb hl
  obtain ⟨ys, e, hy, h2, h3, h4⟩ := fusEv p c a b
  have h5 := likeEv ys (by omega)
  refine EvF.succ ?_ (fun k => by simp only [laws_FnFusion.j1]; rfl)
  refine EvF.bind h1 ?_
  refine EvF.bind h2 ?_
  refine EvF.bind h3 ?_
  refine EvF.bind h4 ?_
  simp only [if_true]
  refine EvF.bind h5 ?_
  simp only [if_true]
  refine EvF.bind h5 ?_
  simp only [Bool.not_true]
  exact j2Ev hb hl
theorem lawEv : EvF (fun k => laws_FnFusion.f k s) true := by
  unfold laws_FnFusion.f laws_big.f
  simp only [Option.bind_some]
  by_cases hbig : (s.length : Int) > 4096
  · simp only [decide_eq_true hbig, if_true]
    exact EvF.now _
  · simp only [decide_eq_false hbig, Bool.false_eq_true, if_false]
    obtain ⟨p, c, a, b, d, h1⟩ := dTheta hb hl
    obtain ⟨r, h2, h3, h4⟩ := thetaEv p c a b d
    refine EvF.bind h1 ?_
    refine EvF.bind h2 ?_
    refine EvF.bind h3 ?_
    simp only [if_true, bne_self_eq_false]
    by_cases he : r.2 = 0
    · obtain ⟨t1, t2, t3⟩ := h4 he
      refine EvF.succ ?_ (fun k => by simp only [laws_FnFusion.j0]; rw [if_neg (by simp), if_pos he])
      refine EvF.bind t1 ?_
      refine EvF.bind t2 ?_
      refine EvF.bind t3 ?_
      simp only [if_pos he, if_true]
      exact j1Ev hb hl
    · refine EvF.succ (j1Ev hb hl) (fun k => ?_)
      simp only [laws_FnFusion.j0]
      rw [if_neg (by simp), if_neg he]
end
theorem FnFusion : laws_FnFusion.Pure := by
  intro s h1 h2 h3
  obtain ⟨K, h⟩ := lawEv (s := s) (fun x hx => by
    have := h3 x hx
    have e1 : IntKind.u8.min = 0 := by decide
    have e2 : IntKind.u8.max = 255 := by decide
    simp only [Lit.wf, e1, e2, Bool.and_eq_true, decide_eq_true_eq] at this
    omega) (by omega)
  exact ⟨K, h K (Nat.le_refl _)⟩

end Go.Proofs.Ytbkokdpginghoaa.Pure
