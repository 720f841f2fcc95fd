/- MirrorWord of the program returns what the reference returns, for all arguments, changes no argument and shares no memory: the pure statement. No condition. -/
import Derived.Test.YtfboiigejaiodaaPB
import Derived.Test.YtfboiigejaiodaaQx2
import Derived.Test.YtfboiigejaiodaaQx4
namespace Go.Proofs.Ytfboiigejaiodaa.Pure
open Go.RowKit Go.Proofs.Ytfboiigejaiodaa.Q Go.Proofs.Ytfboiigejaiodaa.Hand Go.Proofs.YtfboiigejaiodaaW.PrintWords Go.Proofs.YtfboiigejaiodaaW.PrintLast Go.Proofs.Ytfboiigejaiodaa.PA Go.Proofs.Ytfboiigejaiodaa.PB


theorem mirrors (l : List Int) (hb : l.length ≤ 24) : ∀ (d i : Nat) (xs : List Int), i + d = l.length → xs.length = i → ∃ ys, ys.length = l.length ∧ ∀ k, d < k → spec_MirrorWord.l0 k l xs (i : Int) = some (ys, 0) ∧ impl_MirrorWord.l0 k xs l (l.length : Int) (i : Int) = some (ys, 0) := by
  intro d
  induction d with
  | zero =>
    intro i xs hi hx
    refine ⟨xs, by omega, fun k hk => ?_⟩
    obtain ⟨k, rfl⟩ : ∃ m, k = m + 1 := ⟨k - 1, by omega⟩
    simp only [spec_MirrorWord.l0, impl_MirrorWord.l0]
    exact ⟨if_neg (by omega), if_neg (by omega)⟩
  | succ d ih =>
    intro i xs hi hx
    obtain ⟨ys, hy, h⟩ := ih (i + 1) (xs ++ [wrap64 (-(rd l (i : Int)))]) (by omega) (by simp [hx])
    refine ⟨ys, hy, fun k hk => ?_⟩
    obtain ⟨k, rfl⟩ : ∃ m, k = m + 1 := ⟨k - 1, by omega⟩
    simp only [spec_MirrorWord.l0, impl_MirrorWord.l0, wrap_nat (show i ≤ 1000000000 by omega)]
    refine ⟨?_, ?_⟩
    · rw [if_pos (by omega), if_pos (by omega), if_pos (by omega)]; exact (h k (by omega)).1
    · rw [if_pos (by omega), if_pos (by omega), if_pos (by omega), if_pos (by omega)]; exact (h k (by omega)).2
theorem both (n : Int) (l : List Int) (hb : l.length ≤ 1048576) : ∃ ys e, ys.length ≤ 24 ∧ ∀ k, l.length + 1 < k → spec_MirrorWord.f k n l = some (ys, e) ∧ impl_MirrorWord.f k n l = some (ys, e) := by
  cases ho : okB n l with
  | true =>
    obtain ⟨_, _, hl, _⟩ := okB_spec ho
    obtain ⟨ys, hy, h⟩ := mirrors l hl l.length 0 [] (by omega) rfl
    refine ⟨ys, 0, by omega, fun k hk => ?_⟩
    obtain ⟨h1, h2⟩ := h k (by omega)
    unfold spec_MirrorWord.f impl_MirrorWord.f
    rw [specWord n l hb hk, implWord n l hb, ho]
    exact ⟨h1, h2⟩
  | false =>
    refine ⟨[], 2, by simp, fun k hk => ?_⟩
    unfold spec_MirrorWord.f impl_MirrorWord.f
    rw [specWord n l hb hk, implWord n l hb, ho]
    exact ⟨rfl, rfl⟩

theorem FnExactMirrorWord : laws_FnExactMirrorWord.Pure := by
  intro n l _ _ _ _
  refine ⟨1048580, ?_⟩
  unfold laws_FnExactMirrorWord.f
  by_cases hb : l.length ≤ 1048576
  · rw [if_neg (by omega)]
    obtain ⟨ys, e, hy, h⟩ := both n l hb
    rw [toS l hb (by omega), Option.bind_some, (h 1048580 (by omega)).1, Option.bind_some, Option.bind_some, (h 1048580 (by omega)).2, Option.bind_some, eqS ys (by omega) (by omega), Option.bind_some, if_pos rfl, bne_self_eq_false]
    rw [show (1048580 : Nat) = 1048579 + 1 from rfl]
    simp only [laws_FnExactMirrorWord.j0]
    rw [if_neg (by simp), toS l hb (by omega), Option.bind_some, eqS l (by omega) (by omega), Option.bind_some, if_pos rfl, markS l (by omega) (by omega), Option.bind_some, if_neg (by omega), eqS ys (by omega) (by omega), Option.bind_some, if_pos rfl, bne_self_eq_false]
    rw [show (1048579 : Nat) = 1048578 + 1 from rfl]
    simp only [laws_FnExactMirrorWord.j1]
    rw [if_neg (by simp), markS ys (by omega) (by omega), Option.bind_some, heldS ys.length (by omega) (by omega), Option.bind_some, if_neg (by omega), if_pos rfl, toS l hb (by omega), Option.bind_some, (h 1048578 (by omega)).2, Option.bind_some, eqS ys (by omega) (by omega), Option.bind_some, if_pos rfl, bne_self_eq_false]
    rw [show (1048578 : Nat) = 1048577 + 1 from rfl]
    simp only [laws_FnExactMirrorWord.j2]
    rw [if_neg (by simp), heldS ys.length (by omega) (by omega), Option.bind_some, if_neg (by omega), if_pos rfl]
  · rw [if_pos (by omega)]

end Go.Proofs.Ytfboiigejaiodaa.Pure
