/- WritheOf of the program returns what the reference returns, for all arguments: the pure statement. No condition. -/
import Derived.Test.YtfboiigejaiodaaPB
import Derived.Test.YtfboiigejaiodaaQx1
import Derived.Test.YtfboiigejaiodaaQx2
namespace Go.Proofs.Ytfboiigejaiodaa.Pure
open Go.RowKit Go.Proofs.Ytfboiigejaiodaa.Q Go.Proofs.Ytfboiigejaiodaa.Hand Go.Proofs.YtfboiigejaiodaaW.PrintWords Go.Proofs.YtfboiigejaiodaaW.PrintLast Go.Proofs.Ytfboiigejaiodaa.PA Go.Proofs.Ytfboiigejaiodaa.PB


theorem writhes (l : List Int) (hb : l.length ≤ 1048576) : ∀ (d i : Nat) (s : Int), i + d = l.length → ∃ r, ∀ k, d < k → spec_l06Writhe.l0 k l s (i : Int) = some r ∧ impl_writhe.l0 k s l (l.length : Int) (i : Int) = some r := by
  intro d
  induction d with
  | zero =>
    intro i s hi
    refine ⟨s, fun k hk => ?_⟩
    obtain ⟨k, rfl⟩ : ∃ m, k = m + 1 := ⟨k - 1, by omega⟩
    simp only [spec_l06Writhe.l0, impl_writhe.l0]
    exact ⟨if_neg (by omega), if_neg (by omega)⟩
  | succ d ih =>
    intro i s hi
    by_cases hx : rd l (i : Int) > 0
    · obtain ⟨r, h⟩ := ih (i + 1) (wrap64 (s + 1)) (by omega)
      refine ⟨r, fun k hk => ?_⟩
      obtain ⟨k, rfl⟩ : ∃ m, k = m + 1 := ⟨k - 1, by omega⟩
      simp only [spec_l06Writhe.l0, impl_writhe.l0, wrap_nat (show i ≤ 1000000000 by omega)]
      refine ⟨?_, ?_⟩
      · rw [if_pos (by omega), if_pos (by omega), if_pos hx]; exact (h k (by omega)).1
      · rw [if_pos (by omega), if_pos (by omega), if_pos (by omega), if_pos hx]; exact (h k (by omega)).2
    · obtain ⟨r, h⟩ := ih (i + 1) (wrap64 (s - 1)) (by omega)
      refine ⟨r, fun k hk => ?_⟩
      obtain ⟨k, rfl⟩ : ∃ m, k = m + 1 := ⟨k - 1, by omega⟩
      simp only [spec_l06Writhe.l0, impl_writhe.l0, wrap_nat (show i ≤ 1000000000 by omega)]
      refine ⟨?_, ?_⟩
      · rw [if_pos (by omega), if_pos (by omega), if_neg hx]; exact (h k (by omega)).1
      · rw [if_pos (by omega), if_pos (by omega), if_pos (by omega), if_neg hx]; exact (h k (by omega)).2
theorem both (n : Int) (l : List Int) (hb : l.length ≤ 1048576) : ∃ r e, ∀ k, l.length + 1 < k → spec_WritheOf.f k n l = some (r, e) ∧ impl_WritheOf.f k n l = some (r, e) := by
  obtain ⟨r, h⟩ := writhes l hb l.length 0 0 (by omega)
  cases ho : okB n l with
  | true =>
    refine ⟨r, 0, fun k hk => ?_⟩
    obtain ⟨h1, h2⟩ := h k (by omega)
    unfold spec_WritheOf.f impl_WritheOf.f spec_l06Writhe.f impl_writhe.f
    rw [specWord n l hb hk, implWord n l hb, ho]
    simp only [Option.bind_some, if_true]
    rw [show ((0 : Nat) : Int) = 0 from rfl] at h1 h2
    rw [h1, h2]
    exact ⟨rfl, rfl⟩
  | false =>
    refine ⟨0, 2, fun k hk => ?_⟩
    unfold spec_WritheOf.f impl_WritheOf.f
    rw [specWord n l hb hk, implWord n l hb, ho]
    exact ⟨rfl, rfl⟩
theorem FnExactWritheOf : laws_FnExactWritheOf.Pure := by
  intro n l _ _ _ _
  refine ⟨1048580, ?_⟩
  unfold laws_FnExactWritheOf.f
  by_cases hb : l.length ≤ 1048576
  · rw [if_neg (by omega)]
    obtain ⟨r, e, h⟩ := both n l hb
    obtain ⟨h1, h2⟩ := h 1048580 (by omega)
    rw [toS l hb (by omega), Option.bind_some, h1, Option.bind_some, Option.bind_some, h2, Option.bind_some, if_pos rfl, bne_self_eq_false]
    rw [show (1048580 : Nat) = 1048579 + 1 from rfl]
    simp only [laws_FnExactWritheOf.j0]
    rw [if_neg (by simp), toS l hb (by omega), Option.bind_some, eqS l (by omega) (by omega), Option.bind_some, if_pos rfl]
  · rw [if_pos (by omega)]

end Go.Proofs.Ytfboiigejaiodaa.Pure
