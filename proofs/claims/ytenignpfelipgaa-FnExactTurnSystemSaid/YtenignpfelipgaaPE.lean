/- The turn of a system: the program and the reference tell the same: plain lemmas. No condition. -/
import Derived.Test.YtenignpfelipgaaPC
namespace Go.Proofs.Ytenignpfelipgaa.PE
open Go.RowKit Go.Proofs.Ytenignpfelipgaa.Hand Go.Proofs.YtenignpfelipgaaW.PrintWords Go.Proofs.YtenignpfelipgaaW.PrintLast Go.Proofs.Ytenignpfelipgaa.PA Go.Proofs.Ytenignpfelipgaa.PC


theorem strSize (xs : List Int) : (strOfNums xs).size = xs.length := by
  simp [strOfNums, ByteArray.size]
theorem equal_go (x y : List Int) (he : x.length = y.length) (hb : x.length ≤ 1000000) : ∀ (d i : Nat), i + d = x.length → ∃ b : Bool, ∀ k, d < k → slices_Equal_int_int.l0 k x y (x.length : Int) (i : Int) = some b := by
  intro d
  induction d with
  | zero =>
    intro i hi
    refine ⟨true, fun k hk => ?_⟩
    obtain ⟨k, rfl⟩ : ∃ m, k = m + 1 := ⟨k - 1, by omega⟩
    simp only [slices_Equal_int_int.l0]
    rw [if_neg (by omega)]
  | succ d ih =>
    intro i hi
    obtain ⟨b, hb2⟩ := ih (i + 1) (by omega)
    by_cases hq : rd x (i : Int) = rd y (i : Int)
    · refine ⟨b, fun k hk => ?_⟩
      obtain ⟨k, rfl⟩ : ∃ m, k = m + 1 := ⟨k - 1, by omega⟩
      simp only [slices_Equal_int_int.l0]
      rw [if_pos (by omega), if_pos (by omega), if_pos (by omega), if_pos (by omega), if_pos hq, wrap_nat (by omega)]
      exact hb2 k (by omega)
    · refine ⟨false, fun k hk => ?_⟩
      obtain ⟨k, rfl⟩ : ∃ m, k = m + 1 := ⟨k - 1, by omega⟩
      simp only [slices_Equal_int_int.l0]
      rw [if_pos (by omega), if_pos (by omega), if_pos (by omega), if_pos (by omega), if_neg hq]
theorem equal_some (x y : List Int) (hb : x.length ≤ 1000000) : ∃ b : Bool, ∀ k, x.length < k → slices_Equal_int_int.f k x y = some b := by
  by_cases he : x.length = y.length
  · obtain ⟨b, h⟩ := equal_go x y he hb x.length 0 (by omega)
    refine ⟨b, fun k hk => ?_⟩
    unfold slices_Equal_int_int.f
    rw [if_pos (by omega)]
    exact h k hk
  · refine ⟨false, fun k hk => ?_⟩
    unfold slices_Equal_int_int.f
    rw [if_neg (by omega)]
theorem turned_pad (p z : List Int) (n : Nat) (hp : n ≤ p.length) : ∀ i, i ≤ n → turned (p ++ z) n i = turned p n i
  | 0, _ => rfl
  | i + 1, h => by
    simp only [turned]
    rw [turned_pad p z n hp i (by omega), rd_app_l p z i (by omega)]
theorem turnBoth (a : ByteArray) (ha : a.size ≤ 1048576) : ∃ (s : ByteArray) (e : Int), spec_TurnSystem.f 1048580 a = some (s, e) ∧ impl_TurnSystem.f 1048580 a = some (s, e) := by
  obtain ⟨o, p, t, y, h1, h2, h3, h4, h5⟩ := sysBoth a ha
  unfold spec_TurnSystem.f impl_TurnSystem.f
  rw [h1 _ (by omega), h4 _ (by omega), h2 _ (by omega), Option.bind_some, Option.bind_some, Option.bind_some]
  cases y with
  | false => exact ⟨_, _, rfl, rfl⟩
  | true =>
    obtain ⟨u1, u2, u3, u4, u5⟩ := h5 rfl
    rw [if_pos rfl, if_pos rfl, if_pos (by omega), if_pos u2, if_pos (by omega), if_pos u3, if_pos (by omega), u5, turned_pad p _ a.size (by omega) a.size (Nat.le_refl _)]
    have hl := turned_len p a.size a.size
    generalize turned p a.size a.size = L at hl
    have hS : (strOfNums (signs L L.length)).size = L.length := by rw [strSize, signs_len]
    obtain ⟨o2, r2, y2, k1, k2, k3, k4⟩ := arcs (strOfNums (signs L L.length)) (by rw [hS]; omega)
    refine ⟨strOfNums (signs L L.length), 0, ?_, ?_⟩
    · unfold spec_l08Text.f
      rw [if_pos (by omega), k1 _ (by rw [hS]; omega), Option.bind_some]
      cases y2 with
      | false => rfl
      | true => rw [if_pos rfl, if_pos (by omega)]; rfl
    · unfold impl_system.f
      rw [if_pos (by omega), k2 _ (by rw [hS]; omega), Option.bind_some]
      by_cases hr : r2.2 = true
      · obtain ⟨b, hb⟩ := equal_some r2.1 L (by
          obtain ⟨r3, q1, q2⟩ := PA.partners (strOfNums (signs L L.length)) (by rw [hS]; omega)
          have e3 : r3 = r2 := by
            have := q1 1048580 (by rw [hS]; omega)
            rw [k2 1048580 (by rw [hS]; omega)] at this
            exact (Option.some.inj this).symm
          rw [e3] at q2
          have := (q2 hr).1
          rw [hS] at this
          omega)
        have hlen : r2.1.length < 1048580 := by
          obtain ⟨r3, q1, q2⟩ := PA.partners (strOfNums (signs L L.length)) (by rw [hS]; omega)
          have e3 : r3 = r2 := by
            have := q1 1048580 (by rw [hS]; omega)
            rw [k2 1048580 (by rw [hS]; omega)] at this
            exact (Option.some.inj this).symm
          rw [e3] at q2
          have := (q2 hr).1
          rw [hS] at this
          omega
        rw [if_pos hr, hb _ hlen]
        rfl
      · rw [if_neg hr]
        rfl

end Go.Proofs.Ytenignpfelipgaa.PE
