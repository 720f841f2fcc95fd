/- The contracts of spec.l07All and spec.AllPartitions. No condition. -/
import Derived.Test.YtcmkibljlfnkbaaHandFill
import Derived.Test.YtcmkibljlfnkbaaHandP
namespace Go.Proofs.Ytcmkibljlfnkbaa.Hand
open Go.RowKit Go.Proofs.YtcmkibljlfnkbaaW.PrintWords Go.Proofs.YtcmkibljlfnkbaaW.PrintLast Go.Proofs.YtcmkibljlfnkbaaW.PrintMore
set_option linter.unusedVariables false
set_option linter.unusedSimpArgs false

/-- All partitions of a size, as parts. -/
def allP (N : Nat) : List (List Int) := fl (2 * N) 0 (List.replicate 8 0) 0
theorem parR_nil (n : Int) (e : Nat) (w : World) (base : Nat) : (parK n).R e w base (fun _ => True) (.slice none 0 0) [] := ⟨fun _ _ => trivial, [], own_nil _ _ _ _, Reps.none _ _⟩
theorem Grow.below {w w' : World} {v v' : Value} (h : Grow w w' v v') {base : Nat} (hb : base ≤ w.heap.size) (hv : ∀ k, v.ownBlock = some k → base ≤ k) : Below base w w' := (Below.refl base w).grown h.g hb hv
theorem cap7_le : ∀ d, d ≤ 6 → cap7 d ≤ 117649 := by
  intro d h
  have : d = 0 ∨ d = 1 ∨ d = 2 ∨ d = 3 ∨ d = 4 ∨ d = 5 ∨ d = 6 := by omega
  rcases this with rfl | rfl | rfl | rfl | rfl | rfl | rfl <;> decide
set_option maxRecDepth 100000 in
theorem all7_calls (N : Nat) (hN : N ≤ 3) (w : World) :
    Calls Try.prog 10 #[.int .i64 (N : Int)] w fun e w' => ∃ v', e = .returned v' ∧ (parK N).R 33 w' w.heap.size (fun _ => True) v' (allP N) ∧ Below w.heap.size w w' := by
  have hc := fill_calls N hN w.heap.size (2 * N) 0 0 (List.replicate 8 0) (.slice none 0 0) [] w (by omega) rfl (Nat.le_refl _) (by have := cap7_le (2 * N) (by omega); simp; omega) (Nat.le_refl _) (parR_nil _ _ _ _)
  rw [show ((0 : Nat) : Int) = 0 from rfl, List.nil_append] at hc
  have HC := Aside0.mk hc
  clear hc
  have hNb : N ≤ 3 := hN
  go_enter Try.func10, Try.ntmps10
  go_wp2_with fail
  refine HC.out.mono ?_
  rintro e w1 ⟨v', rfl, hr, hg⟩
  have HR := Aside0.mk hr
  have HG := Aside0.mk hg
  clear hr hg HC
  go_wp2
  go_ret
  exact ⟨v', rfl, HR.out, HG.out.below (Nat.le_refl _) (fun k hk => by cases hk)⟩
theorem in_calls (f : Nat) (x lo hi : Int) (b : Bool) (hb : (decide (lo ≤ x) && decide (x ≤ hi)) = b) (w : World) : Calls Try.prog 9 #[.int .i64 x, .int .i64 lo, .int .i64 hi] w fun e w' => e = .returned (.bool b) ∧ Drawn0 w w' := by
  refine spec_l01In.calls x lo hi b w ?_
  unfold spec_l01In.f
  by_cases c : x ≥ lo
  · rw [if_pos c, ← hb, decide_eq_true c, Bool.true_and]
  · rw [if_neg c, ← hb, decide_eq_false c, Bool.false_and]
theorem iin_calls (x lo hi : Int) (b : Bool) (hb : (decide (lo ≤ x) && decide (x ≤ hi)) = b) (w : World) : Calls Try.prog 11 #[.int .i64 x, .int .i64 lo, .int .i64 hi] w fun e w' => e = .returned (.bool b) ∧ Drawn0 w w' := by
  refine impl_in.calls x lo hi b w ?_
  unfold impl_in.f
  by_cases c : x ≥ lo
  · rw [if_pos c, ← hb, decide_eq_true c, Bool.true_and]
  · rw [if_neg c, ← hb, decide_eq_false c, Bool.false_and]
theorem specAll_out (n : Int) (h : ¬(1 ≤ n ∧ n ≤ 3)) (w : World) :
    Calls Try.prog 4 #[.int .i64 n] w fun e w' => e = .returned (.tuple #[.slice none 0 0, .int .i64 2]) ∧ Below w.heap.size w w' := by
  have HIN := Aside0.mk (fun W => in_calls 0 n 1 3 false (by rw [← Bool.decide_and]; exact decide_eq_false h) W)
  clear h
  go_enter Try.func4, Try.ntmps4
  go_wp2_with fail
  refine (HIN.out _).mono ?_
  rintro e w1 ⟨rfl, ⟨q, rfl⟩⟩
  go_wp2
  go_ret2
  exact ⟨rfl, pw_below_drewN (Below.refl _ _) _⟩
theorem specAll_in (N : Nat) (h1 : 1 ≤ N) (h3 : N ≤ 3) (w : World) :
    Calls Try.prog 4 #[.int .i64 (N : Int)] w fun e w' => ∃ v', e = .returned (.tuple #[v', .int .i64 0]) ∧ (parK N).R 33 w' w.heap.size (fun _ => True) v' (allP N) ∧ Below w.heap.size w w' := by
  have HIN := Aside0.mk (fun W => in_calls 0 (N : Int) 1 3 true (by rw [decide_eq_true (show (1 : Int) ≤ (N : Int) by omega), decide_eq_true (show (N : Int) ≤ 3 by omega)]; rfl) W)
  have HC := Aside0.mk (fun W => all7_calls N h3 W)
  clear h1 h3
  go_enter Try.func4, Try.ntmps4
  go_wp2_with fail
  refine (HIN.out _).mono ?_
  rintro e w1 ⟨rfl, ⟨q, rfl⟩⟩
  go_wp2_with fail
  refine (HC.out _).mono ?_
  rintro e w2 ⟨v', rfl, hr, hb⟩
  have HR := Aside0.mk (show (parK N).R 33 w2 w.heap.size (fun _ => True) v' (allP N) from hr)
  have HB := Aside0.mk (show Below w.heap.size w w2 from below_step (pw_below_drewN (Below.refl _ w) q) hb)
  clear hr hb HC HIN
  go_wp2
  go_ret2
  exact ⟨v', rfl, HR.out, HB.out⟩
end Go.Proofs.Ytcmkibljlfnkbaa.Hand
