/- The contract of strconv.FormatInt at one digit: the text of the digit. Condition: 0 to 9. -/
import Derived.Test.YtlagckiombkngaaDoorHandWok
namespace Go.Proofs.YtlagckiombkngaaDoor.Hand
open Go.RowKit Go.Proofs.YtlagckiombkngaaDoorW.PrintWords Go.Proofs.YtlagckiombkngaaDoorW.PrintLast Go.Proofs.YtlagckiombkngaaDoorW.PrintMore
set_option linter.unusedVariables false
set_option linter.unusedSimpArgs false

def dgt (n : Int) : ByteArray := ⟨#[UInt8.ofNat (48 + n.toNat)]⟩
theorem ten {n : Int} (h : 0 ≤ n ∧ n < 10) : n = 0 ∨ n = 1 ∨ n = 2 ∨ n = 3 ∨ n = 4 ∨ n = 5 ∨ n = 6 ∨ n = 7 ∨ n = 8 ∨ n = 9 := by omega
def strconv_FormatInt.f (n b : Int) : Option ByteArray := if (0 ≤ n ∧ n < 10) ∧ b = 10 then some (dgt n) else none
set_option maxHeartbeats 1000000 in
theorem small_calls (a0 : Int) (hc : 0 ≤ a0 ∧ a0 < 10) (w : World) :
    Calls Tryd.prog 18 #[.int .i64 a0] w fun e w' => e = .returned (.string (dgt a0)) ∧ w' = w := by
  rcases ten hc with rfl | rfl | rfl | rfl | rfl | rfl | rfl | rfl | rfl | rfl
  all_goals
    clear hc
    go_enter Tryd.func18, Tryd.ntmps18
    go_wp2
    go_ret
    exact ⟨rfl, rfl⟩
set_option maxHeartbeats 1000000 in
theorem ifmt_calls (a0 : Int) (hc : 0 ≤ a0 ∧ a0 < 10) (w : World) :
    Calls Tryd.prog 16 #[.int .i64 a0, .int .i64 10] w fun e w' => e = .returned (.string (dgt a0)) ∧ w' = w := by
  have HS := Aside0.mk (fun W => small_calls a0 hc W)
  have c1 : decide (0 ≤ a0) = true := decide_eq_true hc.1
  have c2 : decide (a0 < 100) = true := decide_eq_true (by omega)
  generalize dgt a0 = d at HS ⊢
  clear hc
  go_enter Tryd.func16, Tryd.ntmps16
  go_wp2_with (go_at_call 18; refine (HS.out _).mono ?_; rintro e w' ⟨rfl, rfl⟩)
  go_ret
  exact ⟨rfl, rfl⟩
theorem strconv_FormatInt.calls (a0 a1 : Int) (r : ByteArray) (w : World) (h : strconv_FormatInt.f a0 a1 = some r) :
    Calls Tryd.prog 11 #[.int .i64 a0, .int .i64 a1] w fun e w' => e = .returned (.string r) ∧ Below w.heap.size w w' := by
  unfold strconv_FormatInt.f at h
  by_cases hc : (0 ≤ a0 ∧ a0 < 10) ∧ a1 = 10
  · rw [if_pos hc] at h
    obtain rfl := Option.some.inj h
    obtain ⟨hc, rfl⟩ := hc
    have HS := Aside0.mk (fun W => ifmt_calls a0 hc W)
    generalize dgt a0 = d at HS ⊢
    clear hc h
    go_enter Tryd.func11, Tryd.ntmps11
    go_wp2_with (go_at_call 16; refine (HS.out _).mono ?_; rintro e w' ⟨rfl, rfl⟩)
    go_ret
    exact ⟨rfl, Below.refl _ _⟩
  · rw [if_neg hc] at h
    cases h
end Go.Proofs.YtlagckiombkngaaDoor.Hand
