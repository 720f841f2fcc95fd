/- Contracts, walks and rows for laws of the seat Ytbkokdpginghoaa, written by a program of this session out of the translation: plain Lean, checked by Lean. No condition. -/
import Derived.Test.YtbkokdpginghoaaQx0
import Derived.Test.YtbkokdpginghoaaQx2
import Derived.Test.YtbkokdpginghoaaQx3
import Derived.Test.YtbkokdpginghoaaQx4
namespace Go.Proofs.Ytbkokdpginghoaa.Q
open Go.Proofs.Ytbkokdpginghoaa.Hand
open Go.RowKit Go.Proofs.YtbkokdpginghoaaW.PrintWords Go.Proofs.YtbkokdpginghoaaW.PrintLast Go.Proofs.YtbkokdpginghoaaW.PrintMore
attribute [local go_sem] max2_int min2_int max_two min_two max_three min_three max_four min_four   -- for this text's walks alone
set_option linter.unusedVariables false
set_option linter.unusedSimpArgs false

/-! ### spec_ThetaNumber: function 20 -/
def spec_ThetaNumber.f (k : Nat) (a0 : Int) (a1 : Int) (a2 : Int) (a3 : Int) (a4 : Int) : Option (Int × Int) := (spec_l05Labels.f k a0 a1 (([a2, a3, a4] : List Int))).bind fun bt175 => (if bt175.2 = 0 then ((spec_l05Admissible.f bt175.1 a2 a3 a4).bind fun t177 => (if t177 = true then ((spec_l05Product.f k a0 a1 (wrap64 ((wrap64 ((wrap64 (Int.tdiv (wrap64 ((wrap64 (a2 + a3)) - a4)) 2)) + (wrap64 (Int.tdiv (wrap64 ((wrap64 (a3 + a4)) - a2)) 2)))) + (wrap64 (Int.tdiv (wrap64 ((wrap64 (a4 + a2)) - a3)) 2))))).bind fun t178 => ((spec_l05Product.f k a0 a1 (wrap64 ((wrap64 (Int.tdiv (wrap64 ((wrap64 (a2 + a3)) - a4)) 2)) - 1))).bind fun t179 => (if a0 = 0 then (none) else ((spec_l05Product.f k a0 a1 (wrap64 ((wrap64 (Int.tdiv (wrap64 ((wrap64 (a3 + a4)) - a2)) 2)) - 1))).bind fun t180 => ((spec_l05Product.f k a0 a1 (wrap64 ((wrap64 (Int.tdiv (wrap64 ((wrap64 (a4 + a2)) - a3)) 2)) - 1))).bind fun t181 => ((spec_l05Product.f k a0 a1 (wrap64 ((wrap64 ((wrap64 (Int.tdiv (wrap64 ((wrap64 (a3 + a4)) - a2)) 2)) + (wrap64 (Int.tdiv (wrap64 ((wrap64 (a4 + a2)) - a3)) 2)))) - 1))).bind fun t182 => ((spec_l05Product.f k a0 a1 (wrap64 ((wrap64 ((wrap64 (Int.tdiv (wrap64 ((wrap64 (a4 + a2)) - a3)) 2)) + (wrap64 (Int.tdiv (wrap64 ((wrap64 (a2 + a3)) - a4)) 2)))) - 1))).bind fun t183 => ((spec_l05Product.f k a0 a1 (wrap64 ((wrap64 ((wrap64 (Int.tdiv (wrap64 ((wrap64 (a2 + a3)) - a4)) 2)) + (wrap64 (Int.tdiv (wrap64 ((wrap64 (a3 + a4)) - a2)) 2)))) - 1))).bind fun t184 => ((spec_l01Inverse.f k a0 (Int.tmod (wrap64 ((Int.tmod (wrap64 (t182 * t183)) a0) * t184)) a0)).bind fun t185 => (some (Int.tmod (wrap64 ((Int.tmod (wrap64 ((Int.tmod (wrap64 ((Int.tmod (wrap64 (t178 * t179)) a0) * t180)) a0) * t181)) a0) * t185)) a0, 0))))))))))) else (some (0, 5)))) else (some (0, bt175.2)))
theorem spec_ThetaNumber.mono : ∀ a0 a1 a2 a3 a4 k, LeO (spec_ThetaNumber.f k a0 a1 a2 a3 a4) (spec_ThetaNumber.f (k + 1) a0 a1 a2 a3 a4) := by
 intro a0 a1 a2 a3 a4 k
 unfold spec_ThetaNumber.f
 repeat' first
   | (with_reducible exact spec_l01Inverse.mono _ _ _)
   | (with_reducible exact spec_l05Labels.mono _ _ _ _)
   | (with_reducible exact spec_l05Product.mono _ _ _ _)
   | (with_reducible exact LeO.refl _)
   | (with_reducible exact LeO.none _)
   | (with_reducible refine LeO.ite ?_ ?_)
   | (with_reducible refine LeO.bind ?_ (fun _ => ?_))
   | exact spec_l01Inverse.mono _ _ _
   | exact spec_l05Labels.mono _ _ _ _
   | exact spec_l05Product.mono _ _ _ _
   | exact LeO.none _
   | refine LeO.ite ?_ ?_
   | refine LeO.bind ?_ (fun _ => ?_)
def spec_ThetaNumber.T7 : Bool × List (List Nat × List Nat) := (true, [([], []), ([], []), ([], []), ([], []), ([2, 3], [2, 3]), ([], []), ([4, 5], [4, 5]), ([0, 1, 6], [0, 1, 6]), ([], []), ([], []), ([], []), ([10], [10]), ([8, 9, 11, 7], [8, 9, 11]), ([7, 12], [7, 12]), ([], []), ([13, 14], [13, 14]), ([], []), ([], []), ([], []), ([18], [18]), ([16, 17, 19, 12], [16, 17, 19]), ([15, 20], [15, 20]), ([], []), ([21, 22], [21, 22]), ([], []), ([], []), ([], []), ([26], [26]), ([24, 25, 27, 20], [24, 25, 27]), ([23, 28], [23, 28]), ([], []), ([29, 30], [29, 30]), ([31, 28, 0, 1, 2, 3, 4, 5, 6, 7, 8, 9, 10, 11, 12, 13, 14, 15, 16, 17, 18, 19, 20, 21, 22, 23, 24, 25, 26, 27, 28, 29, 30, 31], [31])])
def spec_ThetaNumber.B7 : List Nat := [0, 0, 0, 0, 12, 0, 60, 127, 0, 0, 0, 1024, 4095, 8191, 0, 32767, 0, 0, 0, 262144, 991231, 2097151, 0, 8388607, 0, 0, 0, 67108864, 253698047, 536870911, 0, 2147483647, 4294967295]
theorem spec_ThetaNumber.tab7 : rtab .any (opsOf Try.f20 7) = spec_ThetaNumber.T7 := by kernel_rfl
theorem spec_ThetaNumber.bits7 : waitsOk spec_ThetaNumber.T7.2 spec_ThetaNumber.B7 = true := by kernel_rfl
def spec_ThetaNumber.T8 : Bool × List (List Nat × List Nat) := (true, [([], []), ([], []), ([], []), ([], []), ([2, 3], [2, 3]), ([4], [4]), ([0, 1, 5], [0, 1, 5]), ([], []), ([], []), ([], []), ([], []), ([9, 10], [9, 10]), ([11], [11]), ([7, 8, 12, 6], [7, 8, 12]), ([6, 13], [6, 13]), ([], []), ([14, 15], [14, 15]), ([], []), ([], []), ([], []), ([], []), ([19, 20], [19, 20]), ([21], [21]), ([17, 18, 22, 13], [17, 18, 22]), ([16, 23], [16, 23]), ([], []), ([24, 25], [24, 25]), ([26, 23, 0, 1, 2, 3, 4, 5, 6, 7, 8, 9, 10, 11, 12, 13, 14, 15, 16, 17, 18, 19, 20, 21, 22, 23, 24, 25, 26], [26])])
def spec_ThetaNumber.B8 : List Nat := [0, 0, 0, 0, 12, 28, 63, 0, 0, 0, 0, 1536, 3584, 8191, 16383, 0, 65535, 0, 0, 0, 0, 1572864, 3670016, 8273919, 16777215, 0, 67108863, 134217727]
theorem spec_ThetaNumber.tab8 : rtab .any (opsOf Try.f20 8) = spec_ThetaNumber.T8 := by kernel_rfl
theorem spec_ThetaNumber.bits8 : waitsOk spec_ThetaNumber.T8.2 spec_ThetaNumber.B8 = true := by kernel_rfl
set_option maxHeartbeats 8000000 in
set_option maxRecDepth 100000 in
theorem spec_ThetaNumber.calls (k : Nat) (a0 : Int) (a1 : Int) (a2 : Int) (a3 : Int) (a4 : Int) (r1 : Int) (r2 : Int) (w : World) (h : spec_ThetaNumber.f k a0 a1 a2 a3 a4 = some (r1, r2)) :
  Calls Try.prog 20 #[.int .i64 a0, .int .i64 a1, .int .i64 a2, .int .i64 a3, .int .i64 a4] w fun e w' => e = .returned (.tuple #[.int .i64 r1, .int .i64 r2]) ∧ Below w.heap.size w w' := by
 have HB := Aside0.mk (Below.refl w.heap.size w)
 have H : ((spec_l05Labels.f k a0 a1 (([a2, a3, a4] : List Int))).bind fun bt175 => (if bt175.2 = 0 then ((spec_l05Admissible.f bt175.1 a2 a3 a4).bind fun t177 => (if t177 = true then ((spec_l05Product.f k a0 a1 (wrap64 ((wrap64 ((wrap64 (Int.tdiv (wrap64 ((wrap64 (a2 + a3)) - a4)) 2)) + (wrap64 (Int.tdiv (wrap64 ((wrap64 (a3 + a4)) - a2)) 2)))) + (wrap64 (Int.tdiv (wrap64 ((wrap64 (a4 + a2)) - a3)) 2))))).bind fun t178 => ((spec_l05Product.f k a0 a1 (wrap64 ((wrap64 (Int.tdiv (wrap64 ((wrap64 (a2 + a3)) - a4)) 2)) - 1))).bind fun t179 => (if a0 = 0 then (none) else ((spec_l05Product.f k a0 a1 (wrap64 ((wrap64 (Int.tdiv (wrap64 ((wrap64 (a3 + a4)) - a2)) 2)) - 1))).bind fun t180 => ((spec_l05Product.f k a0 a1 (wrap64 ((wrap64 (Int.tdiv (wrap64 ((wrap64 (a4 + a2)) - a3)) 2)) - 1))).bind fun t181 => ((spec_l05Product.f k a0 a1 (wrap64 ((wrap64 ((wrap64 (Int.tdiv (wrap64 ((wrap64 (a3 + a4)) - a2)) 2)) + (wrap64 (Int.tdiv (wrap64 ((wrap64 (a4 + a2)) - a3)) 2)))) - 1))).bind fun t182 => ((spec_l05Product.f k a0 a1 (wrap64 ((wrap64 ((wrap64 (Int.tdiv (wrap64 ((wrap64 (a4 + a2)) - a3)) 2)) + (wrap64 (Int.tdiv (wrap64 ((wrap64 (a2 + a3)) - a4)) 2)))) - 1))).bind fun t183 => ((spec_l05Product.f k a0 a1 (wrap64 ((wrap64 ((wrap64 (Int.tdiv (wrap64 ((wrap64 (a2 + a3)) - a4)) 2)) + (wrap64 (Int.tdiv (wrap64 ((wrap64 (a3 + a4)) - a2)) 2)))) - 1))).bind fun t184 => ((spec_l01Inverse.f k a0 (Int.tmod (wrap64 ((Int.tmod (wrap64 (t182 * t183)) a0) * t184)) a0)).bind fun t185 => (some (Int.tmod (wrap64 ((Int.tmod (wrap64 ((Int.tmod (wrap64 ((Int.tmod (wrap64 (t178 * t179)) a0) * t180)) a0) * t181)) a0) * t185)) a0, 0))))))))))) else (some (0, 5)))) else (some (0, bt175.2)))) = some (r1, r2) := h
 clear h
 obtain ⟨y172, hy172⟩ : ∃ y_ : List Int, y_ = (([a2, a3, a4] : List Int)) := ⟨_, rfl⟩
 replace H : ((spec_l05Labels.f k a0 a1 y172).bind fun bt175 => (if bt175.2 = 0 then ((spec_l05Admissible.f bt175.1 a2 a3 a4).bind fun t177 => (if t177 = true then ((spec_l05Product.f k a0 a1 (wrap64 ((wrap64 ((wrap64 (Int.tdiv (wrap64 ((wrap64 (a2 + a3)) - a4)) 2)) + (wrap64 (Int.tdiv (wrap64 ((wrap64 (a3 + a4)) - a2)) 2)))) + (wrap64 (Int.tdiv (wrap64 ((wrap64 (a4 + a2)) - a3)) 2))))).bind fun t178 => ((spec_l05Product.f k a0 a1 (wrap64 ((wrap64 (Int.tdiv (wrap64 ((wrap64 (a2 + a3)) - a4)) 2)) - 1))).bind fun t179 => (if a0 = 0 then (none) else ((spec_l05Product.f k a0 a1 (wrap64 ((wrap64 (Int.tdiv (wrap64 ((wrap64 (a3 + a4)) - a2)) 2)) - 1))).bind fun t180 => ((spec_l05Product.f k a0 a1 (wrap64 ((wrap64 (Int.tdiv (wrap64 ((wrap64 (a4 + a2)) - a3)) 2)) - 1))).bind fun t181 => ((spec_l05Product.f k a0 a1 (wrap64 ((wrap64 ((wrap64 (Int.tdiv (wrap64 ((wrap64 (a3 + a4)) - a2)) 2)) + (wrap64 (Int.tdiv (wrap64 ((wrap64 (a4 + a2)) - a3)) 2)))) - 1))).bind fun t182 => ((spec_l05Product.f k a0 a1 (wrap64 ((wrap64 ((wrap64 (Int.tdiv (wrap64 ((wrap64 (a4 + a2)) - a3)) 2)) + (wrap64 (Int.tdiv (wrap64 ((wrap64 (a2 + a3)) - a4)) 2)))) - 1))).bind fun t183 => ((spec_l05Product.f k a0 a1 (wrap64 ((wrap64 ((wrap64 (Int.tdiv (wrap64 ((wrap64 (a2 + a3)) - a4)) 2)) + (wrap64 (Int.tdiv (wrap64 ((wrap64 (a3 + a4)) - a2)) 2)))) - 1))).bind fun t184 => ((spec_l01Inverse.f k a0 (Int.tmod (wrap64 ((Int.tmod (wrap64 (t182 * t183)) a0) * t184)) a0)).bind fun t185 => (some (Int.tmod (wrap64 ((Int.tmod (wrap64 ((Int.tmod (wrap64 ((Int.tmod (wrap64 (t178 * t179)) a0) * t180)) a0) * t181)) a0) * t185)) a0, 0))))))))))) else (some (0, 5)))) else (some (0, bt175.2)))) = some (r1, r2) := by first | (rw [hy172]; with_reducible exact H) | (have H2_ := (Option.bind_some _ _).symm.trans H; rw [hy172]; with_reducible exact H2_) | (have H2_ := (Option.bind_some _ _).symm.trans H; with_reducible exact H2_) | with_reducible exact H | (rw [hy172]; exact H) | exact H
 have Ny172 := Aside0.mk hy172
 clear hy172
 replace H := Option.bind_eq_some_iff.mp H
 obtain ⟨⟨t175, t176⟩, A60, H⟩ := H
 replace H : (if t176 = 0 then ((spec_l05Admissible.f t175 a2 a3 a4).bind fun t177 => (if t177 = true then ((spec_l05Product.f k a0 a1 (wrap64 ((wrap64 ((wrap64 (Int.tdiv (wrap64 ((wrap64 (a2 + a3)) - a4)) 2)) + (wrap64 (Int.tdiv (wrap64 ((wrap64 (a3 + a4)) - a2)) 2)))) + (wrap64 (Int.tdiv (wrap64 ((wrap64 (a4 + a2)) - a3)) 2))))).bind fun t178 => ((spec_l05Product.f k a0 a1 (wrap64 ((wrap64 (Int.tdiv (wrap64 ((wrap64 (a2 + a3)) - a4)) 2)) - 1))).bind fun t179 => (if a0 = 0 then (none) else ((spec_l05Product.f k a0 a1 (wrap64 ((wrap64 (Int.tdiv (wrap64 ((wrap64 (a3 + a4)) - a2)) 2)) - 1))).bind fun t180 => ((spec_l05Product.f k a0 a1 (wrap64 ((wrap64 (Int.tdiv (wrap64 ((wrap64 (a4 + a2)) - a3)) 2)) - 1))).bind fun t181 => ((spec_l05Product.f k a0 a1 (wrap64 ((wrap64 ((wrap64 (Int.tdiv (wrap64 ((wrap64 (a3 + a4)) - a2)) 2)) + (wrap64 (Int.tdiv (wrap64 ((wrap64 (a4 + a2)) - a3)) 2)))) - 1))).bind fun t182 => ((spec_l05Product.f k a0 a1 (wrap64 ((wrap64 ((wrap64 (Int.tdiv (wrap64 ((wrap64 (a4 + a2)) - a3)) 2)) + (wrap64 (Int.tdiv (wrap64 ((wrap64 (a2 + a3)) - a4)) 2)))) - 1))).bind fun t183 => ((spec_l05Product.f k a0 a1 (wrap64 ((wrap64 ((wrap64 (Int.tdiv (wrap64 ((wrap64 (a2 + a3)) - a4)) 2)) + (wrap64 (Int.tdiv (wrap64 ((wrap64 (a3 + a4)) - a2)) 2)))) - 1))).bind fun t184 => ((spec_l01Inverse.f k a0 (Int.tmod (wrap64 ((Int.tmod (wrap64 (t182 * t183)) a0) * t184)) a0)).bind fun t185 => (some (Int.tmod (wrap64 ((Int.tmod (wrap64 ((Int.tmod (wrap64 ((Int.tmod (wrap64 (t178 * t179)) a0) * t180)) a0) * t181)) a0) * t185)) a0, 0))))))))))) else (some (0, 5)))) else (some (0, t176))) = some (r1, r2) := H
 have A6 := Aside0.mk A60
 clear A60
 by_cases c7 : t176 = 0
 ·rw [if_pos c7] at H
  have c7b0 : (t176 == 0) = true := beq_iff_eq.mpr c7
  have c7b1 : (t176 != 0) = false := bne_eq_false_iff_eq.mpr c7
  clear c7
  replace H := Option.bind_eq_some_iff.mp H
  obtain ⟨t177, A80, H⟩ := H
  replace H : (if t177 = true then ((spec_l05Product.f k a0 a1 (wrap64 ((wrap64 ((wrap64 (Int.tdiv (wrap64 ((wrap64 (a2 + a3)) - a4)) 2)) + (wrap64 (Int.tdiv (wrap64 ((wrap64 (a3 + a4)) - a2)) 2)))) + (wrap64 (Int.tdiv (wrap64 ((wrap64 (a4 + a2)) - a3)) 2))))).bind fun t178 => ((spec_l05Product.f k a0 a1 (wrap64 ((wrap64 (Int.tdiv (wrap64 ((wrap64 (a2 + a3)) - a4)) 2)) - 1))).bind fun t179 => (if a0 = 0 then (none) else ((spec_l05Product.f k a0 a1 (wrap64 ((wrap64 (Int.tdiv (wrap64 ((wrap64 (a3 + a4)) - a2)) 2)) - 1))).bind fun t180 => ((spec_l05Product.f k a0 a1 (wrap64 ((wrap64 (Int.tdiv (wrap64 ((wrap64 (a4 + a2)) - a3)) 2)) - 1))).bind fun t181 => ((spec_l05Product.f k a0 a1 (wrap64 ((wrap64 ((wrap64 (Int.tdiv (wrap64 ((wrap64 (a3 + a4)) - a2)) 2)) + (wrap64 (Int.tdiv (wrap64 ((wrap64 (a4 + a2)) - a3)) 2)))) - 1))).bind fun t182 => ((spec_l05Product.f k a0 a1 (wrap64 ((wrap64 ((wrap64 (Int.tdiv (wrap64 ((wrap64 (a4 + a2)) - a3)) 2)) + (wrap64 (Int.tdiv (wrap64 ((wrap64 (a2 + a3)) - a4)) 2)))) - 1))).bind fun t183 => ((spec_l05Product.f k a0 a1 (wrap64 ((wrap64 ((wrap64 (Int.tdiv (wrap64 ((wrap64 (a2 + a3)) - a4)) 2)) + (wrap64 (Int.tdiv (wrap64 ((wrap64 (a3 + a4)) - a2)) 2)))) - 1))).bind fun t184 => ((spec_l01Inverse.f k a0 (Int.tmod (wrap64 ((Int.tmod (wrap64 (t182 * t183)) a0) * t184)) a0)).bind fun t185 => (some (Int.tmod (wrap64 ((Int.tmod (wrap64 ((Int.tmod (wrap64 ((Int.tmod (wrap64 (t178 * t179)) a0) * t180)) a0) * t181)) a0) * t185)) a0, 0))))))))))) else (some (0, 5))) = some (r1, r2) := H
  have A8 := Aside0.mk A80
  clear A80
  by_cases c9 : t177 = true
  ·subst c9
   have H1 : ((spec_l05Product.f k a0 a1 (wrap64 ((wrap64 ((wrap64 (Int.tdiv (wrap64 ((wrap64 (a2 + a3)) - a4)) 2)) + (wrap64 (Int.tdiv (wrap64 ((wrap64 (a3 + a4)) - a2)) 2)))) + (wrap64 (Int.tdiv (wrap64 ((wrap64 (a4 + a2)) - a3)) 2))))).bind fun t178 => ((spec_l05Product.f k a0 a1 (wrap64 ((wrap64 (Int.tdiv (wrap64 ((wrap64 (a2 + a3)) - a4)) 2)) - 1))).bind fun t179 => (if a0 = 0 then (none) else ((spec_l05Product.f k a0 a1 (wrap64 ((wrap64 (Int.tdiv (wrap64 ((wrap64 (a3 + a4)) - a2)) 2)) - 1))).bind fun t180 => ((spec_l05Product.f k a0 a1 (wrap64 ((wrap64 (Int.tdiv (wrap64 ((wrap64 (a4 + a2)) - a3)) 2)) - 1))).bind fun t181 => ((spec_l05Product.f k a0 a1 (wrap64 ((wrap64 ((wrap64 (Int.tdiv (wrap64 ((wrap64 (a3 + a4)) - a2)) 2)) + (wrap64 (Int.tdiv (wrap64 ((wrap64 (a4 + a2)) - a3)) 2)))) - 1))).bind fun t182 => ((spec_l05Product.f k a0 a1 (wrap64 ((wrap64 ((wrap64 (Int.tdiv (wrap64 ((wrap64 (a4 + a2)) - a3)) 2)) + (wrap64 (Int.tdiv (wrap64 ((wrap64 (a2 + a3)) - a4)) 2)))) - 1))).bind fun t183 => ((spec_l05Product.f k a0 a1 (wrap64 ((wrap64 ((wrap64 (Int.tdiv (wrap64 ((wrap64 (a2 + a3)) - a4)) 2)) + (wrap64 (Int.tdiv (wrap64 ((wrap64 (a3 + a4)) - a2)) 2)))) - 1))).bind fun t184 => ((spec_l01Inverse.f k a0 (Int.tmod (wrap64 ((Int.tmod (wrap64 (t182 * t183)) a0) * t184)) a0)).bind fun t185 => (some (Int.tmod (wrap64 ((Int.tmod (wrap64 ((Int.tmod (wrap64 ((Int.tmod (wrap64 (t178 * t179)) a0) * t180)) a0) * t181)) a0) * t185)) a0, 0))))))))))) = some (r1, r2) := by rw [if_pos rfl] at H; exact H
   clear H
   have H := H1
   clear H1
   replace H := Option.bind_eq_some_iff.mp H
   obtain ⟨t178, A100, H⟩ := H
   replace H : ((spec_l05Product.f k a0 a1 (wrap64 ((wrap64 (Int.tdiv (wrap64 ((wrap64 (a2 + a3)) - a4)) 2)) - 1))).bind fun t179 => (if a0 = 0 then (none) else ((spec_l05Product.f k a0 a1 (wrap64 ((wrap64 (Int.tdiv (wrap64 ((wrap64 (a3 + a4)) - a2)) 2)) - 1))).bind fun t180 => ((spec_l05Product.f k a0 a1 (wrap64 ((wrap64 (Int.tdiv (wrap64 ((wrap64 (a4 + a2)) - a3)) 2)) - 1))).bind fun t181 => ((spec_l05Product.f k a0 a1 (wrap64 ((wrap64 ((wrap64 (Int.tdiv (wrap64 ((wrap64 (a3 + a4)) - a2)) 2)) + (wrap64 (Int.tdiv (wrap64 ((wrap64 (a4 + a2)) - a3)) 2)))) - 1))).bind fun t182 => ((spec_l05Product.f k a0 a1 (wrap64 ((wrap64 ((wrap64 (Int.tdiv (wrap64 ((wrap64 (a4 + a2)) - a3)) 2)) + (wrap64 (Int.tdiv (wrap64 ((wrap64 (a2 + a3)) - a4)) 2)))) - 1))).bind fun t183 => ((spec_l05Product.f k a0 a1 (wrap64 ((wrap64 ((wrap64 (Int.tdiv (wrap64 ((wrap64 (a2 + a3)) - a4)) 2)) + (wrap64 (Int.tdiv (wrap64 ((wrap64 (a3 + a4)) - a2)) 2)))) - 1))).bind fun t184 => ((spec_l01Inverse.f k a0 (Int.tmod (wrap64 ((Int.tmod (wrap64 (t182 * t183)) a0) * t184)) a0)).bind fun t185 => (some (Int.tmod (wrap64 ((Int.tmod (wrap64 ((Int.tmod (wrap64 ((Int.tmod (wrap64 (t178 * t179)) a0) * t180)) a0) * t181)) a0) * t185)) a0, 0)))))))))) = some (r1, r2) := H
   have A10 := Aside0.mk A100
   clear A100
   replace H := Option.bind_eq_some_iff.mp H
   obtain ⟨t179, A110, H⟩ := H
   replace H : (if a0 = 0 then (none) else ((spec_l05Product.f k a0 a1 (wrap64 ((wrap64 (Int.tdiv (wrap64 ((wrap64 (a3 + a4)) - a2)) 2)) - 1))).bind fun t180 => ((spec_l05Product.f k a0 a1 (wrap64 ((wrap64 (Int.tdiv (wrap64 ((wrap64 (a4 + a2)) - a3)) 2)) - 1))).bind fun t181 => ((spec_l05Product.f k a0 a1 (wrap64 ((wrap64 ((wrap64 (Int.tdiv (wrap64 ((wrap64 (a3 + a4)) - a2)) 2)) + (wrap64 (Int.tdiv (wrap64 ((wrap64 (a4 + a2)) - a3)) 2)))) - 1))).bind fun t182 => ((spec_l05Product.f k a0 a1 (wrap64 ((wrap64 ((wrap64 (Int.tdiv (wrap64 ((wrap64 (a4 + a2)) - a3)) 2)) + (wrap64 (Int.tdiv (wrap64 ((wrap64 (a2 + a3)) - a4)) 2)))) - 1))).bind fun t183 => ((spec_l05Product.f k a0 a1 (wrap64 ((wrap64 ((wrap64 (Int.tdiv (wrap64 ((wrap64 (a2 + a3)) - a4)) 2)) + (wrap64 (Int.tdiv (wrap64 ((wrap64 (a3 + a4)) - a2)) 2)))) - 1))).bind fun t184 => ((spec_l01Inverse.f k a0 (Int.tmod (wrap64 ((Int.tmod (wrap64 (t182 * t183)) a0) * t184)) a0)).bind fun t185 => (some (Int.tmod (wrap64 ((Int.tmod (wrap64 ((Int.tmod (wrap64 ((Int.tmod (wrap64 (t178 * t179)) a0) * t180)) a0) * t181)) a0) * t185)) a0, 0))))))))) = some (r1, r2) := H
   have A11 := Aside0.mk A110
   clear A110
   by_cases c12 : a0 = 0
   ·rw [if_pos c12] at H
    exact absurd H (by simp)
   ·rw [if_neg c12] at H
    have c12b0 : (a0 == 0) = false := beq_eq_false_iff_ne.mpr c12
    have c12b1 : (a0 != 0) = true := bne_iff_ne.mpr c12
    replace H := Option.bind_eq_some_iff.mp H
    obtain ⟨t180, A130, H⟩ := H
    replace H : ((spec_l05Product.f k a0 a1 (wrap64 ((wrap64 (Int.tdiv (wrap64 ((wrap64 (a4 + a2)) - a3)) 2)) - 1))).bind fun t181 => ((spec_l05Product.f k a0 a1 (wrap64 ((wrap64 ((wrap64 (Int.tdiv (wrap64 ((wrap64 (a3 + a4)) - a2)) 2)) + (wrap64 (Int.tdiv (wrap64 ((wrap64 (a4 + a2)) - a3)) 2)))) - 1))).bind fun t182 => ((spec_l05Product.f k a0 a1 (wrap64 ((wrap64 ((wrap64 (Int.tdiv (wrap64 ((wrap64 (a4 + a2)) - a3)) 2)) + (wrap64 (Int.tdiv (wrap64 ((wrap64 (a2 + a3)) - a4)) 2)))) - 1))).bind fun t183 => ((spec_l05Product.f k a0 a1 (wrap64 ((wrap64 ((wrap64 (Int.tdiv (wrap64 ((wrap64 (a2 + a3)) - a4)) 2)) + (wrap64 (Int.tdiv (wrap64 ((wrap64 (a3 + a4)) - a2)) 2)))) - 1))).bind fun t184 => ((spec_l01Inverse.f k a0 (Int.tmod (wrap64 ((Int.tmod (wrap64 (t182 * t183)) a0) * t184)) a0)).bind fun t185 => (some (Int.tmod (wrap64 ((Int.tmod (wrap64 ((Int.tmod (wrap64 ((Int.tmod (wrap64 (t178 * t179)) a0) * t180)) a0) * t181)) a0) * t185)) a0, 0))))))) = some (r1, r2) := H
    have A13 := Aside0.mk A130
    clear A130
    replace H := Option.bind_eq_some_iff.mp H
    obtain ⟨t181, A140, H⟩ := H
    replace H : ((spec_l05Product.f k a0 a1 (wrap64 ((wrap64 ((wrap64 (Int.tdiv (wrap64 ((wrap64 (a3 + a4)) - a2)) 2)) + (wrap64 (Int.tdiv (wrap64 ((wrap64 (a4 + a2)) - a3)) 2)))) - 1))).bind fun t182 => ((spec_l05Product.f k a0 a1 (wrap64 ((wrap64 ((wrap64 (Int.tdiv (wrap64 ((wrap64 (a4 + a2)) - a3)) 2)) + (wrap64 (Int.tdiv (wrap64 ((wrap64 (a2 + a3)) - a4)) 2)))) - 1))).bind fun t183 => ((spec_l05Product.f k a0 a1 (wrap64 ((wrap64 ((wrap64 (Int.tdiv (wrap64 ((wrap64 (a2 + a3)) - a4)) 2)) + (wrap64 (Int.tdiv (wrap64 ((wrap64 (a3 + a4)) - a2)) 2)))) - 1))).bind fun t184 => ((spec_l01Inverse.f k a0 (Int.tmod (wrap64 ((Int.tmod (wrap64 (t182 * t183)) a0) * t184)) a0)).bind fun t185 => (some (Int.tmod (wrap64 ((Int.tmod (wrap64 ((Int.tmod (wrap64 ((Int.tmod (wrap64 (t178 * t179)) a0) * t180)) a0) * t181)) a0) * t185)) a0, 0)))))) = some (r1, r2) := H
    have A14 := Aside0.mk A140
    clear A140
    replace H := Option.bind_eq_some_iff.mp H
    obtain ⟨t182, A150, H⟩ := H
    replace H : ((spec_l05Product.f k a0 a1 (wrap64 ((wrap64 ((wrap64 (Int.tdiv (wrap64 ((wrap64 (a4 + a2)) - a3)) 2)) + (wrap64 (Int.tdiv (wrap64 ((wrap64 (a2 + a3)) - a4)) 2)))) - 1))).bind fun t183 => ((spec_l05Product.f k a0 a1 (wrap64 ((wrap64 ((wrap64 (Int.tdiv (wrap64 ((wrap64 (a2 + a3)) - a4)) 2)) + (wrap64 (Int.tdiv (wrap64 ((wrap64 (a3 + a4)) - a2)) 2)))) - 1))).bind fun t184 => ((spec_l01Inverse.f k a0 (Int.tmod (wrap64 ((Int.tmod (wrap64 (t182 * t183)) a0) * t184)) a0)).bind fun t185 => (some (Int.tmod (wrap64 ((Int.tmod (wrap64 ((Int.tmod (wrap64 ((Int.tmod (wrap64 (t178 * t179)) a0) * t180)) a0) * t181)) a0) * t185)) a0, 0))))) = some (r1, r2) := H
    have A15 := Aside0.mk A150
    clear A150
    replace H := Option.bind_eq_some_iff.mp H
    obtain ⟨t183, A160, H⟩ := H
    replace H : ((spec_l05Product.f k a0 a1 (wrap64 ((wrap64 ((wrap64 (Int.tdiv (wrap64 ((wrap64 (a2 + a3)) - a4)) 2)) + (wrap64 (Int.tdiv (wrap64 ((wrap64 (a3 + a4)) - a2)) 2)))) - 1))).bind fun t184 => ((spec_l01Inverse.f k a0 (Int.tmod (wrap64 ((Int.tmod (wrap64 (t182 * t183)) a0) * t184)) a0)).bind fun t185 => (some (Int.tmod (wrap64 ((Int.tmod (wrap64 ((Int.tmod (wrap64 ((Int.tmod (wrap64 (t178 * t179)) a0) * t180)) a0) * t181)) a0) * t185)) a0, 0)))) = some (r1, r2) := H
    have A16 := Aside0.mk A160
    clear A160
    replace H := Option.bind_eq_some_iff.mp H
    obtain ⟨t184, A170, H⟩ := H
    replace H : ((spec_l01Inverse.f k a0 (Int.tmod (wrap64 ((Int.tmod (wrap64 (t182 * t183)) a0) * t184)) a0)).bind fun t185 => (some (Int.tmod (wrap64 ((Int.tmod (wrap64 ((Int.tmod (wrap64 ((Int.tmod (wrap64 (t178 * t179)) a0) * t180)) a0) * t181)) a0) * t185)) a0, 0))) = some (r1, r2) := H
    have A17 := Aside0.mk A170
    clear A170
    replace H := Option.bind_eq_some_iff.mp H
    obtain ⟨t185, A180, H⟩ := H
    replace H : (some (Int.tmod (wrap64 ((Int.tmod (wrap64 ((Int.tmod (wrap64 ((Int.tmod (wrap64 (t178 * t179)) a0) * t180)) a0) * t181)) a0) * t185)) a0, 0)) = some (r1, r2) := H
    have A18 := Aside0.mk A180
    clear A180
    simp only [Option.some.injEq, Prod.mk.injEq] at H
    obtain ⟨rfl, rfl⟩ := H
    go_enter Try.func20, Try.ntmps20
    try go_wp2_with (first | ((with_reducible refine gate_dst (N := 25) rfl ?_); refine Kd.R_lit (Kd.int .i64) _ 2 ?hg (N := 25) ?hd (xs := ([a2, a3, a4] : List Int)) (inner := [.int .i64 a2, .int .i64 a3, .int .i64 a4]) (ok := fun _ => True) (okp := fun _ => True) ?hr ?hp (fun _ hk => hk) trivial (Below.refl _ _) (Nat.le_refl _) (by simp) ?_; (case hd => rfl); (case hg => rfl); (case hr => first | (go_simp; done) | (go_simp; rfl)); (case hp => exact (Reps.one (show Kd.M (Kd.int .i64) _ _ _ a2 [.int .i64 a2] from rfl) (Reps.one (show Kd.M (Kd.int .i64) _ _ _ a3 [.int .i64 a3] from rfl) (Reps.one (show Kd.M (Kd.int .i64) _ _ _ a4 [.int .i64 a4] from rfl) (Reps.none _ _))))); intro v173 w19 ho20 hb hg_ hnew_; clear hg_ hnew_; (first | rw [← Ny172.out] at ho20 | (simp only [Int.reduceToNat] at ho20; rw [← Ny172.out] at ho20)); have n0_ := Aside0.mk (Kd.R_lower ho20 (below_size (by repeat (first | (with_reducible first | exact HB.out | apply below_alloc | apply pw_below_drewN | apply below_drew1) | exact HB.out)))); have n1_ := Aside0.mk (below_step (by repeat (first | (with_reducible first | exact HB.out | apply below_alloc | apply pw_below_drewN | apply below_drew1) | exact HB.out)) hb); clear HB; have HO174 := n0_; have HB := n1_; clear n0_ n1_; clear hb ho20; obtain ⟨Ao21, co21, eo21⟩ := Kd.R_slice HO174.out; subst eo21) | ((with_reducible refine gate_callee (f := 40) rfl ?_); refine goesL_ (some 26) rfl rfl Try.func40 (by kernel_rfl) rfl #[.int .i64 a0, .int .i64 a1, .slice Ao21 y172.length co21] rfl (by (try simp only [List.map_toArray, List.map_cons, List.map_nil]); first | done | rfl | (simp only [List.length_drop, List.length_take]; rfl)) ?_; (with_reducible refine (spec_l05Labels.calls k a0 a1 _ _ y172 t175 t176 _ ?side1 ?side2 A6.out).mono ?_); (case side1 => repeat (first | exact (Kd.R_reads' HO174.out).2.2 | (with_reducible refine Kd.C_alloc ?_ _) | (with_reducible refine Kd.C_drewN ?_ _) | (with_reducible refine Kd.C_drew ?_))); (case side2 => exact (Kd.R_reads' HO174.out).2.1); rintro e w' ⟨rfl, ⟨nd, rfl⟩⟩; refine ⟨_, rfl, ?_⟩) | ((with_reducible refine gate_callee (f := 41) rfl ?_); refine goesL_ (some 38) rfl rfl Try.func41 (by kernel_rfl) rfl #[.int .i64 t175, .int .i64 a2, .int .i64 a3, .int .i64 a4] rfl (by (try simp only [List.map_toArray, List.map_cons, List.map_nil]); first | done | rfl | (simp only [List.length_drop, List.length_take]; rfl)) ?_; (with_reducible refine (spec_l05Admissible.calls t175 a2 a3 a4 true _ A8.out).mono ?_); rintro e w' ⟨rfl, ⟨nd, rfl⟩⟩; refine ⟨_, rfl, ?_⟩))
    (try (rw [drewN_self w19]; generalize hq_ : World.drewN w19 _ = w19; have n0_ : Aside0 (Kd.R (Kd.int .i64) 2 w19 w.heap.size (fun _ => True) (.slice Ao21 y172.length co21) y172) := ⟨by rw [← hq_]; exact (by (with_reducible repeat (first | apply Kd.R_alloc | apply Kd.R_drewN | apply Kd.R_drew)); exact HO174.out)⟩; have n1_ : Aside0 (Below w.heap.size w w19) := ⟨by rw [← hq_]; exact (by repeat (first | (with_reducible first | exact HB.out | apply below_alloc | apply pw_below_drewN | apply below_drew1) | exact HB.out))⟩; clear HO174 HB hq_; have HO174 := n0_; have HB := n1_; clear n0_ n1_))
    have n0_ := Aside0.mk (Kd.R_drew HO174.out)
    have n1_ := Aside0.mk (below_drew1 HB.out)
    clear HO174
    clear HB
    have HO174 := n0_
    have HB := n1_
    clear n0_ n1_
    refine start_ (n := 33) (S := fun w' => True) (ds := []) #[false, false, false, false, false, false, false, false, false, false, false, false, false, false, false, false, false, false, false, false, false, false, false, false, false, false, false, false, false, false, false, false, false] (by kernel_rfl) rfl rfl trivial (fun hHeld => ?_); refine with_tabW spec_ThetaNumber.tab7 spec_ThetaNumber.bits7 (fun HT_ HW_ => ?_)
    generalize w19.drew = w22 at HO174 HB hHeld ⊢
    refine pure_ (i := 0) (N := some 58) (v := ?_) (a' := ?_) #[true, false, false, false, false, false, false, false, false, false, false, false, false, false, false, false, false, false, false, false, false, false, false, false, false, false, false, false, false, false, false, false, false] rfl rfl (any_of HT_.out (by kernel_rfl)) (fun _ _ _ h => h) (Or.inl ⟨by rfl, ?_⟩) ?_ ?_
    rotate_left
    ·intro w'
     go_simp
     with_reducible rfl
    rotate_left
    ·simp only [Act.put, List.setIfInBounds_toArray, List.set_cons_zero, List.set_cons_succ, i64_w, i32_w]
     rfl
    refine pure_ (i := 1) (N := some 59) (v := ?_) (a' := ?_) #[true, true, false, false, false, false, false, false, false, false, false, false, false, false, false, false, false, false, false, false, false, false, false, false, false, false, false, false, false, false, false, false, false] rfl rfl (any_of HT_.out (by kernel_rfl)) (fun _ _ _ h => h) (Or.inl ⟨by rfl, ?_⟩) ?_ ?_
    rotate_left
    ·intro w'
     go_simp
     with_reducible rfl
    rotate_left
    ·simp only [Act.put, List.setIfInBounds_toArray, List.set_cons_zero, List.set_cons_succ, i64_w, i32_w]
     rfl
    refine pure_ (i := 2) (N := some 60) (v := ?_) (a' := ?_) #[true, true, true, false, false, false, false, false, false, false, false, false, false, false, false, false, false, false, false, false, false, false, false, false, false, false, false, false, false, false, false, false, false] rfl rfl (any_of HT_.out (by kernel_rfl)) (fun _ _ _ h => h) (Or.inl ⟨by rfl, ?_⟩) ?_ ?_
    rotate_left
    ·intro w'
     go_simp
     with_reducible rfl
    rotate_left
    ·simp only [Act.put, List.setIfInBounds_toArray, List.set_cons_zero, List.set_cons_succ, i64_w, i32_w]
     rfl
    refine pure_ (i := 3) (N := some 61) (v := ?_) (a' := ?_) #[true, true, true, true, false, false, false, false, false, false, false, false, false, false, false, false, false, false, false, false, false, false, false, false, false, false, false, false, false, false, false, false, false] rfl rfl (any_of HT_.out (by kernel_rfl)) (fun _ _ _ h => h) (Or.inl ⟨by rfl, ?_⟩) ?_ ?_
    rotate_left
    ·intro w'
     go_simp
     with_reducible rfl
    rotate_left
    ·simp only [Act.put, List.setIfInBounds_toArray, List.set_cons_zero, List.set_cons_succ, i64_w, i32_w]
     rfl
    refine pure_ (i := 4) (N := some 62) (v := ?_) (a' := ?_) #[true, true, true, true, true, false, false, false, false, false, false, false, false, false, false, false, false, false, false, false, false, false, false, false, false, false, false, false, false, false, false, false, false] rfl rfl (any_of HT_.out (by kernel_rfl)) (fun _ _ _ h => h) (Or.inl ⟨by rfl, ?_⟩) ?_ ?_
    rotate_left
    ·intro w'
     go_simp
     with_reducible rfl
    rotate_left
    ·simp only [Act.put, List.setIfInBounds_toArray, List.set_cons_zero, List.set_cons_succ, i64_w, i32_w]
     rfl
    refine pure_ (i := 5) (N := some 63) (v := ?_) (a' := ?_) #[true, true, true, true, true, true, false, false, false, false, false, false, false, false, false, false, false, false, false, false, false, false, false, false, false, false, false, false, false, false, false, false, false] rfl rfl (any_of HT_.out (by kernel_rfl)) (fun _ _ _ h => h) (Or.inl ⟨by rfl, ?_⟩) ?_ ?_
    rotate_left
    ·intro w'
     go_simp
     with_reducible rfl
    rotate_left
    ·simp only [Act.put, List.setIfInBounds_toArray, List.set_cons_zero, List.set_cons_succ, i64_w, i32_w]
     rfl
    refine pure_ (i := 6) (N := some 64) (v := ?_) (a' := ?_) #[true, true, true, true, true, true, true, false, false, false, false, false, false, false, false, false, false, false, false, false, false, false, false, false, false, false, false, false, false, false, false, false, false] rfl rfl (any_of HT_.out (by kernel_rfl)) (fun _ _ _ h => h) (Or.inl ⟨by rfl, ?_⟩) ?_ ?_
    rotate_left
    ·intro w'
     go_simp
     with_reducible rfl
    rotate_left
    ·simp only [Act.put, List.setIfInBounds_toArray, List.set_cons_zero, List.set_cons_succ, i64_w, i32_w]
     rfl
    refine pure_ (i := 8) (N := some 66) (v := ?_) (a' := ?_) #[true, true, true, true, true, true, true, false, true, false, false, false, false, false, false, false, false, false, false, false, false, false, false, false, false, false, false, false, false, false, false, false, false] rfl rfl (any_of HT_.out (by kernel_rfl)) (fun _ _ _ h => h) (Or.inl ⟨by rfl, ?_⟩) ?_ ?_
    rotate_left
    ·intro w'
     go_simp
     with_reducible rfl
    rotate_left
    ·simp only [Act.put, List.setIfInBounds_toArray, List.set_cons_zero, List.set_cons_succ, i64_w, i32_w]
     rfl
    refine pure_ (i := 9) (N := some 67) (v := ?_) (a' := ?_) #[true, true, true, true, true, true, true, false, true, true, false, false, false, false, false, false, false, false, false, false, false, false, false, false, false, false, false, false, false, false, false, false, false] rfl rfl (any_of HT_.out (by kernel_rfl)) (fun _ _ _ h => h) (Or.inl ⟨by rfl, ?_⟩) ?_ ?_
    rotate_left
    ·intro w'
     go_simp
     with_reducible rfl
    rotate_left
    ·simp only [Act.put, List.setIfInBounds_toArray, List.set_cons_zero, List.set_cons_succ, i64_w, i32_w]
     rfl
    refine pure_ (i := 10) (N := some 68) (v := ?_) (a' := ?_) #[true, true, true, true, true, true, true, false, true, true, true, false, false, false, false, false, false, false, false, false, false, false, false, false, false, false, false, false, false, false, false, false, false] rfl rfl (any_of HT_.out (by kernel_rfl)) (fun _ _ _ h => h) (Or.inl ⟨by rfl, ?_⟩) ?_ ?_
    rotate_left
    ·intro w'
     go_simp
     with_reducible rfl
    rotate_left
    ·simp only [Act.put, List.setIfInBounds_toArray, List.set_cons_zero, List.set_cons_succ, i64_w, i32_w]
     rfl
    refine pure_ (i := 11) (N := some 69) (v := ?_) (a' := ?_) #[true, true, true, true, true, true, true, false, true, true, true, true, false, false, false, false, false, false, false, false, false, false, false, false, false, false, false, false, false, false, false, false, false] rfl rfl (any_of HT_.out (by kernel_rfl)) (fun _ _ _ h => h) (Or.inl ⟨by rfl, ?_⟩) ?_ ?_
    rotate_left
    ·intro w'
     go_simp
     with_reducible rfl
    rotate_left
    ·simp only [Act.put, List.setIfInBounds_toArray, List.set_cons_zero, List.set_cons_succ, i64_w, i32_w]
     rfl
    refine pure_ (i := 14) (N := some 72) (v := ?_) (a' := ?_) #[true, true, true, true, true, true, true, false, true, true, true, true, false, false, true, false, false, false, false, false, false, false, false, false, false, false, false, false, false, false, false, false, false] rfl rfl (any_of HT_.out (by kernel_rfl)) (fun _ _ _ h => h) (Or.inl ⟨by rfl, ?_⟩) ?_ ?_
    rotate_left
    ·intro w'
     go_simp
     with_reducible rfl
    rotate_left
    ·simp only [Act.put, List.setIfInBounds_toArray, List.set_cons_zero, List.set_cons_succ, i64_w, i32_w]
     rfl
    refine pure_ (i := 16) (N := some 74) (v := ?_) (a' := ?_) #[true, true, true, true, true, true, true, false, true, true, true, true, false, false, true, false, true, false, false, false, false, false, false, false, false, false, false, false, false, false, false, false, false] rfl rfl (any_of HT_.out (by kernel_rfl)) (fun _ _ _ h => h) (Or.inl ⟨by rfl, ?_⟩) ?_ ?_
    rotate_left
    ·intro w'
     go_simp
     with_reducible rfl
    rotate_left
    ·simp only [Act.put, List.setIfInBounds_toArray, List.set_cons_zero, List.set_cons_succ, i64_w, i32_w]
     rfl
    refine pure_ (i := 17) (N := some 75) (v := ?_) (a' := ?_) #[true, true, true, true, true, true, true, false, true, true, true, true, false, false, true, false, true, true, false, false, false, false, false, false, false, false, false, false, false, false, false, false, false] rfl rfl (any_of HT_.out (by kernel_rfl)) (fun _ _ _ h => h) (Or.inl ⟨by rfl, ?_⟩) ?_ ?_
    rotate_left
    ·intro w'
     go_simp
     with_reducible rfl
    rotate_left
    ·simp only [Act.put, List.setIfInBounds_toArray, List.set_cons_zero, List.set_cons_succ, i64_w, i32_w]
     rfl
    refine pure_ (i := 18) (N := some 76) (v := ?_) (a' := ?_) #[true, true, true, true, true, true, true, false, true, true, true, true, false, false, true, false, true, true, true, false, false, false, false, false, false, false, false, false, false, false, false, false, false] rfl rfl (any_of HT_.out (by kernel_rfl)) (fun _ _ _ h => h) (Or.inl ⟨by rfl, ?_⟩) ?_ ?_
    rotate_left
    ·intro w'
     go_simp
     with_reducible rfl
    rotate_left
    ·simp only [Act.put, List.setIfInBounds_toArray, List.set_cons_zero, List.set_cons_succ, i64_w, i32_w]
     rfl
    refine pure_ (i := 19) (N := some 77) (v := ?_) (a' := ?_) #[true, true, true, true, true, true, true, false, true, true, true, true, false, false, true, false, true, true, true, true, false, false, false, false, false, false, false, false, false, false, false, false, false] rfl rfl (any_of HT_.out (by kernel_rfl)) (fun _ _ _ h => h) (Or.inl ⟨by rfl, ?_⟩) ?_ ?_
    rotate_left
    ·intro w'
     go_simp
     with_reducible rfl
    rotate_left
    ·simp only [Act.put, List.setIfInBounds_toArray, List.set_cons_zero, List.set_cons_succ, i64_w, i32_w]
     rfl
    refine pure_ (i := 22) (N := some 80) (v := ?_) (a' := ?_) #[true, true, true, true, true, true, true, false, true, true, true, true, false, false, true, false, true, true, true, true, false, false, true, false, false, false, false, false, false, false, false, false, false] rfl rfl (any_of HT_.out (by kernel_rfl)) (fun _ _ _ h => h) (Or.inl ⟨by rfl, ?_⟩) ?_ ?_
    rotate_left
    ·intro w'
     go_simp
     with_reducible rfl
    rotate_left
    ·simp only [Act.put, List.setIfInBounds_toArray, List.set_cons_zero, List.set_cons_succ, i64_w, i32_w]
     rfl
    refine pure_ (i := 24) (N := some 82) (v := ?_) (a' := ?_) #[true, true, true, true, true, true, true, false, true, true, true, true, false, false, true, false, true, true, true, true, false, false, true, false, true, false, false, false, false, false, false, false, false] rfl rfl (any_of HT_.out (by kernel_rfl)) (fun _ _ _ h => h) (Or.inl ⟨by rfl, ?_⟩) ?_ ?_
    rotate_left
    ·intro w'
     go_simp
     with_reducible rfl
    rotate_left
    ·simp only [Act.put, List.setIfInBounds_toArray, List.set_cons_zero, List.set_cons_succ, i64_w, i32_w]
     rfl
    refine pure_ (i := 25) (N := some 83) (v := ?_) (a' := ?_) #[true, true, true, true, true, true, true, false, true, true, true, true, false, false, true, false, true, true, true, true, false, false, true, false, true, true, false, false, false, false, false, false, false] rfl rfl (any_of HT_.out (by kernel_rfl)) (fun _ _ _ h => h) (Or.inl ⟨by rfl, ?_⟩) ?_ ?_
    rotate_left
    ·intro w'
     go_simp
     with_reducible rfl
    rotate_left
    ·simp only [Act.put, List.setIfInBounds_toArray, List.set_cons_zero, List.set_cons_succ, i64_w, i32_w]
     rfl
    refine pure_ (i := 26) (N := some 84) (v := ?_) (a' := ?_) #[true, true, true, true, true, true, true, false, true, true, true, true, false, false, true, false, true, true, true, true, false, false, true, false, true, true, true, false, false, false, false, false, false] rfl rfl (any_of HT_.out (by kernel_rfl)) (fun _ _ _ h => h) (Or.inl ⟨by rfl, ?_⟩) ?_ ?_
    rotate_left
    ·intro w'
     go_simp
     with_reducible rfl
    rotate_left
    ·simp only [Act.put, List.setIfInBounds_toArray, List.set_cons_zero, List.set_cons_succ, i64_w, i32_w]
     rfl
    refine pure_ (i := 27) (N := some 85) (v := ?_) (a' := ?_) #[true, true, true, true, true, true, true, false, true, true, true, true, false, false, true, false, true, true, true, true, false, false, true, false, true, true, true, true, false, false, false, false, false] rfl rfl (any_of HT_.out (by kernel_rfl)) (fun _ _ _ h => h) (Or.inl ⟨by rfl, ?_⟩) ?_ ?_
    rotate_left
    ·intro w'
     go_simp
     with_reducible rfl
    rotate_left
    ·simp only [Act.put, List.setIfInBounds_toArray, List.set_cons_zero, List.set_cons_succ, i64_w, i32_w]
     rfl
    refine pure_ (i := 30) (N := some 88) (v := ?_) (a' := ?_) #[true, true, true, true, true, true, true, false, true, true, true, true, false, false, true, false, true, true, true, true, false, false, true, false, true, true, true, true, false, false, true, false, false] rfl rfl (any_of HT_.out (by kernel_rfl)) (fun _ _ _ h => h) (Or.inl ⟨by rfl, ?_⟩) ?_ ?_
    rotate_left
    ·intro w'
     go_simp
     with_reducible rfl
    rotate_left
    ·simp only [Act.put, List.setIfInBounds_toArray, List.set_cons_zero, List.set_cons_succ, i64_w, i32_w]
     rfl
    refine one_ (i := 7) (N := some 65) #[true, true, true, true, true, true, true, true, true, true, true, true, false, false, true, false, true, true, true, true, false, false, true, false, true, true, true, true, false, false, true, false, false] rfl rfl (one_of HT_.out (by kernel_rfl)) (by decide) (fun K hK => ?_)
    refine goes_ Try.func44 (by kernel_rfl) rfl #[.int .i64 a0, .int .i64 a1, .int .i64 (wrap64 ((wrap64 ((wrap64 (Int.tdiv (wrap64 ((wrap64 (a2 + a3)) - a4)) 2)) + (wrap64 (Int.tdiv (wrap64 ((wrap64 (a3 + a4)) - a2)) 2)))) + (wrap64 (Int.tdiv (wrap64 ((wrap64 (a4 + a2)) - a3)) 2))))] (by rfl) rfl rfl (by (try simp only [List.map_toArray, List.map_cons, List.map_nil]); first | done | rfl | (simp only [List.length_drop, List.length_take]; rfl)) ?_
    with_reducible refine (spec_l05Product.calls k a0 a1 (wrap64 ((wrap64 ((wrap64 (Int.tdiv (wrap64 ((wrap64 (a2 + a3)) - a4)) 2)) + (wrap64 (Int.tdiv (wrap64 ((wrap64 (a3 + a4)) - a2)) 2)))) + (wrap64 (Int.tdiv (wrap64 ((wrap64 (a4 + a2)) - a3)) 2)))) t178 _ A10.out).mono ?_
    rintro e w' ⟨rfl, ⟨nd, rfl⟩⟩
    refine ⟨_, rfl, ?_⟩
    refine hK.out _ _ trivial (fun hHeld => ?_)
    clear hK K
    refine norm_ (a' := ?_) ?_ ?_
    rotate_left
    ·show Act.put _ (some 65) _ = _
     simp only [Act.put, List.setIfInBounds_toArray, List.set_cons_zero, List.set_cons_succ, i64_w, i32_w]
     rfl
    refine one_ (i := 12) (N := some 70) #[true, true, true, true, true, true, true, true, true, true, true, true, true, false, true, false, true, true, true, true, false, false, true, false, true, true, true, true, false, false, true, false, false] rfl rfl (one_of HT_.out (by kernel_rfl)) (by decide) (fun K hK => ?_)
    refine goes_ Try.func44 (by kernel_rfl) rfl #[.int .i64 a0, .int .i64 a1, .int .i64 (wrap64 ((wrap64 (Int.tdiv (wrap64 ((wrap64 (a2 + a3)) - a4)) 2)) - 1))] (by rfl) rfl rfl (by (try simp only [List.map_toArray, List.map_cons, List.map_nil]); first | done | rfl | (simp only [List.length_drop, List.length_take]; rfl)) ?_
    with_reducible refine (spec_l05Product.calls k a0 a1 (wrap64 ((wrap64 (Int.tdiv (wrap64 ((wrap64 (a2 + a3)) - a4)) 2)) - 1)) t179 _ A11.out).mono ?_
    rintro e w' ⟨rfl, ⟨nd, rfl⟩⟩
    refine ⟨_, rfl, ?_⟩
    refine hK.out _ _ trivial (fun hHeld => ?_)
    clear hK K
    refine norm_ (a' := ?_) ?_ ?_
    rotate_left
    ·show Act.put _ (some 70) _ = _
     simp only [Act.put, List.setIfInBounds_toArray, List.set_cons_zero, List.set_cons_succ, i64_w, i32_w]
     rfl
    refine pure_ (i := 13) (N := some 71) (v := ?_) (a' := ?_) #[true, true, true, true, true, true, true, true, true, true, true, true, true, true, true, false, true, true, true, true, false, false, true, false, true, true, true, true, false, false, true, false, false] rfl rfl (any_of HT_.out (by kernel_rfl)) (fun _ _ _ h => h) (Or.inl ⟨by rfl, ?_⟩) ?_ ?_
    rotate_left
    ·intro w'
     go_simp
     with_reducible rfl
    rotate_left
    ·simp only [Act.put, List.setIfInBounds_toArray, List.set_cons_zero, List.set_cons_succ, i64_w, i32_w]
     rfl
    refine pure_ (i := 15) (N := some 73) (v := ?_) (a' := ?_) #[true, true, true, true, true, true, true, true, true, true, true, true, true, true, true, true, true, true, true, true, false, false, true, false, true, true, true, true, false, false, true, false, false] rfl rfl (any_of HT_.out (by kernel_rfl)) (fun _ _ _ h => h) (Or.inl ⟨by rfl, ?_⟩) ?_ ?_
    rotate_left
    ·intro w'
     go_simp
     with_reducible rfl
    rotate_left
    ·simp only [Act.put, List.setIfInBounds_toArray, List.set_cons_zero, List.set_cons_succ, i64_w, i32_w]
     rfl
    refine one_ (i := 20) (N := some 78) #[true, true, true, true, true, true, true, true, true, true, true, true, true, true, true, true, true, true, true, true, true, false, true, false, true, true, true, true, false, false, true, false, false] rfl rfl (one_of HT_.out (by kernel_rfl)) (by decide) (fun K hK => ?_)
    refine goes_ Try.func44 (by kernel_rfl) rfl #[.int .i64 a0, .int .i64 a1, .int .i64 (wrap64 ((wrap64 (Int.tdiv (wrap64 ((wrap64 (a3 + a4)) - a2)) 2)) - 1))] (by rfl) rfl rfl (by (try simp only [List.map_toArray, List.map_cons, List.map_nil]); first | done | rfl | (simp only [List.length_drop, List.length_take]; rfl)) ?_
    with_reducible refine (spec_l05Product.calls k a0 a1 (wrap64 ((wrap64 (Int.tdiv (wrap64 ((wrap64 (a3 + a4)) - a2)) 2)) - 1)) t180 _ A13.out).mono ?_
    rintro e w' ⟨rfl, ⟨nd, rfl⟩⟩
    refine ⟨_, rfl, ?_⟩
    refine hK.out _ _ trivial (fun hHeld => ?_)
    clear hK K
    refine norm_ (a' := ?_) ?_ ?_
    rotate_left
    ·show Act.put _ (some 78) _ = _
     simp only [Act.put, List.setIfInBounds_toArray, List.set_cons_zero, List.set_cons_succ, i64_w, i32_w]
     rfl
    refine pure_ (i := 21) (N := some 79) (v := ?_) (a' := ?_) #[true, true, true, true, true, true, true, true, true, true, true, true, true, true, true, true, true, true, true, true, true, true, true, false, true, true, true, true, false, false, true, false, false] rfl rfl (any_of HT_.out (by kernel_rfl)) (fun _ _ _ h => h) (Or.inl ⟨by rfl, ?_⟩) ?_ ?_
    rotate_left
    ·intro w'
     go_simp
     with_reducible rfl
    rotate_left
    ·simp only [Act.put, List.setIfInBounds_toArray, List.set_cons_zero, List.set_cons_succ, i64_w, i32_w]
     rfl
    refine pure_ (i := 23) (N := some 81) (v := ?_) (a' := ?_) #[true, true, true, true, true, true, true, true, true, true, true, true, true, true, true, true, true, true, true, true, true, true, true, true, true, true, true, true, false, false, true, false, false] rfl rfl (any_of HT_.out (by kernel_rfl)) (fun _ _ _ h => h) (Or.inl ⟨by rfl, ?_⟩) ?_ ?_
    rotate_left
    ·intro w'
     go_simp
     with_reducible rfl
    rotate_left
    ·simp only [Act.put, List.setIfInBounds_toArray, List.set_cons_zero, List.set_cons_succ, i64_w, i32_w]
     rfl
    refine one_ (i := 28) (N := some 86) #[true, true, true, true, true, true, true, true, true, true, true, true, true, true, true, true, true, true, true, true, true, true, true, true, true, true, true, true, true, false, true, false, false] rfl rfl (one_of HT_.out (by kernel_rfl)) (by decide) (fun K hK => ?_)
    refine goes_ Try.func44 (by kernel_rfl) rfl #[.int .i64 a0, .int .i64 a1, .int .i64 (wrap64 ((wrap64 (Int.tdiv (wrap64 ((wrap64 (a4 + a2)) - a3)) 2)) - 1))] (by rfl) rfl rfl (by (try simp only [List.map_toArray, List.map_cons, List.map_nil]); first | done | rfl | (simp only [List.length_drop, List.length_take]; rfl)) ?_
    with_reducible refine (spec_l05Product.calls k a0 a1 (wrap64 ((wrap64 (Int.tdiv (wrap64 ((wrap64 (a4 + a2)) - a3)) 2)) - 1)) t181 _ A14.out).mono ?_
    rintro e w' ⟨rfl, ⟨nd, rfl⟩⟩
    refine ⟨_, rfl, ?_⟩
    refine hK.out _ _ trivial (fun hHeld => ?_)
    clear hK K
    refine norm_ (a' := ?_) ?_ ?_
    rotate_left
    ·show Act.put _ (some 86) _ = _
     simp only [Act.put, List.setIfInBounds_toArray, List.set_cons_zero, List.set_cons_succ, i64_w, i32_w]
     rfl
    refine pure_ (i := 29) (N := some 87) (v := ?_) (a' := ?_) #[true, true, true, true, true, true, true, true, true, true, true, true, true, true, true, true, true, true, true, true, true, true, true, true, true, true, true, true, true, true, true, false, false] rfl rfl (any_of HT_.out (by kernel_rfl)) (fun _ _ _ h => h) (Or.inl ⟨by rfl, ?_⟩) ?_ ?_
    rotate_left
    ·intro w'
     go_simp
     with_reducible rfl
    rotate_left
    ·simp only [Act.put, List.setIfInBounds_toArray, List.set_cons_zero, List.set_cons_succ, i64_w, i32_w]
     rfl
    refine pure_ (i := 31) (N := some 89) (v := ?_) (a' := ?_) #[true, true, true, true, true, true, true, true, true, true, true, true, true, true, true, true, true, true, true, true, true, true, true, true, true, true, true, true, true, true, true, true, false] rfl rfl (any_of HT_.out (by kernel_rfl)) (fun _ _ _ h => h) (Or.inl ⟨by rfl, ?_⟩) ?_ ?_
    rotate_left
    ·intro w'
     go_simp
     with_reducible rfl
    rotate_left
    ·simp only [Act.put, List.setIfInBounds_toArray, List.set_cons_zero, List.set_cons_succ, i64_w, i32_w]
     rfl
    refine pure_ (i := 32) (N := some 17) (v := ?_) (a' := ?_) #[true, true, true, true, true, true, true, true, true, true, true, true, true, true, true, true, true, true, true, true, true, true, true, true, true, true, true, true, true, true, true, true, true] rfl rfl (any_of HT_.out (by kernel_rfl)) (fun _ _ _ h => h) (Or.inl ⟨by rfl, ?_⟩) ?_ ?_
    rotate_left
    ·intro w'
     go_simp
     with_reducible rfl
    rotate_left
    ·simp only [Act.put, List.setIfInBounds_toArray, List.set_cons_zero, List.set_cons_succ, i64_w, i32_w]
     rfl
    refine done_ (done_of HT_.out (by kernel_rfl)) ?_
    try go_wp2
    (try (simp only [World.drewN_drewN]; generalize hq_ : World.drewN w22 _ = w22; have n0_ : Aside0 (Kd.R (Kd.int .i64) 2 w22 w.heap.size (fun _ => True) (.slice Ao21 y172.length co21) y172) := ⟨by rw [← hq_]; exact (by (with_reducible repeat (first | apply Kd.R_alloc | apply Kd.R_drewN | apply Kd.R_drew)); exact HO174.out)⟩; have n1_ : Aside0 (Below w.heap.size w w22) := ⟨by rw [← hq_]; exact (by repeat (first | (with_reducible first | exact HB.out | apply below_alloc | apply pw_below_drewN | apply below_drew1) | exact HB.out))⟩; clear HO174 HB hq_; have HO174 := n0_; have HB := n1_; clear n0_ n1_))
    have n0_ := Aside0.mk (Kd.R_drew HO174.out)
    have n1_ := Aside0.mk (below_drew1 HB.out)
    clear HO174
    clear HB
    have HO174 := n0_
    have HB := n1_
    clear n0_ n1_
    refine start_ (n := 28) (S := fun w' => True) (ds := []) #[false, false, false, false, false, false, false, false, false, false, false, false, false, false, false, false, false, false, false, false, false, false, false, false, false, false, false, false] (by kernel_rfl) rfl rfl trivial (fun hHeld => ?_); refine with_tabW spec_ThetaNumber.tab8 spec_ThetaNumber.bits8 (fun HT_ HW_ => ?_)
    generalize w22.drew = w23 at HO174 HB hHeld ⊢
    refine pure_ (i := 0) (N := some 90) (v := ?_) (a' := ?_) #[true, false, false, false, false, false, false, false, false, false, false, false, false, false, false, false, false, false, false, false, false, false, false, false, false, false, false, false] rfl rfl (any_of HT_.out (by kernel_rfl)) (fun _ _ _ h => h) (Or.inl ⟨by rfl, ?_⟩) ?_ ?_
    rotate_left
    ·intro w'
     go_simp
     with_reducible rfl
    rotate_left
    ·simp only [Act.put, List.setIfInBounds_toArray, List.set_cons_zero, List.set_cons_succ, i64_w, i32_w]
     rfl
    refine pure_ (i := 1) (N := some 91) (v := ?_) (a' := ?_) #[true, true, false, false, false, false, false, false, false, false, false, false, false, false, false, false, false, false, false, false, false, false, false, false, false, false, false, false] rfl rfl (any_of HT_.out (by kernel_rfl)) (fun _ _ _ h => h) (Or.inl ⟨by rfl, ?_⟩) ?_ ?_
    rotate_left
    ·intro w'
     go_simp
     with_reducible rfl
    rotate_left
    ·simp only [Act.put, List.setIfInBounds_toArray, List.set_cons_zero, List.set_cons_succ, i64_w, i32_w]
     rfl
    refine pure_ (i := 2) (N := some 92) (v := ?_) (a' := ?_) #[true, true, true, false, false, false, false, false, false, false, false, false, false, false, false, false, false, false, false, false, false, false, false, false, false, false, false, false] rfl rfl (any_of HT_.out (by kernel_rfl)) (fun _ _ _ h => h) (Or.inl ⟨by rfl, ?_⟩) ?_ ?_
    rotate_left
    ·intro w'
     go_simp
     with_reducible rfl
    rotate_left
    ·simp only [Act.put, List.setIfInBounds_toArray, List.set_cons_zero, List.set_cons_succ, i64_w, i32_w]
     rfl
    refine pure_ (i := 3) (N := some 93) (v := ?_) (a' := ?_) #[true, true, true, true, false, false, false, false, false, false, false, false, false, false, false, false, false, false, false, false, false, false, false, false, false, false, false, false] rfl rfl (any_of HT_.out (by kernel_rfl)) (fun _ _ _ h => h) (Or.inl ⟨by rfl, ?_⟩) ?_ ?_
    rotate_left
    ·intro w'
     go_simp
     with_reducible rfl
    rotate_left
    ·simp only [Act.put, List.setIfInBounds_toArray, List.set_cons_zero, List.set_cons_succ, i64_w, i32_w]
     rfl
    refine pure_ (i := 4) (N := some 94) (v := ?_) (a' := ?_) #[true, true, true, true, true, false, false, false, false, false, false, false, false, false, false, false, false, false, false, false, false, false, false, false, false, false, false, false] rfl rfl (any_of HT_.out (by kernel_rfl)) (fun _ _ _ h => h) (Or.inl ⟨by rfl, ?_⟩) ?_ ?_
    rotate_left
    ·intro w'
     go_simp
     with_reducible rfl
    rotate_left
    ·simp only [Act.put, List.setIfInBounds_toArray, List.set_cons_zero, List.set_cons_succ, i64_w, i32_w]
     rfl
    refine pure_ (i := 5) (N := some 95) (v := ?_) (a' := ?_) #[true, true, true, true, true, true, false, false, false, false, false, false, false, false, false, false, false, false, false, false, false, false, false, false, false, false, false, false] rfl rfl (any_of HT_.out (by kernel_rfl)) (fun _ _ _ h => h) (Or.inl ⟨by rfl, ?_⟩) ?_ ?_
    rotate_left
    ·intro w'
     go_simp
     with_reducible rfl
    rotate_left
    ·simp only [Act.put, List.setIfInBounds_toArray, List.set_cons_zero, List.set_cons_succ, i64_w, i32_w]
     rfl
    refine pure_ (i := 7) (N := some 97) (v := ?_) (a' := ?_) #[true, true, true, true, true, true, false, true, false, false, false, false, false, false, false, false, false, false, false, false, false, false, false, false, false, false, false, false] rfl rfl (any_of HT_.out (by kernel_rfl)) (fun _ _ _ h => h) (Or.inl ⟨by rfl, ?_⟩) ?_ ?_
    rotate_left
    ·intro w'
     go_simp
     with_reducible rfl
    rotate_left
    ·simp only [Act.put, List.setIfInBounds_toArray, List.set_cons_zero, List.set_cons_succ, i64_w, i32_w]
     rfl
    refine pure_ (i := 8) (N := some 98) (v := ?_) (a' := ?_) #[true, true, true, true, true, true, false, true, true, false, false, false, false, false, false, false, false, false, false, false, false, false, false, false, false, false, false, false] rfl rfl (any_of HT_.out (by kernel_rfl)) (fun _ _ _ h => h) (Or.inl ⟨by rfl, ?_⟩) ?_ ?_
    rotate_left
    ·intro w'
     go_simp
     with_reducible rfl
    rotate_left
    ·simp only [Act.put, List.setIfInBounds_toArray, List.set_cons_zero, List.set_cons_succ, i64_w, i32_w]
     rfl
    refine pure_ (i := 9) (N := some 99) (v := ?_) (a' := ?_) #[true, true, true, true, true, true, false, true, true, true, false, false, false, false, false, false, false, false, false, false, false, false, false, false, false, false, false, false] rfl rfl (any_of HT_.out (by kernel_rfl)) (fun _ _ _ h => h) (Or.inl ⟨by rfl, ?_⟩) ?_ ?_
    rotate_left
    ·intro w'
     go_simp
     with_reducible rfl
    rotate_left
    ·simp only [Act.put, List.setIfInBounds_toArray, List.set_cons_zero, List.set_cons_succ, i64_w, i32_w]
     rfl
    refine pure_ (i := 10) (N := some 100) (v := ?_) (a' := ?_) #[true, true, true, true, true, true, false, true, true, true, true, false, false, false, false, false, false, false, false, false, false, false, false, false, false, false, false, false] rfl rfl (any_of HT_.out (by kernel_rfl)) (fun _ _ _ h => h) (Or.inl ⟨by rfl, ?_⟩) ?_ ?_
    rotate_left
    ·intro w'
     go_simp
     with_reducible rfl
    rotate_left
    ·simp only [Act.put, List.setIfInBounds_toArray, List.set_cons_zero, List.set_cons_succ, i64_w, i32_w]
     rfl
    refine pure_ (i := 11) (N := some 101) (v := ?_) (a' := ?_) #[true, true, true, true, true, true, false, true, true, true, true, true, false, false, false, false, false, false, false, false, false, false, false, false, false, false, false, false] rfl rfl (any_of HT_.out (by kernel_rfl)) (fun _ _ _ h => h) (Or.inl ⟨by rfl, ?_⟩) ?_ ?_
    rotate_left
    ·intro w'
     go_simp
     with_reducible rfl
    rotate_left
    ·simp only [Act.put, List.setIfInBounds_toArray, List.set_cons_zero, List.set_cons_succ, i64_w, i32_w]
     rfl
    refine pure_ (i := 12) (N := some 102) (v := ?_) (a' := ?_) #[true, true, true, true, true, true, false, true, true, true, true, true, true, false, false, false, false, false, false, false, false, false, false, false, false, false, false, false] rfl rfl (any_of HT_.out (by kernel_rfl)) (fun _ _ _ h => h) (Or.inl ⟨by rfl, ?_⟩) ?_ ?_
    rotate_left
    ·intro w'
     go_simp
     with_reducible rfl
    rotate_left
    ·simp only [Act.put, List.setIfInBounds_toArray, List.set_cons_zero, List.set_cons_succ, i64_w, i32_w]
     rfl
    refine pure_ (i := 15) (N := some 105) (v := ?_) (a' := ?_) #[true, true, true, true, true, true, false, true, true, true, true, true, true, false, false, true, false, false, false, false, false, false, false, false, false, false, false, false] rfl rfl (any_of HT_.out (by kernel_rfl)) (fun _ _ _ h => h) (Or.inl ⟨by rfl, ?_⟩) ?_ ?_
    rotate_left
    ·intro w'
     go_simp
     with_reducible rfl
    rotate_left
    ·simp only [Act.put, List.setIfInBounds_toArray, List.set_cons_zero, List.set_cons_succ, i64_w, i32_w]
     rfl
    refine pure_ (i := 17) (N := some 107) (v := ?_) (a' := ?_) #[true, true, true, true, true, true, false, true, true, true, true, true, true, false, false, true, false, true, false, false, false, false, false, false, false, false, false, false] rfl rfl (any_of HT_.out (by kernel_rfl)) (fun _ _ _ h => h) (Or.inl ⟨by rfl, ?_⟩) ?_ ?_
    rotate_left
    ·intro w'
     go_simp
     with_reducible rfl
    rotate_left
    ·simp only [Act.put, List.setIfInBounds_toArray, List.set_cons_zero, List.set_cons_succ, i64_w, i32_w]
     rfl
    refine pure_ (i := 18) (N := some 108) (v := ?_) (a' := ?_) #[true, true, true, true, true, true, false, true, true, true, true, true, true, false, false, true, false, true, true, false, false, false, false, false, false, false, false, false] rfl rfl (any_of HT_.out (by kernel_rfl)) (fun _ _ _ h => h) (Or.inl ⟨by rfl, ?_⟩) ?_ ?_
    rotate_left
    ·intro w'
     go_simp
     with_reducible rfl
    rotate_left
    ·simp only [Act.put, List.setIfInBounds_toArray, List.set_cons_zero, List.set_cons_succ, i64_w, i32_w]
     rfl
    refine pure_ (i := 19) (N := some 109) (v := ?_) (a' := ?_) #[true, true, true, true, true, true, false, true, true, true, true, true, true, false, false, true, false, true, true, true, false, false, false, false, false, false, false, false] rfl rfl (any_of HT_.out (by kernel_rfl)) (fun _ _ _ h => h) (Or.inl ⟨by rfl, ?_⟩) ?_ ?_
    rotate_left
    ·intro w'
     go_simp
     with_reducible rfl
    rotate_left
    ·simp only [Act.put, List.setIfInBounds_toArray, List.set_cons_zero, List.set_cons_succ, i64_w, i32_w]
     rfl
    refine pure_ (i := 20) (N := some 110) (v := ?_) (a' := ?_) #[true, true, true, true, true, true, false, true, true, true, true, true, true, false, false, true, false, true, true, true, true, false, false, false, false, false, false, false] rfl rfl (any_of HT_.out (by kernel_rfl)) (fun _ _ _ h => h) (Or.inl ⟨by rfl, ?_⟩) ?_ ?_
    rotate_left
    ·intro w'
     go_simp
     with_reducible rfl
    rotate_left
    ·simp only [Act.put, List.setIfInBounds_toArray, List.set_cons_zero, List.set_cons_succ, i64_w, i32_w]
     rfl
    refine pure_ (i := 21) (N := some 111) (v := ?_) (a' := ?_) #[true, true, true, true, true, true, false, true, true, true, true, true, true, false, false, true, false, true, true, true, true, true, false, false, false, false, false, false] rfl rfl (any_of HT_.out (by kernel_rfl)) (fun _ _ _ h => h) (Or.inl ⟨by rfl, ?_⟩) ?_ ?_
    rotate_left
    ·intro w'
     go_simp
     with_reducible rfl
    rotate_left
    ·simp only [Act.put, List.setIfInBounds_toArray, List.set_cons_zero, List.set_cons_succ, i64_w, i32_w]
     rfl
    refine pure_ (i := 22) (N := some 112) (v := ?_) (a' := ?_) #[true, true, true, true, true, true, false, true, true, true, true, true, true, false, false, true, false, true, true, true, true, true, true, false, false, false, false, false] rfl rfl (any_of HT_.out (by kernel_rfl)) (fun _ _ _ h => h) (Or.inl ⟨by rfl, ?_⟩) ?_ ?_
    rotate_left
    ·intro w'
     go_simp
     with_reducible rfl
    rotate_left
    ·simp only [Act.put, List.setIfInBounds_toArray, List.set_cons_zero, List.set_cons_succ, i64_w, i32_w]
     rfl
    refine pure_ (i := 25) (N := some 115) (v := ?_) (a' := ?_) #[true, true, true, true, true, true, false, true, true, true, true, true, true, false, false, true, false, true, true, true, true, true, true, false, false, true, false, false] rfl rfl (any_of HT_.out (by kernel_rfl)) (fun _ _ _ h => h) (Or.inl ⟨by rfl, ?_⟩) ?_ ?_
    rotate_left
    ·intro w'
     go_simp
     with_reducible rfl
    rotate_left
    ·simp only [Act.put, List.setIfInBounds_toArray, List.set_cons_zero, List.set_cons_succ, i64_w, i32_w]
     rfl
    refine one_ (i := 6) (N := some 96) #[true, true, true, true, true, true, true, true, true, true, true, true, true, false, false, true, false, true, true, true, true, true, true, false, false, true, false, false] rfl rfl (one_of HT_.out (by kernel_rfl)) (by decide) (fun K hK => ?_)
    refine goes_ Try.func44 (by kernel_rfl) rfl #[.int .i64 a0, .int .i64 a1, .int .i64 (wrap64 ((wrap64 ((wrap64 (Int.tdiv (wrap64 ((wrap64 (a3 + a4)) - a2)) 2)) + (wrap64 (Int.tdiv (wrap64 ((wrap64 (a4 + a2)) - a3)) 2)))) - 1))] (by rfl) rfl rfl (by (try simp only [List.map_toArray, List.map_cons, List.map_nil]); first | done | rfl | (simp only [List.length_drop, List.length_take]; rfl)) ?_
    with_reducible refine (spec_l05Product.calls k a0 a1 (wrap64 ((wrap64 ((wrap64 (Int.tdiv (wrap64 ((wrap64 (a3 + a4)) - a2)) 2)) + (wrap64 (Int.tdiv (wrap64 ((wrap64 (a4 + a2)) - a3)) 2)))) - 1)) t182 _ A15.out).mono ?_
    rintro e w' ⟨rfl, ⟨nd, rfl⟩⟩
    refine ⟨_, rfl, ?_⟩
    refine hK.out _ _ trivial (fun hHeld => ?_)
    clear hK K
    refine norm_ (a' := ?_) ?_ ?_
    rotate_left
    ·show Act.put _ (some 96) _ = _
     simp only [Act.put, List.setIfInBounds_toArray, List.set_cons_zero, List.set_cons_succ, i64_w, i32_w]
     rfl
    refine one_ (i := 13) (N := some 103) #[true, true, true, true, true, true, true, true, true, true, true, true, true, true, false, true, false, true, true, true, true, true, true, false, false, true, false, false] rfl rfl (one_of HT_.out (by kernel_rfl)) (by decide) (fun K hK => ?_)
    refine goes_ Try.func44 (by kernel_rfl) rfl #[.int .i64 a0, .int .i64 a1, .int .i64 (wrap64 ((wrap64 ((wrap64 (Int.tdiv (wrap64 ((wrap64 (a4 + a2)) - a3)) 2)) + (wrap64 (Int.tdiv (wrap64 ((wrap64 (a2 + a3)) - a4)) 2)))) - 1))] (by rfl) rfl rfl (by (try simp only [List.map_toArray, List.map_cons, List.map_nil]); first | done | rfl | (simp only [List.length_drop, List.length_take]; rfl)) ?_
    with_reducible refine (spec_l05Product.calls k a0 a1 (wrap64 ((wrap64 ((wrap64 (Int.tdiv (wrap64 ((wrap64 (a4 + a2)) - a3)) 2)) + (wrap64 (Int.tdiv (wrap64 ((wrap64 (a2 + a3)) - a4)) 2)))) - 1)) t183 _ A16.out).mono ?_
    rintro e w' ⟨rfl, ⟨nd, rfl⟩⟩
    refine ⟨_, rfl, ?_⟩
    refine hK.out _ _ trivial (fun hHeld => ?_)
    clear hK K
    refine norm_ (a' := ?_) ?_ ?_
    rotate_left
    ·show Act.put _ (some 103) _ = _
     simp only [Act.put, List.setIfInBounds_toArray, List.set_cons_zero, List.set_cons_succ, i64_w, i32_w]
     rfl
    refine pure_ (i := 14) (N := some 104) (v := ?_) (a' := ?_) #[true, true, true, true, true, true, true, true, true, true, true, true, true, true, true, true, false, true, true, true, true, true, true, false, false, true, false, false] rfl rfl (any_of HT_.out (by kernel_rfl)) (fun _ _ _ h => h) (Or.inl ⟨by rfl, ?_⟩) ?_ ?_
    rotate_left
    ·intro w'
     go_simp
     with_reducible rfl
    rotate_left
    ·simp only [Act.put, List.setIfInBounds_toArray, List.set_cons_zero, List.set_cons_succ, i64_w, i32_w]
     rfl
    refine pure_ (i := 16) (N := some 106) (v := ?_) (a' := ?_) #[true, true, true, true, true, true, true, true, true, true, true, true, true, true, true, true, true, true, true, true, true, true, true, false, false, true, false, false] rfl rfl (any_of HT_.out (by kernel_rfl)) (fun _ _ _ h => h) (Or.inl ⟨by rfl, ?_⟩) ?_ ?_
    rotate_left
    ·intro w'
     go_simp
     with_reducible rfl
    rotate_left
    ·simp only [Act.put, List.setIfInBounds_toArray, List.set_cons_zero, List.set_cons_succ, i64_w, i32_w]
     rfl
    refine one_ (i := 23) (N := some 113) #[true, true, true, true, true, true, true, true, true, true, true, true, true, true, true, true, true, true, true, true, true, true, true, true, false, true, false, false] rfl rfl (one_of HT_.out (by kernel_rfl)) (by decide) (fun K hK => ?_)
    refine goes_ Try.func44 (by kernel_rfl) rfl #[.int .i64 a0, .int .i64 a1, .int .i64 (wrap64 ((wrap64 ((wrap64 (Int.tdiv (wrap64 ((wrap64 (a2 + a3)) - a4)) 2)) + (wrap64 (Int.tdiv (wrap64 ((wrap64 (a3 + a4)) - a2)) 2)))) - 1))] (by rfl) rfl rfl (by (try simp only [List.map_toArray, List.map_cons, List.map_nil]); first | done | rfl | (simp only [List.length_drop, List.length_take]; rfl)) ?_
    with_reducible refine (spec_l05Product.calls k a0 a1 (wrap64 ((wrap64 ((wrap64 (Int.tdiv (wrap64 ((wrap64 (a2 + a3)) - a4)) 2)) + (wrap64 (Int.tdiv (wrap64 ((wrap64 (a3 + a4)) - a2)) 2)))) - 1)) t184 _ A17.out).mono ?_
    rintro e w' ⟨rfl, ⟨nd, rfl⟩⟩
    refine ⟨_, rfl, ?_⟩
    refine hK.out _ _ trivial (fun hHeld => ?_)
    clear hK K
    refine norm_ (a' := ?_) ?_ ?_
    rotate_left
    ·show Act.put _ (some 113) _ = _
     simp only [Act.put, List.setIfInBounds_toArray, List.set_cons_zero, List.set_cons_succ, i64_w, i32_w]
     rfl
    refine pure_ (i := 24) (N := some 114) (v := ?_) (a' := ?_) #[true, true, true, true, true, true, true, true, true, true, true, true, true, true, true, true, true, true, true, true, true, true, true, true, true, true, false, false] rfl rfl (any_of HT_.out (by kernel_rfl)) (fun _ _ _ h => h) (Or.inl ⟨by rfl, ?_⟩) ?_ ?_
    rotate_left
    ·intro w'
     go_simp
     with_reducible rfl
    rotate_left
    ·simp only [Act.put, List.setIfInBounds_toArray, List.set_cons_zero, List.set_cons_succ, i64_w, i32_w]
     rfl
    refine pure_ (i := 26) (N := some 116) (v := ?_) (a' := ?_) #[true, true, true, true, true, true, true, true, true, true, true, true, true, true, true, true, true, true, true, true, true, true, true, true, true, true, true, false] rfl rfl (any_of HT_.out (by kernel_rfl)) (fun _ _ _ h => h) (Or.inl ⟨by rfl, ?_⟩) ?_ ?_
    rotate_left
    ·intro w'
     go_simp
     with_reducible rfl
    rotate_left
    ·simp only [Act.put, List.setIfInBounds_toArray, List.set_cons_zero, List.set_cons_succ, i64_w, i32_w]
     rfl
    refine pure_ (i := 27) (N := some 18) (v := ?_) (a' := ?_) #[true, true, true, true, true, true, true, true, true, true, true, true, true, true, true, true, true, true, true, true, true, true, true, true, true, true, true, true] rfl rfl (any_of HT_.out (by kernel_rfl)) (fun _ _ _ h => h) (Or.inl ⟨by rfl, ?_⟩) ?_ ?_
    rotate_left
    ·intro w'
     go_simp
     with_reducible rfl
    rotate_left
    ·simp only [Act.put, List.setIfInBounds_toArray, List.set_cons_zero, List.set_cons_succ, i64_w, i32_w]
     rfl
    refine done_ (done_of HT_.out (by kernel_rfl)) ?_
    try go_wp2_with (first | ((with_reducible refine gate_callee (f := 45) rfl ?_); refine goesL_ (some 120) rfl rfl Try.func45 (by kernel_rfl) rfl #[.int .i64 a0, .int .i64 (Int.tmod (wrap64 ((Int.tmod (wrap64 (t182 * t183)) a0) * t184)) a0)] rfl (by (try simp only [List.map_toArray, List.map_cons, List.map_nil]); first | done | rfl | (simp only [List.length_drop, List.length_take]; rfl)) ?_; (with_reducible refine (spec_l01Inverse.calls k a0 (Int.tmod (wrap64 ((Int.tmod (wrap64 (t182 * t183)) a0) * t184)) a0) t185 _ A18.out).mono ?_); rintro e w' ⟨rfl, ⟨nd, rfl⟩⟩; refine ⟨_, rfl, ?_⟩))
    go_ret2
    exact ⟨by first | rfl | (simp [errW_none, errW_some] <;> rfl) | (simp [*, errW_none, errW_some] <;> rfl), by repeat (first | (with_reducible first | exact HB.out | apply below_alloc | apply pw_below_drewN | apply below_drew1) | exact HB.out)⟩
  ·replace c9 := Bool.eq_false_iff.mpr c9
   subst c9
   have H1 : (some (0, 5)) = some (r1, r2) := by rw [if_neg (show ¬ (false = true) by decide)] at H; exact H
   clear H
   have H := H1
   clear H1
   simp only [Option.some.injEq, Prod.mk.injEq] at H
   obtain ⟨rfl, rfl⟩ := H
   go_enter Try.func20, Try.ntmps20
   go_wp2_with (first | ((with_reducible refine gate_dst (N := 25) rfl ?_); refine Kd.R_lit (Kd.int .i64) _ 2 ?hg (N := 25) ?hd (xs := ([a2, a3, a4] : List Int)) (inner := [.int .i64 a2, .int .i64 a3, .int .i64 a4]) (ok := fun _ => True) (okp := fun _ => True) ?hr ?hp (fun _ hk => hk) trivial (Below.refl _ _) (Nat.le_refl _) (by simp) ?_; (case hd => rfl); (case hg => rfl); (case hr => first | (go_simp; done) | (go_simp; rfl)); (case hp => exact (Reps.one (show Kd.M (Kd.int .i64) _ _ _ a2 [.int .i64 a2] from rfl) (Reps.one (show Kd.M (Kd.int .i64) _ _ _ a3 [.int .i64 a3] from rfl) (Reps.one (show Kd.M (Kd.int .i64) _ _ _ a4 [.int .i64 a4] from rfl) (Reps.none _ _))))); intro v173 w24 ho25 hb hg_ hnew_; clear hg_ hnew_; (first | rw [← Ny172.out] at ho25 | (simp only [Int.reduceToNat] at ho25; rw [← Ny172.out] at ho25)); have n0_ := Aside0.mk (Kd.R_lower ho25 (below_size (by repeat (first | (with_reducible first | exact HB.out | apply below_alloc | apply pw_below_drewN | apply below_drew1) | exact HB.out)))); have n1_ := Aside0.mk (below_step (by repeat (first | (with_reducible first | exact HB.out | apply below_alloc | apply pw_below_drewN | apply below_drew1) | exact HB.out)) hb); clear HB; have HO174 := n0_; have HB := n1_; clear n0_ n1_; clear hb ho25; obtain ⟨Ao26, co26, eo26⟩ := Kd.R_slice HO174.out; subst eo26) | ((with_reducible refine gate_callee (f := 40) rfl ?_); refine goesL_ (some 26) rfl rfl Try.func40 (by kernel_rfl) rfl #[.int .i64 a0, .int .i64 a1, .slice Ao26 y172.length co26] rfl (by (try simp only [List.map_toArray, List.map_cons, List.map_nil]); first | done | rfl | (simp only [List.length_drop, List.length_take]; rfl)) ?_; (with_reducible refine (spec_l05Labels.calls k a0 a1 _ _ y172 t175 t176 _ ?side1 ?side2 A6.out).mono ?_); (case side1 => repeat (first | exact (Kd.R_reads' HO174.out).2.2 | (with_reducible refine Kd.C_alloc ?_ _) | (with_reducible refine Kd.C_drewN ?_ _) | (with_reducible refine Kd.C_drew ?_))); (case side2 => exact (Kd.R_reads' HO174.out).2.1); rintro e w' ⟨rfl, ⟨nd, rfl⟩⟩; refine ⟨_, rfl, ?_⟩) | ((with_reducible refine gate_callee (f := 41) rfl ?_); refine goesL_ (some 38) rfl rfl Try.func41 (by kernel_rfl) rfl #[.int .i64 t175, .int .i64 a2, .int .i64 a3, .int .i64 a4] rfl (by (try simp only [List.map_toArray, List.map_cons, List.map_nil]); first | done | rfl | (simp only [List.length_drop, List.length_take]; rfl)) ?_; (with_reducible refine (spec_l05Admissible.calls t175 a2 a3 a4 false _ A8.out).mono ?_); rintro e w' ⟨rfl, ⟨nd, rfl⟩⟩; refine ⟨_, rfl, ?_⟩))
   go_ret2
   exact ⟨by first | rfl | (simp [errW_none, errW_some] <;> rfl) | (simp [*, errW_none, errW_some] <;> rfl), by repeat (first | (with_reducible first | exact HB.out | apply below_alloc | apply pw_below_drewN | apply below_drew1) | exact HB.out)⟩
 ·rw [if_neg c7] at H
  have c7b0 : (t176 == 0) = false := beq_eq_false_iff_ne.mpr c7
  have c7b1 : (t176 != 0) = true := bne_iff_ne.mpr c7
  simp only [Option.some.injEq, Prod.mk.injEq] at H
  obtain ⟨rfl, rfl⟩ := H
  go_enter Try.func20, Try.ntmps20
  go_wp2_with (first | ((with_reducible refine gate_dst (N := 25) rfl ?_); refine Kd.R_lit (Kd.int .i64) _ 2 ?hg (N := 25) ?hd (xs := ([a2, a3, a4] : List Int)) (inner := [.int .i64 a2, .int .i64 a3, .int .i64 a4]) (ok := fun _ => True) (okp := fun _ => True) ?hr ?hp (fun _ hk => hk) trivial (Below.refl _ _) (Nat.le_refl _) (by simp) ?_; (case hd => rfl); (case hg => rfl); (case hr => first | (go_simp; done) | (go_simp; rfl)); (case hp => exact (Reps.one (show Kd.M (Kd.int .i64) _ _ _ a2 [.int .i64 a2] from rfl) (Reps.one (show Kd.M (Kd.int .i64) _ _ _ a3 [.int .i64 a3] from rfl) (Reps.one (show Kd.M (Kd.int .i64) _ _ _ a4 [.int .i64 a4] from rfl) (Reps.none _ _))))); intro v173 w27 ho28 hb hg_ hnew_; clear hg_ hnew_; (first | rw [← Ny172.out] at ho28 | (simp only [Int.reduceToNat] at ho28; rw [← Ny172.out] at ho28)); have n0_ := Aside0.mk (Kd.R_lower ho28 (below_size (by repeat (first | (with_reducible first | exact HB.out | apply below_alloc | apply pw_below_drewN | apply below_drew1) | exact HB.out)))); have n1_ := Aside0.mk (below_step (by repeat (first | (with_reducible first | exact HB.out | apply below_alloc | apply pw_below_drewN | apply below_drew1) | exact HB.out)) hb); clear HB; have HO174 := n0_; have HB := n1_; clear n0_ n1_; clear hb ho28; obtain ⟨Ao29, co29, eo29⟩ := Kd.R_slice HO174.out; subst eo29) | ((with_reducible refine gate_callee (f := 40) rfl ?_); refine goesL_ (some 26) rfl rfl Try.func40 (by kernel_rfl) rfl #[.int .i64 a0, .int .i64 a1, .slice Ao29 y172.length co29] rfl (by (try simp only [List.map_toArray, List.map_cons, List.map_nil]); first | done | rfl | (simp only [List.length_drop, List.length_take]; rfl)) ?_; (with_reducible refine (spec_l05Labels.calls k a0 a1 _ _ y172 t175 t176 _ ?side1 ?side2 A6.out).mono ?_); (case side1 => repeat (first | exact (Kd.R_reads' HO174.out).2.2 | (with_reducible refine Kd.C_alloc ?_ _) | (with_reducible refine Kd.C_drewN ?_ _) | (with_reducible refine Kd.C_drew ?_))); (case side2 => exact (Kd.R_reads' HO174.out).2.1); rintro e w' ⟨rfl, ⟨nd, rfl⟩⟩; refine ⟨_, rfl, ?_⟩))
  go_ret2
  exact ⟨by first | rfl | (simp [errW_none, errW_some] <;> rfl) | (simp [*, errW_none, errW_some] <;> rfl), by repeat (first | (with_reducible first | exact HB.out | apply below_alloc | apply pw_below_drewN | apply below_drew1) | exact HB.out)⟩

/-! ### laws_big: function 22 -/
def laws_big.f (l0 : List Int) : Option (Bool) := some (decide ((l0.length : Int) > 4096))
set_option maxHeartbeats 8000000 in
set_option maxRecDepth 100000 in
theorem laws_big.calls (A0 : Option Addr) (c0 : Nat) (l0 : List Int) (r : Bool) (w : World) (hr0 : Kd.C (Kd.int .u8) w A0 l0.length l0) (hc0 : l0.length ≤ c0) (h : laws_big.f l0 = some r) :
  Calls Try.prog 22 #[.slice A0 l0.length c0] w fun e w' => e = .returned (.bool r) ∧ Drawn0 w w' := by
 have HR0 := Aside0.mk hr0
 have HC0 := Aside0.mk hc0
 clear hr0 hc0
 have H : (some (decide ((l0.length : Int) > 4096))) = some r := h
 clear h
 obtain rfl := Option.some.inj H
 go_enter Try.func22, Try.ntmps22
 go_wp2
 go_ret
 exact ⟨by first | rfl | (simp; done) | (simp [*]; done), by repeat (first | exact Drawn0.refl _ | apply Drawn0.step)⟩

end Go.Proofs.Ytbkokdpginghoaa.Q
