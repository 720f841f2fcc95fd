/- The contracts of both UnitDiagram, in range. No condition. -/
import Derived.Test.YtdmipfmipjpegaaHandDia4
namespace Go.Proofs.Ytdmipfmipjpegaa.Hand
open Go.RowKit Go.Proofs.YtdmipfmipjpegaaW.PrintWords Go.Proofs.YtdmipfmipjpegaaW.PrintLast
set_option linter.unusedVariables false
set_option linter.unusedSimpArgs false

theorem l01In_calls (N : Nat) (h1 : 1 ≤ N) (h8 : N ≤ 8) (w : World) :
    Calls Try.prog 26 #[.int .i64 (N : Int), .int .i64 1, .int .i64 8] w fun e w' => e = .returned (.bool true) ∧ Drawn0 w w' := by
  have b1 : decide ((1 : Int) ≤ (N : Int)) = true := decide_eq_true (by omega)
  have b1' : decide (1 ≤ N) = true := decide_eq_true h1
  have b2 : decide ((N : Int) ≤ 8) = true := decide_eq_true (by omega)
  have b2' : decide (N ≤ 8) = true := decide_eq_true h8
  clear h1 h8
  go_enter Try.func26, Try.ntmps26
  go_wp2
  go_ret
  exact ⟨by first | rfl | (simp [*]; done), by repeat (first | exact Drawn0.refl _ | apply Drawn0.step)⟩
set_option maxHeartbeats 8000000 in
theorem specUnit_in (N : Nat) (h1 : 1 ≤ N) (h8 : N ≤ 8) (w : World) :
    Calls Try.prog 9 #[.int .i64 (N : Int)] w fun e w' => e = .returned (.tuple #[.agg (dia N (oneB N N)), .int .i64 0]) ∧ Below w.heap.size w w' := by
  have HN := Aside0.mk h8
  have b1 : decide ((1 : Int) ≤ (N : Int)) = true := decide_eq_true (by omega)
  have b1' : decide (1 ≤ N) = true := decide_eq_true h1
  have b2 : decide ((N : Int) ≤ 8) = true := decide_eq_true (by omega)
  have b2' : decide (N ≤ 8) = true := decide_eq_true h8
  have HZ := Aside0.mk (show (Try.prog.info? 24).map (·.size) = some (dia (N : Int) (oneB N N)).size by rw [dia_size, oneB_len]; exact sizeDia)
  have HZ0 := Aside0.mk (show (dia 0 (List.replicate 16 0)).size = (dia (N : Int) (oneB N N)).size by rw [dia_size, dia_size, oneB_len]; rfl)
  have HI := Aside0.mk (fun W => l01In_calls N h1 h8 W)
  clear h1 h8
  go_enter Try.func9, Try.ntmps9
  go_wp2_with fail
  refine (HI.out _).mono ?_
  rintro e w0 ⟨rfl, ⟨q, rfl⟩⟩
  go_wp2_with fail
  with_reducible refine (one_calls N HN.out _).mono ?_
  rintro e w1 ⟨rfl, hb⟩
  have HG := Aside0.mk ((hb.block w.heap.size (by simp)).trans (heap_alloc_new w (.cells (dia 0 (List.replicate 16 0)) 24)))
  have HB := Aside0.mk (below_step (pw_below_drewN ((Below.refl _ w).alloc (Nat.le_refl _) _) q) hb)
  clear hb
  go_wp2_with (refine wpList_store_row rfl 24 _ _ rfl w.heap.size (dia N (oneB N N)) rfl rfl 24 (dia 0 (List.replicate 16 0)) HG.out HZ.out HZ0.out (dia_one _ _) ?_)
  refine bodyPost_ret (results_ct rfl _ _ w.heap.size 24 _ (0, 0) _ rfl (setRow_heap _ _ _ _ _ _ HG.out) Try.underlying24 rfl HZ.out) rfl ⟨rfl, below_setRow HB.out (Nat.le_refl _)⟩
theorem implIn_calls (N : Nat) (h1 : 1 ≤ N) (h8 : N ≤ 8) (w : World) :
    Calls Try.prog 28 #[.int .i64 (N : Int), .int .i64 1, .int .i64 8] w fun e w' => e = .returned (.bool true) ∧ Drawn0 w w' := by
  have b1 : decide ((1 : Int) ≤ (N : Int)) = true := decide_eq_true (by omega)
  have b1' : decide (1 ≤ N) = true := decide_eq_true h1
  have b2 : decide ((N : Int) ≤ 8) = true := decide_eq_true (by omega)
  have b2' : decide (N ≤ 8) = true := decide_eq_true h8
  clear h1 h8
  go_enter Try.func28, Try.ntmps28
  go_wp2
  go_ret
  exact ⟨by first | rfl | (simp [*]; done), by repeat (first | exact Drawn0.refl _ | apply Drawn0.step)⟩
set_option maxHeartbeats 8000000 in
theorem implUnit_in (N : Nat) (h1 : 1 ≤ N) (h8 : N ≤ 8) (w : World) :
    Calls Try.prog 10 #[.int .i64 (N : Int)] w fun e w' => e = .returned (.tuple #[.agg (dia N (oneB N N)), .int .i64 0]) ∧ Below w.heap.size w w' := by
  have HN := Aside0.mk h8
  have b1 : decide ((1 : Int) ≤ (N : Int)) = true := decide_eq_true (by omega)
  have b1' : decide (1 ≤ N) = true := decide_eq_true h1
  have b2 : decide ((N : Int) ≤ 8) = true := decide_eq_true (by omega)
  have b2' : decide (N ≤ 8) = true := decide_eq_true h8
  have HZ := Aside0.mk (show (Try.prog.info? 24).map (·.size) = some (dia (N : Int) (oneB N N)).size by rw [dia_size, oneB_len]; exact sizeDia)
  have HZ0 := Aside0.mk (show (dia 0 (List.replicate 16 0)).size = (dia (N : Int) (oneB N N)).size by rw [dia_size, dia_size, oneB_len]; rfl)
  have HI := Aside0.mk (fun W => implIn_calls N h1 h8 W)
  clear h1 h8
  go_enter Try.func10, Try.ntmps10
  go_wp2_with fail
  refine (HI.out _).mono ?_
  rintro e w0 ⟨rfl, ⟨q, rfl⟩⟩
  go_wp2_with fail
  with_reducible refine (unit_calls N HN.out _).mono ?_
  rintro e w1 ⟨rfl, hb⟩
  have HG := Aside0.mk ((hb.block w.heap.size (by simp)).trans (heap_alloc_new w (.cells (dia 0 (List.replicate 16 0)) 24)))
  have HB := Aside0.mk (below_step (pw_below_drewN ((Below.refl _ w).alloc (Nat.le_refl _) _) q) hb)
  clear hb
  go_wp2_with (refine wpList_store_row rfl 24 _ _ rfl w.heap.size (dia N (oneB N N)) rfl rfl 24 (dia 0 (List.replicate 16 0)) HG.out HZ.out HZ0.out (dia_one _ _) ?_)
  refine bodyPost_ret (results_ct rfl _ _ w.heap.size 24 _ (0, 0) _ rfl (setRow_heap _ _ _ _ _ _ HG.out) Try.underlying24 rfl HZ.out) rfl ⟨rfl, below_setRow HB.out (Nat.le_refl _)⟩
end Go.Proofs.Ytdmipfmipjpegaa.Hand
