/- Both UnitDiagram, out of range. No condition. -/
import Derived.Test.YtdmipfmipjpegaaHandDia5
namespace Go.Proofs.Ytdmipfmipjpegaa.Hand
open Go.RowKit Go.Proofs.YtdmipfmipjpegaaW.PrintWords Go.Proofs.YtdmipfmipjpegaaW.PrintLast
set_option linter.unusedVariables false
set_option linter.unusedSimpArgs false

theorem specIn_out (n : Int) (h : ¬(1 ≤ n ∧ n ≤ 8)) (w : World) :
    Calls Try.prog 26 #[.int .i64 n, .int .i64 1, .int .i64 8] w fun e w' => e = .returned (.bool false) ∧ Drawn0 w w' := by
  by_cases h1 : 1 ≤ n
  · have b1 : decide ((1 : Int) ≤ n) = true := decide_eq_true h1
    have b2 : decide (n ≤ 8) = false := decide_eq_false (by omega)
    clear h h1
    go_enter Try.func26, Try.ntmps26
    go_wp2
    go_ret
    exact ⟨by first | rfl | (simp [*]; done), by repeat (first | exact Drawn0.refl _ | apply Drawn0.step)⟩
  · have b1 : decide ((1 : Int) ≤ n) = false := decide_eq_false h1
    clear h h1
    go_enter Try.func26, Try.ntmps26
    go_wp2
    go_ret
    exact ⟨by first | rfl | (simp [*]; done), by repeat (first | exact Drawn0.refl _ | apply Drawn0.step)⟩
set_option maxHeartbeats 4000000 in
theorem specUnit_out (n : Int) (h : ¬(1 ≤ n ∧ n ≤ 8)) (w : World) :
    Calls Try.prog 9 #[.int .i64 n] w fun e w' => e = .returned (.tuple #[.agg (dia 0 (List.replicate 16 0)), .int .i64 2]) ∧ Below w.heap.size w w' := by
  have HI := Aside0.mk (fun W => specIn_out n h W)
  clear h
  go_enter Try.func9, Try.ntmps9
  go_wp2_with fail
  refine (HI.out _).mono ?_
  rintro e w0 ⟨rfl, ⟨q, rfl⟩⟩
  have HG := Aside0.mk (show ((w.alloc (.cells (dia 0 (List.replicate 16 0)) 24)).drewN q).heap[w.heap.size]? = some (.cells (dia 0 (List.replicate 16 0)) 24 (0, 0)) from heap_alloc_new w _)
  go_wp2_with (refine wpList_store_row rfl 24 _ _ rfl w.heap.size (dia 0 (List.replicate 16 0)) rfl rfl 24 (dia 0 (List.replicate 16 0)) HG.out sizeDia rfl (dia_one _ _) ?_)
  refine bodyPost_ret (results_ct rfl _ _ w.heap.size 24 (dia 0 (List.replicate 16 0)) (0, 0) _ rfl (setRow_heap _ _ _ _ _ _ HG.out) Try.underlying24 rfl sizeDia) rfl ⟨rfl, below_setRow (pw_below_drewN ((Below.refl _ w).alloc (Nat.le_refl _) _) q) (Nat.le_refl _)⟩
theorem implIn_out (n : Int) (h : ¬(1 ≤ n ∧ n ≤ 8)) (w : World) :
    Calls Try.prog 28 #[.int .i64 n, .int .i64 1, .int .i64 8] w fun e w' => e = .returned (.bool false) ∧ Drawn0 w w' := by
  by_cases h1 : 1 ≤ n
  · have b1 : decide ((1 : Int) ≤ n) = true := decide_eq_true h1
    have b2 : decide (n ≤ 8) = false := decide_eq_false (by omega)
    clear h h1
    go_enter Try.func28, Try.ntmps28
    go_wp2
    go_ret
    exact ⟨by first | rfl | (simp [*]; done), by repeat (first | exact Drawn0.refl _ | apply Drawn0.step)⟩
  · have b1 : decide ((1 : Int) ≤ n) = false := decide_eq_false h1
    clear h h1
    go_enter Try.func28, Try.ntmps28
    go_wp2
    go_ret
    exact ⟨by first | rfl | (simp [*]; done), by repeat (first | exact Drawn0.refl _ | apply Drawn0.step)⟩
set_option maxHeartbeats 4000000 in
theorem implUnit_out (n : Int) (h : ¬(1 ≤ n ∧ n ≤ 8)) (w : World) :
    Calls Try.prog 10 #[.int .i64 n] w fun e w' => e = .returned (.tuple #[.agg (dia 0 (List.replicate 16 0)), .int .i64 2]) ∧ Below w.heap.size w w' := by
  have HI := Aside0.mk (fun W => implIn_out n h W)
  clear h
  go_enter Try.func10, Try.ntmps10
  go_wp2_with fail
  refine (HI.out _).mono ?_
  rintro e w0 ⟨rfl, ⟨q, rfl⟩⟩
  have HG := Aside0.mk (show ((w.alloc (.cells (dia 0 (List.replicate 16 0)) 24)).drewN q).heap[w.heap.size]? = some (.cells (dia 0 (List.replicate 16 0)) 24 (0, 0)) from heap_alloc_new w _)
  go_wp2_with (refine wpList_store_row rfl 24 _ _ rfl w.heap.size (dia 0 (List.replicate 16 0)) rfl rfl 24 (dia 0 (List.replicate 16 0)) HG.out sizeDia rfl (dia_one _ _) ?_)
  refine bodyPost_ret (results_ct rfl _ _ w.heap.size 24 (dia 0 (List.replicate 16 0)) (0, 0) _ rfl (setRow_heap _ _ _ _ _ _ HG.out) Try.underlying24 rfl sizeDia) rfl ⟨rfl, below_setRow (pw_below_drewN ((Below.refl _ w).alloc (Nat.le_refl _) _) q) (Nat.le_refl _)⟩
end Go.Proofs.Ytdmipfmipjpegaa.Hand
