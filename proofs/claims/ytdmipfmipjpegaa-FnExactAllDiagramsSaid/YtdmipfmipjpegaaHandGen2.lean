/- The contracts of both GeneratorDiagram and the walk of its law. No condition. -/
import Derived.Test.YtdmipfmipjpegaaHandGen
import Derived.Test.YtdmipfmipjpegaaHandDia7
namespace Go.Proofs.Ytdmipfmipjpegaa.Hand
open Go.RowKit Go.Proofs.YtdmipfmipjpegaaW.PrintWords Go.Proofs.YtdmipfmipjpegaaW.PrintLast
set_option linter.unusedVariables false
set_option linter.unusedSimpArgs false

theorem sIn_calls (n lo hi : Int) (b : Bool) (hb : decide (lo ≤ n ∧ n ≤ hi) = b) (w : World) :
    Calls Try.prog 26 #[.int .i64 n, .int .i64 lo, .int .i64 hi] w fun e w' => e = .returned (.bool b) ∧ Drawn0 w w' := by
  subst hb
  by_cases h1 : lo ≤ n
  · have b1 : decide (lo ≤ n) = true := decide_eq_true h1
    have e : decide (lo ≤ n ∧ n ≤ hi) = decide (n ≤ hi) := by simp [h1]
    rw [e]
    clear h1 e
    by_cases h2 : n ≤ hi
    · have b2 : decide (n ≤ hi) = true := decide_eq_true h2
      rw [b2]
      clear h2
      go_enter Try.func26, Try.ntmps26
      go_wp2
      go_ret
      exact ⟨by first | rfl | (simp [*]; done), by repeat (first | exact Drawn0.refl _ | apply Drawn0.step)⟩
    · have b2 : decide (n ≤ hi) = false := decide_eq_false h2
      rw [b2]
      clear h2
      go_enter Try.func26, Try.ntmps26
      go_wp2
      go_ret
      exact ⟨by first | rfl | (simp [*]; done), by repeat (first | exact Drawn0.refl _ | apply Drawn0.step)⟩
  · have b1 : decide (lo ≤ n) = false := decide_eq_false h1
    have e : decide (lo ≤ n ∧ n ≤ hi) = false := by simp [h1]
    rw [e]
    clear h1 e
    go_enter Try.func26, Try.ntmps26
    go_wp2
    go_ret
    exact ⟨by first | rfl | (simp [*]; done), by repeat (first | exact Drawn0.refl _ | apply Drawn0.step)⟩
theorem gIn_calls (n lo hi : Int) (b : Bool) (hb : decide (lo ≤ n ∧ n ≤ hi) = b) (w : World) :
    Calls Try.prog 28 #[.int .i64 n, .int .i64 lo, .int .i64 hi] w fun e w' => e = .returned (.bool b) ∧ Drawn0 w w' := by
  subst hb
  by_cases h1 : lo ≤ n
  · have b1 : decide (lo ≤ n) = true := decide_eq_true h1
    have e : decide (lo ≤ n ∧ n ≤ hi) = decide (n ≤ hi) := by simp [h1]
    rw [e]
    clear h1 e
    by_cases h2 : n ≤ hi
    · have b2 : decide (n ≤ hi) = true := decide_eq_true h2
      rw [b2]
      clear h2
      go_enter Try.func28, Try.ntmps28
      go_wp2
      go_ret
      exact ⟨by first | rfl | (simp [*]; done), by repeat (first | exact Drawn0.refl _ | apply Drawn0.step)⟩
    · have b2 : decide (n ≤ hi) = false := decide_eq_false h2
      rw [b2]
      clear h2
      go_enter Try.func28, Try.ntmps28
      go_wp2
      go_ret
      exact ⟨by first | rfl | (simp [*]; done), by repeat (first | exact Drawn0.refl _ | apply Drawn0.step)⟩
  · have b1 : decide (lo ≤ n) = false := decide_eq_false h1
    have e : decide (lo ≤ n ∧ n ≤ hi) = false := by simp [h1]
    rw [e]
    clear h1 e
    go_enter Try.func28, Try.ntmps28
    go_wp2
    go_ret
    exact ⟨by first | rfl | (simp [*]; done), by repeat (first | exact Drawn0.refl _ | apply Drawn0.step)⟩

set_option maxHeartbeats 8000000 in
theorem specGen_in (N I : Nat) (hN2 : 2 ≤ N) (hN : N ≤ 8) (hI : I + 2 ≤ N) (w : World) :
    Calls Try.prog 12 #[.int .i64 (N : Int), .int .i64 (I : Int)] w fun e w' => e = .returned (.tuple #[.agg (dia N (cupB N I)), .int .i64 0]) ∧ Below w.heap.size w w' := by
  have H1 := Aside0.mk (fun W => sIn_calls (N : Int) 2 8 true (decide_eq_true (by omega)) W)
  have H2 := Aside0.mk (fun W => sIn_calls (I : Int) 0 (wrap64 ((N : Int) - 2)) true (decide_eq_true (by unfold wrap64; omega)) W)
  have H3 := Aside0.mk (fun W => cup_calls N I hN hI W)
  have HZ := Aside0.mk (show (Try.prog.info? 24).map (·.size) = some (dia (N : Int) (cupB N I)).size by rw [dia_size, cupB_len]; exact sizeDia)
  have HZ0 := Aside0.mk (show (dia 0 (List.replicate 16 0)).size = (dia (N : Int) (cupB N I)).size by rw [dia_size, dia_size, cupB_len]; rfl)
  clear hN2 hN hI
  go_enter Try.func12, Try.ntmps12
  go_wp2_with fail
  refine (H1.out _).mono ?_
  rintro e w0 ⟨rfl, ⟨q, rfl⟩⟩
  go_wp2_with fail
  refine (H2.out _).mono ?_
  rintro e w0 ⟨rfl, ⟨q2, rfl⟩⟩
  go_wp2_with fail
  with_reducible refine (H3.out _).mono ?_
  rintro e w1 ⟨rfl, hb⟩
  have HG := Aside0.mk ((hb.block w.heap.size (by simp)).trans (heap_alloc_new w (.cells (dia 0 (List.replicate 16 0)) 24)))
  have HB := Aside0.mk (below_step (pw_below_drewN ((Below.refl _ w).alloc (Nat.le_refl _) _) (q + q2)) hb)
  clear hb
  go_wp2_with (refine wpList_store_row rfl 24 _ _ rfl w.heap.size (dia N (cupB N I)) rfl rfl 24 (dia 0 (List.replicate 16 0)) HG.out HZ.out HZ0.out (dia_one _ _) ?_)
  refine bodyPost_ret (results_ct rfl _ _ w.heap.size 24 _ (0, 0) _ rfl (setRow_heap _ _ _ _ _ _ HG.out) Try.underlying24 rfl HZ.out) rfl ⟨rfl, below_setRow HB.out (Nat.le_refl _)⟩
set_option maxHeartbeats 8000000 in
theorem specGen_out1 (n i : Int) (h : ¬(2 ≤ n ∧ n ≤ 8)) (w : World) :
    Calls Try.prog 12 #[.int .i64 n, .int .i64 i] w fun e w' => e = .returned (.tuple #[.agg (dia 0 (List.replicate 16 0)), .int .i64 2]) ∧ Below w.heap.size w w' := by
  have HI := Aside0.mk (fun W => sIn_calls n 2 8 false (decide_eq_false h) W)
  clear h
  go_enter Try.func12, Try.ntmps12
  go_wp2_with fail
  refine (HI.out _).mono ?_
  rintro e w0 ⟨rfl, ⟨q, rfl⟩⟩
  have HG := Aside0.mk (show ((w.alloc (.cells (dia 0 (List.replicate 16 0)) 24)).drewN q).heap[w.heap.size]? = some (.cells (dia 0 (List.replicate 16 0)) 24 (0, 0)) from heap_alloc_new w _)
  go_wp2_with (refine wpList_store_row rfl 24 _ _ rfl w.heap.size (dia 0 (List.replicate 16 0)) rfl rfl 24 (dia 0 (List.replicate 16 0)) HG.out sizeDia rfl (dia_one _ _) ?_)
  refine bodyPost_ret (results_ct rfl _ _ w.heap.size 24 (dia 0 (List.replicate 16 0)) (0, 0) _ rfl (setRow_heap _ _ _ _ _ _ HG.out) Try.underlying24 rfl sizeDia) rfl ⟨rfl, below_setRow (pw_below_drewN ((Below.refl _ w).alloc (Nat.le_refl _) _) q) (Nat.le_refl _)⟩
set_option maxHeartbeats 8000000 in
theorem specGen_out2 (n i : Int) (h : 2 ≤ n ∧ n ≤ 8) (h2 : ¬(0 ≤ i ∧ i ≤ n - 2)) (w : World) :
    Calls Try.prog 12 #[.int .i64 n, .int .i64 i] w fun e w' => e = .returned (.tuple #[.agg (dia 0 (List.replicate 16 0)), .int .i64 2]) ∧ Below w.heap.size w w' := by
  have HI := Aside0.mk (fun W => sIn_calls n 2 8 true (decide_eq_true h) W)
  have HI2 := Aside0.mk (fun W => sIn_calls i 0 (wrap64 (n - 2)) false (decide_eq_false (by unfold wrap64; omega)) W)
  clear h h2
  go_enter Try.func12, Try.ntmps12
  go_wp2_with fail
  refine (HI.out _).mono ?_
  rintro e w0 ⟨rfl, ⟨q, rfl⟩⟩
  go_wp2_with fail
  refine (HI2.out _).mono ?_
  rintro e w0 ⟨rfl, ⟨q2, rfl⟩⟩
  have HG := Aside0.mk (show ((w.alloc (.cells (dia 0 (List.replicate 16 0)) 24)).drewN (q + q2)).heap[w.heap.size]? = some (.cells (dia 0 (List.replicate 16 0)) 24 (0, 0)) from heap_alloc_new w _)
  go_wp2_with (refine wpList_store_row rfl 24 _ _ rfl w.heap.size (dia 0 (List.replicate 16 0)) rfl rfl 24 (dia 0 (List.replicate 16 0)) HG.out sizeDia rfl (dia_one _ _) ?_)
  refine bodyPost_ret (results_ct rfl _ _ w.heap.size 24 (dia 0 (List.replicate 16 0)) (0, 0) _ rfl (setRow_heap _ _ _ _ _ _ HG.out) Try.underlying24 rfl sizeDia) rfl ⟨rfl, below_setRow (pw_below_drewN ((Below.refl _ w).alloc (Nat.le_refl _) _) (q + q2)) (Nat.le_refl _)⟩

set_option maxHeartbeats 8000000 in
theorem implGen_in (N I : Nat) (hN2 : 2 ≤ N) (hN : N ≤ 8) (hI : I + 2 ≤ N) (w : World) :
    Calls Try.prog 13 #[.int .i64 (N : Int), .int .i64 (I : Int)] w fun e w' => e = .returned (.tuple #[.agg (dia N (cupB N I)), .int .i64 0]) ∧ Below w.heap.size w w' := by
  have H1 := Aside0.mk (fun W => gIn_calls (N : Int) 2 8 true (decide_eq_true (by omega)) W)
  have H2 := Aside0.mk (fun W => gIn_calls (I : Int) 0 (wrap64 ((N : Int) - 2)) true (decide_eq_true (by unfold wrap64; omega)) W)
  have H3 := Aside0.mk (fun W => gen_calls N I hN hI W)
  have HZ := Aside0.mk (show (Try.prog.info? 24).map (·.size) = some (dia (N : Int) (cupB N I)).size by rw [dia_size, cupB_len]; exact sizeDia)
  have HZ0 := Aside0.mk (show (dia 0 (List.replicate 16 0)).size = (dia (N : Int) (cupB N I)).size by rw [dia_size, dia_size, cupB_len]; rfl)
  clear hN2 hN hI
  go_enter Try.func13, Try.ntmps13
  go_wp2_with fail
  refine (H1.out _).mono ?_
  rintro e w0 ⟨rfl, ⟨q, rfl⟩⟩
  go_wp2_with fail
  refine (H2.out _).mono ?_
  rintro e w0 ⟨rfl, ⟨q2, rfl⟩⟩
  go_wp2_with fail
  with_reducible refine (H3.out _).mono ?_
  rintro e w1 ⟨rfl, hb⟩
  have HG := Aside0.mk ((hb.block w.heap.size (by simp)).trans (heap_alloc_new w (.cells (dia 0 (List.replicate 16 0)) 24)))
  have HB := Aside0.mk (below_step (pw_below_drewN ((Below.refl _ w).alloc (Nat.le_refl _) _) (q + q2)) hb)
  clear hb
  go_wp2_with (refine wpList_store_row rfl 24 _ _ rfl w.heap.size (dia N (cupB N I)) rfl rfl 24 (dia 0 (List.replicate 16 0)) HG.out HZ.out HZ0.out (dia_one _ _) ?_)
  refine bodyPost_ret (results_ct rfl _ _ w.heap.size 24 _ (0, 0) _ rfl (setRow_heap _ _ _ _ _ _ HG.out) Try.underlying24 rfl HZ.out) rfl ⟨rfl, below_setRow HB.out (Nat.le_refl _)⟩
set_option maxHeartbeats 8000000 in
theorem implGen_out1 (n i : Int) (h : ¬(2 ≤ n ∧ n ≤ 8)) (w : World) :
    Calls Try.prog 13 #[.int .i64 n, .int .i64 i] w fun e w' => e = .returned (.tuple #[.agg (dia 0 (List.replicate 16 0)), .int .i64 2]) ∧ Below w.heap.size w w' := by
  have HI := Aside0.mk (fun W => gIn_calls n 2 8 false (decide_eq_false h) W)
  clear h
  go_enter Try.func13, Try.ntmps13
  go_wp2_with fail
  refine (HI.out _).mono ?_
  rintro e w0 ⟨rfl, ⟨q, rfl⟩⟩
  have HG := Aside0.mk (show ((w.alloc (.cells (dia 0 (List.replicate 16 0)) 24)).drewN q).heap[w.heap.size]? = some (.cells (dia 0 (List.replicate 16 0)) 24 (0, 0)) from heap_alloc_new w _)
  go_wp2_with (refine wpList_store_row rfl 24 _ _ rfl w.heap.size (dia 0 (List.replicate 16 0)) rfl rfl 24 (dia 0 (List.replicate 16 0)) HG.out sizeDia rfl (dia_one _ _) ?_)
  refine bodyPost_ret (results_ct rfl _ _ w.heap.size 24 (dia 0 (List.replicate 16 0)) (0, 0) _ rfl (setRow_heap _ _ _ _ _ _ HG.out) Try.underlying24 rfl sizeDia) rfl ⟨rfl, below_setRow (pw_below_drewN ((Below.refl _ w).alloc (Nat.le_refl _) _) q) (Nat.le_refl _)⟩
set_option maxHeartbeats 8000000 in
theorem implGen_out2 (n i : Int) (h : 2 ≤ n ∧ n ≤ 8) (h2 : ¬(0 ≤ i ∧ i ≤ n - 2)) (w : World) :
    Calls Try.prog 13 #[.int .i64 n, .int .i64 i] w fun e w' => e = .returned (.tuple #[.agg (dia 0 (List.replicate 16 0)), .int .i64 2]) ∧ Below w.heap.size w w' := by
  have HI := Aside0.mk (fun W => gIn_calls n 2 8 true (decide_eq_true h) W)
  have HI2 := Aside0.mk (fun W => gIn_calls i 0 (wrap64 (n - 2)) false (decide_eq_false (by unfold wrap64; omega)) W)
  clear h h2
  go_enter Try.func13, Try.ntmps13
  go_wp2_with fail
  refine (HI.out _).mono ?_
  rintro e w0 ⟨rfl, ⟨q, rfl⟩⟩
  go_wp2_with fail
  refine (HI2.out _).mono ?_
  rintro e w0 ⟨rfl, ⟨q2, rfl⟩⟩
  have HG := Aside0.mk (show ((w.alloc (.cells (dia 0 (List.replicate 16 0)) 24)).drewN (q + q2)).heap[w.heap.size]? = some (.cells (dia 0 (List.replicate 16 0)) 24 (0, 0)) from heap_alloc_new w _)
  go_wp2_with (refine wpList_store_row rfl 24 _ _ rfl w.heap.size (dia 0 (List.replicate 16 0)) rfl rfl 24 (dia 0 (List.replicate 16 0)) HG.out sizeDia rfl (dia_one _ _) ?_)
  refine bodyPost_ret (results_ct rfl _ _ w.heap.size 24 (dia 0 (List.replicate 16 0)) (0, 0) _ rfl (setRow_heap _ _ _ _ _ _ HG.out) Try.underlying24 rfl sizeDia) rfl ⟨rfl, below_setRow (pw_below_drewN ((Below.refl _ w).alloc (Nat.le_refl _) _) (q + q2)) (Nat.le_refl _)⟩
set_option maxHeartbeats 8000000 in
theorem lawGen_calls (n i m c : Int) (b : List Int) (hb : b.length = 16) (hs : ∀ W, Calls Try.prog 12 #[.int .i64 n, .int .i64 i] W fun e w' => e = .returned (.tuple #[.agg (dia m b), .int .i64 c]) ∧ Below W.heap.size W w')
    (hi : ∀ W, Calls Try.prog 13 #[.int .i64 n, .int .i64 i] W fun e w' => e = .returned (.tuple #[.agg (dia m b), .int .i64 c]) ∧ Below W.heap.size W w') (w : World) :
    Calls Try.prog 4 #[.int .i64 n, .int .i64 i] w fun e w' => e = .returned (.bool true) ∧ Below w.heap.size w w' := by
  have HS := Aside0.mk hs
  have HI := Aside0.mk hi
  have HE := Aside0.mk (fun W => eqDia_calls m b hb W)
  have HZ := Aside0.mk (show (Try.prog.info? 24).map (·.size) = some (dia m b).size by rw [dia_size, hb]; exact sizeDia)
  have HZ0 := Aside0.mk (show (dia 0 (List.replicate 16 0)).size = (dia m b).size by rw [dia_size, dia_size, hb]; rfl)
  have HO := Aside0.mk (dia_one m b)
  generalize dia m b = C at HS HI HE HZ HZ0 HO
  clear hs hi hb
  go_enter Try.func4, Try.ntmps4
  go_wp2_with fail
  refine (HS.out _).mono ?_
  rintro e w1 ⟨rfl, hb1⟩
  have HB1 := Aside0.mk hb1
  clear hb1
  go_wp2_with (refine wpList_store_row rfl 24 _ _ rfl w1.heap.size C rfl rfl 24 (dia 0 (List.replicate 16 0)) (heap_alloc_new w1 _) HZ.out HZ0.out HO.out ?_)
  obtain ⟨w2, hw2⟩ : ∃ w2, w2 = (w1.alloc (.cells (dia 0 (List.replicate 16 0)) 24)).setRow w1.heap.size C := ⟨_, rfl⟩
  have HG2 := Aside0.mk (show w2.heap[w1.heap.size]? = some (.cells C 24 (0, 0)) by rw [hw2]; exact setRow_heap _ _ _ _ _ _ (heap_alloc_new w1 _))
  have HL2 := Aside0.mk (show w1.heap.size < w2.heap.size by rw [hw2, setRow_size]; simp)
  have HB2 := Aside0.mk (show Below w.heap.size w w2 by rw [hw2]; exact below_setRow (HB1.out.alloc (below_size HB1.out) _) (below_size HB1.out))
  refine (show Calls _ _ _ _ _ from (by have := HI.out w2; rw [hw2] at this; exact this)).mono ?_
  rintro e w3 ⟨rfl, hb3⟩
  rw [← hw2] at hb3
  have HB3 := Aside0.mk (below_step HB2.out hb3)
  have HG3 := Aside0.mk ((hb3.block w1.heap.size HL2.out).trans HG2.out)
  have HL3 := Aside0.mk (Nat.lt_of_lt_of_le HL2.out (below_size hb3))
  clear hb3 hw2 HB2 HG2
  have HW := Aside0.mk (show ((w3.alloc (.cells (dia 0 (List.replicate 16 0)) 24)).setRow w3.heap.size C).heap[w1.heap.size]? = some (.cells C 24 (0, 0)) by
    rw [setRow_other _ _ _ _ (Nat.ne_of_lt HL3.out), heap_alloc_old _ _ HL3.out]
    exact HG3.out)
  go_wp2_with (first | (refine wpList_store_row rfl 24 _ _ rfl w3.heap.size C rfl rfl 24 (dia 0 (List.replicate 16 0)) (heap_alloc_new w3 _) HZ.out HZ0.out HO.out ?_) | (refine wpList_load_row rfl 24 _ rfl w3.heap.size rfl 24 C (0, 0) _ (setRow_heap _ _ _ _ _ _ (heap_alloc_new w3 _)) Try.underlying24 rfl HZ.out ?_) | (refine wpList_load_row rfl 24 _ rfl w1.heap.size rfl 24 C (0, 0) _ HW.out Try.underlying24 rfl HZ.out ?_))
  refine (HE.out _).mono ?_
  rintro e w5 ⟨rfl, hb5⟩
  have HB5 := Aside0.mk (below_step (below_setRow (HB3.out.alloc (below_size HB3.out) _) (below_size HB3.out)) hb5)
  clear hb5
  go_wp2
  go_ret
  exact ⟨rfl, HB5.out⟩
theorem lawGen_walk (n i : Int) (w : World) : Calls Try.prog 4 #[.int .i64 n, .int .i64 i] w fun e w' => e = .returned (.bool true) ∧ Below w.heap.size w w' := by
  by_cases h : 2 ≤ n ∧ n ≤ 8
  · by_cases h2 : 0 ≤ i ∧ i ≤ n - 2
    · obtain ⟨N, rfl⟩ := Int.eq_ofNat_of_zero_le (show 0 ≤ n by omega)
      obtain ⟨I, rfl⟩ := Int.eq_ofNat_of_zero_le (show 0 ≤ i by omega)
      exact lawGen_calls N I N 0 (cupB N I) (cupB_len N I) (fun W => specGen_in N I (by omega) (by omega) (by omega) W) (fun W => implGen_in N I (by omega) (by omega) (by omega) W) w
    · exact lawGen_calls n i 0 2 (List.replicate 16 0) rfl (fun W => specGen_out2 n i h h2 W) (fun W => implGen_out2 n i h h2 W) w
  · exact lawGen_calls n i 0 2 (List.replicate 16 0) rfl (fun W => specGen_out1 n i h W) (fun W => implGen_out1 n i h W) w
end Go.Proofs.Ytdmipfmipjpegaa.Hand
