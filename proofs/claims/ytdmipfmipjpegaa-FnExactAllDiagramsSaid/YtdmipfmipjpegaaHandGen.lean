/- Contracts of spec.l01Cup and of impl.generator. No condition. -/
import Derived.Test.YtdmipfmipjpegaaHandDia4
namespace Go.Proofs.Ytdmipfmipjpegaa.Hand
open Go.RowKit Go.Proofs.YtdmipfmipjpegaaW.PrintWords Go.Proofs.YtdmipfmipjpegaaW.PrintLast
set_option linter.unusedVariables false
set_option linter.unusedSimpArgs false

/-- The bytes of a generator. -/
def cupB (N I : Nat) : List Int := jn (jn (oneB N N) I (I + 1)) (N + I) (N + I + 1)
theorem cupB_len (N I : Nat) : (cupB N I).length = 16 := by unfold cupB; rw [jn_len, jn_len, oneB_len]
theorem wr1 {I N : Nat} (hN : N ≤ 8) (hI : I + 2 ≤ N) : wrap64 ((I : Int) + 1) = ((I + 1 : Nat) : Int) ∧ wrap64 ((N : Int) + (I : Int)) = ((N + I : Nat) : Int) ∧ wrap64 (((N + I : Nat) : Int) + 1) = ((N + I + 1 : Nat) : Int) := by
  unfold wrap64
  omega
set_option maxHeartbeats 8000000 in
theorem cup_calls (N I : Nat) (hN : N ≤ 8) (hI : I + 2 ≤ N) (w : World) :
    Calls Try.prog 31 #[.int .i64 (N : Int), .int .i64 (I : Int)] w fun e w' => e = .returned (.agg (dia N (cupB N I))) ∧ Below w.heap.size w w' := by
  obtain ⟨e1, e2, e3⟩ := wr1 hN hI
  have H1 := Aside0.mk (fun W => one_calls N hN W)
  have H2 := Aside0.mk (fun W => join_calls N (oneB N N) (oneB_len N N) I (I + 1) (by omega) (by omega) W)
  have H3 := Aside0.mk (fun W => join_calls N (jn (oneB N N) I (I + 1)) (by rw [jn_len, oneB_len]) (N + I) (N + I + 1) (by omega) (by omega) W)
  rw [← e1] at H2
  rw [← e3, ← e2] at H3
  have HZ := Aside0.mk (show (Try.prog.info? 24).map (·.size) = some (dia (N : Int) (cupB N I)).size by rw [dia_size, cupB_len]; exact sizeDia)
  have HZ0 := Aside0.mk (show (dia 0 (List.replicate 16 0)).size = (dia (N : Int) (cupB N I)).size by rw [dia_size, dia_size, cupB_len]; rfl)
  clear e1 e2 e3 hN hI
  go_enter Try.func31, Try.ntmps31
  go_wp2_with fail
  refine (H1.out _).mono ?_
  rintro e w1 ⟨rfl, hb1⟩
  have HG1 := Aside0.mk ((hb1.block w.heap.size (by simp)).trans (heap_alloc_new w (.cells (dia 0 (List.replicate 16 0)) 24)))
  have HB1 := Aside0.mk (below_step ((Below.refl _ w).alloc (Nat.le_refl _) _) hb1)
  have HL1 := Aside0.mk (show w.heap.size < w1.heap.size from Nat.lt_of_lt_of_le (by simp) (below_size hb1))
  clear hb1
  go_wp2_with fail
  refine (H2.out _).mono ?_
  rintro e w2 ⟨rfl, hb2⟩
  have HG2 := Aside0.mk ((hb2.block w.heap.size HL1.out).trans HG1.out)
  have HB2 := Aside0.mk (below_step HB1.out hb2)
  have HL2 := Aside0.mk (Nat.lt_of_lt_of_le HL1.out (below_size hb2))
  clear hb2
  go_wp2_with fail
  refine (H3.out _).mono ?_
  rintro e w3 ⟨rfl, hb3⟩
  have HG3 := Aside0.mk ((hb3.block w.heap.size HL2.out).trans HG2.out)
  have HB3 := Aside0.mk (below_step HB2.out hb3)
  clear hb3
  go_wp2_with (refine wpList_store_row rfl 24 _ _ rfl w.heap.size (dia N (cupB N I)) rfl rfl 24 (dia 0 (List.replicate 16 0)) HG3.out HZ.out HZ0.out (dia_one _ _) ?_)
  refine bodyPost_ret (results_cell_row rfl _ _ w.heap.size 24 _ (0, 0) _ rfl (setRow_heap _ _ _ _ _ _ HG3.out) Try.underlying24 rfl HZ.out) rfl ⟨rfl, below_setRow HB3.out (Nat.le_refl _)⟩
set_option maxHeartbeats 8000000 in
theorem gen_calls (N I : Nat) (hN : N ≤ 8) (hI : I + 2 ≤ N) (w : World) :
    Calls Try.prog 32 #[.int .i64 (N : Int), .int .i64 (I : Int)] w fun e w' => e = .returned (.agg (dia N (cupB N I))) ∧ Below w.heap.size w w' := by
  obtain ⟨e1, e2, e3⟩ := wr1 hN hI
  have H1 := Aside0.mk (fun W => unit_calls N hN W)
  have H2 := Aside0.mk (fun B W => joinI_calls N (oneB N N) (oneB_len N N) I (I + 1) (by omega) (by omega) B W)
  have H3 := Aside0.mk (fun B W => joinI_calls N (jn (oneB N N) I (I + 1)) (by rw [jn_len, oneB_len]) (N + I) (N + I + 1) (by omega) (by omega) B W)
  rw [← e1] at H2
  rw [← e3, ← e2] at H3
  have HZ := Aside0.mk (show (Try.prog.info? 24).map (·.size) = some (dia (N : Int) (cupB N I)).size by rw [dia_size, cupB_len]; exact sizeDia)
  have HZ0 := Aside0.mk (show (dia 0 (List.replicate 16 0)).size = (dia (N : Int) (cupB N I)).size by rw [dia_size, dia_size, cupB_len]; rfl)
  have HZ1 := Aside0.mk (show (Try.prog.info? 24).map (·.size) = some (dia (N : Int) (oneB N N)).size by rw [dia_size, oneB_len]; exact sizeDia)
  have HZ2 := Aside0.mk (show (dia 0 (List.replicate 16 0)).size = (dia (N : Int) (oneB N N)).size by rw [dia_size, dia_size, oneB_len]; rfl)
  clear e1 e2 e3 hN hI
  go_enter Try.func32, Try.ntmps32
  go_wp2_with fail
  refine (H1.out _).mono ?_
  rintro e w1 ⟨rfl, hb1⟩
  have HG1 := Aside0.mk ((hb1.block w.heap.size (by simp)).trans (heap_alloc_new w (.cells (dia 0 (List.replicate 16 0)) 24)))
  have HB1 := Aside0.mk (below_step ((Below.refl _ w).alloc (Nat.le_refl _) _) hb1)
  have HL1 := Aside0.mk (show w.heap.size < w1.heap.size from Nat.lt_of_lt_of_le (by simp) (below_size hb1))
  clear hb1
  go_wp2_with (refine wpList_store_row rfl 24 _ _ rfl w1.heap.size (dia N (oneB N N)) rfl rfl 24 (dia 0 (List.replicate 16 0)) (heap_alloc_new w1 _) HZ1.out HZ2.out (dia_one _ _) ?_)
  obtain ⟨w2, hw2⟩ : ∃ w2, w2 = (w1.alloc (.cells (dia 0 (List.replicate 16 0)) 24)).setRow w1.heap.size (dia N (oneB N N)) := ⟨_, rfl⟩
  have HK2 := Aside0.mk (show w2.heap[w1.heap.size]? = some (.cells (dia N (oneB N N)) 24 (0, 0)) by rw [hw2]; exact setRow_heap _ _ _ _ _ _ (heap_alloc_new w1 _))
  have HG2 := Aside0.mk (show w2.heap[w.heap.size]? = some (.cells (dia 0 (List.replicate 16 0)) 24 (0, 0)) by
    rw [hw2, setRow_other _ _ _ _ (Nat.ne_of_lt HL1.out), heap_alloc_old _ _ HL1.out]
    exact HG1.out)
  have HB2 := Aside0.mk (show Below w.heap.size w w2 by rw [hw2]; exact below_setRow (HB1.out.alloc (below_size HB1.out) _) (below_size HB1.out))
  have HL2 := Aside0.mk (show w.heap.size < w2.heap.size by rw [hw2, setRow_size]; simp; have := HL1.out; omega)
  have H2' := Aside0.mk (H2.out _ _ HK2.out)
  rw [hw2] at H2'
  refine H2'.out.mono ?_
  rintro e w3 ⟨rfl, hk3, hb3⟩
  rw [← hw2] at hb3
  have HK3 := Aside0.mk hk3
  have HG3 := Aside0.mk (((hb3 w1.heap.size (Nat.le_refl _)).block w.heap.size HL1.out).trans HG2.out)
  have HB3 := Aside0.mk (show Below w.heap.size w w3 from HB2.out.trans (hb3 w.heap.size (Nat.le_of_lt HL1.out)))
  clear hk3 hb3 HK2 HG2 HB2 HL2 H2' H2 hw2
  go_wp2_with fail
  refine (H3.out _ _ HK3.out).mono ?_
  rintro e w4 ⟨rfl, hk4, hb4⟩
  have HK4 := Aside0.mk (show w4.heap[w1.heap.size]? = some (.cells (dia N (cupB N I)) 24 (0, 0)) from hk4)
  have HG4 := Aside0.mk (((hb4 w1.heap.size (Nat.le_refl _)).block w.heap.size HL1.out).trans HG3.out)
  have HB4 := Aside0.mk (show Below w.heap.size w w4 from HB3.out.trans (hb4 w.heap.size (Nat.le_of_lt HL1.out)))
  clear hk4 hb4 HK3 HG3 HB3
  go_wp2_with (first | (refine wpList_load_row rfl 24 _ rfl w1.heap.size rfl 24 (dia N (cupB N I)) (0, 0) _ HK4.out Try.underlying24 rfl HZ.out ?_) | (refine wpList_store_row rfl 24 _ _ rfl w.heap.size (dia N (cupB N I)) rfl rfl 24 (dia 0 (List.replicate 16 0)) HG4.out HZ.out HZ0.out (dia_one _ _) ?_))
  refine bodyPost_ret (results_cell_row rfl _ _ w.heap.size 24 _ (0, 0) _ rfl (setRow_heap _ _ _ _ _ _ HG4.out) Try.underlying24 rfl HZ.out) rfl ⟨rfl, below_setRow HB4.out (Nat.le_refl _)⟩
end Go.Proofs.Ytdmipfmipjpegaa.Hand
