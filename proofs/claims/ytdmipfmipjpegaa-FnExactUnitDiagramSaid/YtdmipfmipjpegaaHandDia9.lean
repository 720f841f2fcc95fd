/- The walk of laws.FnExactUnitDiagram: under way. No condition. -/
import Derived.Test.YtdmipfmipjpegaaHandDia7
import Derived.Test.YtdmipfmipjpegaaHandDia8
namespace Go.Proofs.Ytdmipfmipjpegaa.Hand
open Go.RowKit Go.Proofs.YtdmipfmipjpegaaW.PrintWords Go.Proofs.YtdmipfmipjpegaaW.PrintLast
set_option linter.unusedVariables false
set_option linter.unusedSimpArgs false

set_option maxHeartbeats 8000000 in
theorem lawUnit_calls (n m c : Int) (b : List Int) (hb : b.length = 16) (hs : ∀ W, Calls Try.prog 9 #[.int .i64 n] W fun e w' => e = .returned (.tuple #[.agg (dia m b), .int .i64 c]) ∧ Below W.heap.size W w')
    (hi : ∀ W, Calls Try.prog 10 #[.int .i64 n] W fun e w' => e = .returned (.tuple #[.agg (dia m b), .int .i64 c]) ∧ Below W.heap.size W w') (w : World) :
    Calls Try.prog 3 #[.int .i64 n] w fun e w' => e = .returned (.bool true) ∧ Below w.heap.size w w' := by
  have HS := Aside0.mk hs
  have HI := Aside0.mk hi
  have HE := Aside0.mk (fun W => eqDia_calls m b hb W)
  have HZ := Aside0.mk (show (Try.prog.info? 24).map (·.size) = some (dia m b).size by rw [dia_size, hb]; exact sizeDia)
  have HZ0 := Aside0.mk (show (dia 0 (List.replicate 16 0)).size = (dia m b).size by rw [dia_size, dia_size, hb]; rfl)
  have HO := Aside0.mk (dia_one m b)
  generalize dia m b = C at HS HI HE HZ HZ0 HO
  clear hs hi hb
  go_enter Try.func3, Try.ntmps3
  go_wp2_with fail
  refine (HS.out _).mono ?_
  rintro e w1 ⟨rfl, hb1⟩
  have HB1 := Aside0.mk hb1
  clear hb1
  go_wp2_with (refine wpList_store_row rfl 24 _ _ rfl w1.heap.size C rfl rfl 24 (dia 0 (List.replicate 16 0)) (heap_alloc_new w1 _) HZ.out HZ0.out HO.out ?_)
  obtain ⟨w2, hw2⟩ : ∃ w2, w2 = (w1.alloc (.cells (dia 0 (List.replicate 16 0)) 24)).setRow w1.heap.size C := ⟨_, rfl⟩
  have HG2 := Aside0.mk (show w2.heap[w1.heap.size]? = some (.cells C 24 (0, 0)) by rw [hw2]; exact setRow_heap _ _ _ _ _ _ (heap_alloc_new w1 _))
  have HL2 := Aside0.mk (show w1.heap.size < w2.heap.size by rw [hw2, setRow_size]; simp)
  have HB2 := Aside0.mk (show Below w.heap.size w w2 by rw [hw2]; exact below_setRow (HB1.out.alloc (below_size HB1.out) _) (below_size HB1.out))
  refine (show Calls _ _ _ _ _ from (by have := HI.out w2; rw [hw2] at this; exact this)).mono ?_
  rintro e w3 ⟨rfl, hb3⟩
  rw [← hw2] at hb3
  have HB3 := Aside0.mk (below_step HB2.out hb3)
  have HG3 := Aside0.mk ((hb3.block w1.heap.size HL2.out).trans HG2.out)
  have HL3 := Aside0.mk (Nat.lt_of_lt_of_le HL2.out (below_size hb3))
  clear hb3 hw2 HB2 HG2
  have HW := Aside0.mk (show ((w3.alloc (.cells (dia 0 (List.replicate 16 0)) 24)).setRow w3.heap.size C).heap[w1.heap.size]? = some (.cells C 24 (0, 0)) by
    rw [setRow_other _ _ _ _ (Nat.ne_of_lt HL3.out), heap_alloc_old _ _ HL3.out]
    exact HG3.out)
  go_wp2_with (first | (refine wpList_store_row rfl 24 _ _ rfl w3.heap.size C rfl rfl 24 (dia 0 (List.replicate 16 0)) (heap_alloc_new w3 _) HZ.out HZ0.out HO.out ?_) | (refine wpList_load_row rfl 24 _ rfl w3.heap.size rfl 24 C (0, 0) _ (setRow_heap _ _ _ _ _ _ (heap_alloc_new w3 _)) Try.underlying24 rfl HZ.out ?_) | (refine wpList_load_row rfl 24 _ rfl w1.heap.size rfl 24 C (0, 0) _ HW.out Try.underlying24 rfl HZ.out ?_))
  refine (HE.out _).mono ?_
  rintro e w5 ⟨rfl, hb5⟩
  have HB5 := Aside0.mk (below_step (below_setRow (HB3.out.alloc (below_size HB3.out) _) (below_size HB3.out)) hb5)
  clear hb5
  go_wp2
  go_ret
  exact ⟨rfl, HB5.out⟩
theorem lawUnit_walk (n : Int) (w : World) : Calls Try.prog 3 #[.int .i64 n] w fun e w' => e = .returned (.bool true) ∧ Below w.heap.size w w' := by
  by_cases h : 1 ≤ n ∧ n ≤ 8
  · obtain ⟨N, rfl⟩ := Int.eq_ofNat_of_zero_le (show 0 ≤ n by omega)
    exact lawUnit_calls N N 0 (oneB N N) (oneB_len N N) (fun W => specUnit_in N (by omega) (by omega) W) (fun W => implUnit_in N (by omega) (by omega) W) w
  · exact lawUnit_calls n 0 2 (List.replicate 16 0) rfl (fun W => specUnit_out n h W) (fun W => implUnit_out n h W) w
end Go.Proofs.Ytdmipfmipjpegaa.Hand
