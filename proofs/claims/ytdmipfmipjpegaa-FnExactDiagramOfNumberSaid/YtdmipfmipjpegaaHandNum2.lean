/- DiagramOfNumber: the reference out of range, the program, and the walk of laws.FnExactDiagramOfNumber. No condition. -/
import Derived.Test.YtdmipfmipjpegaaHandNum
namespace Go.Proofs.Ytdmipfmipjpegaa.Hand
open Go.RowKit Go.Proofs.YtdmipfmipjpegaaW.PrintWords Go.Proofs.YtdmipfmipjpegaaW.PrintLast Go.Proofs.YtdmipfmipjpegaaW.PrintMore
set_option linter.unusedVariables false
set_option linter.unusedSimpArgs false

set_option maxHeartbeats 8000000 in
theorem snum_out1 (n k : Int) (h : ¬(1 ≤ n ∧ n ≤ 8)) (w : World) :
    Calls Try.prog 19 #[.int .i64 n, .int .i64 k] w fun e w' => e = .returned (.tuple #[.agg (dia 0 (List.replicate 16 0)), .int .i64 2]) ∧ Below w.heap.size w w' := by
  have HI := Aside0.mk (fun W => sIn_calls n 1 8 false (decide_eq_false h) W)
  clear h
  go_enter Try.func19, Try.ntmps19
  go_wp2_with fail
  refine (HI.out _).mono ?_
  rintro e w0 ⟨rfl, ⟨q, rfl⟩⟩
  have HG := Aside0.mk (show ((w.alloc (.cells (dia 0 (List.replicate 16 0)) 24)).drewN q).heap[w.heap.size]? = some (.cells (dia 0 (List.replicate 16 0)) 24 (0, 0)) from heap_alloc_new w _)
  go_wp2_with (refine wpList_store_row rfl 24 _ _ rfl w.heap.size (dia 0 (List.replicate 16 0)) rfl rfl 24 (dia 0 (List.replicate 16 0)) HG.out sizeDia rfl (dia_one _ _) ?_)
  refine bodyPost_ret (results_ct rfl _ _ w.heap.size 24 (dia 0 (List.replicate 16 0)) (0, 0) _ rfl (setRow_heap _ _ _ _ _ _ HG.out) Try.underlying24 rfl sizeDia) rfl ⟨rfl, below_setRow (pw_below_drewN ((Below.refl _ w).alloc (Nat.le_refl _) _) q) (Nat.le_refl _)⟩

set_option maxHeartbeats 8000000 in
theorem gnum_out1 (n k : Int) (h : ¬(1 ≤ n ∧ n ≤ 8)) (w : World) :
    Calls Try.prog 20 #[.int .i64 n, .int .i64 k] w fun e w' => e = .returned (.tuple #[.agg (dia 0 (List.replicate 16 0)), .int .i64 2]) ∧ Below w.heap.size w w' := by
  have HI := Aside0.mk (fun W => gIn_calls n 1 8 false (decide_eq_false h) W)
  clear h
  go_enter Try.func20, Try.ntmps20
  go_wp2_with fail
  refine (HI.out _).mono ?_
  rintro e w0 ⟨rfl, ⟨q, rfl⟩⟩
  have HG := Aside0.mk (show ((w.alloc (.cells (dia 0 (List.replicate 16 0)) 24)).drewN q).heap[w.heap.size]? = some (.cells (dia 0 (List.replicate 16 0)) 24 (0, 0)) from heap_alloc_new w _)
  go_wp2_with (refine wpList_store_row rfl 24 _ _ rfl w.heap.size (dia 0 (List.replicate 16 0)) rfl rfl 24 (dia 0 (List.replicate 16 0)) HG.out sizeDia rfl (dia_one _ _) ?_)
  refine bodyPost_ret (results_ct rfl _ _ w.heap.size 24 (dia 0 (List.replicate 16 0)) (0, 0) _ rfl (setRow_heap _ _ _ _ _ _ HG.out) Try.underlying24 rfl sizeDia) rfl ⟨rfl, below_setRow (pw_below_drewN ((Below.refl _ w).alloc (Nat.le_refl _) _) q) (Nat.le_refl _)⟩

set_option maxHeartbeats 8000000 in
theorem snum_out2 (N : Nat) (k : Int) (h1 : 1 ≤ N) (h8 : N ≤ 8) (hk : ¬(0 ≤ k ∧ k ≤ ((brk (2 * N) 0 ⟨#[]⟩).length : Int) - 1)) (w : World) :
    Calls Try.prog 19 #[.int .i64 (N : Int), .int .i64 k] w fun e w' => e = .returned (.tuple #[.agg (dia 0 (List.replicate 16 0)), .int .i64 2]) ∧ Below w.heap.size w w' := by
  have hways := brk_ways (2 * N) 0 N ⟨#[]⟩ 17 (by omega) (by omega) (by omega)
  have hl2 := brk_len (2 * N) 0 ⟨#[]⟩
  have hl3 : 2 ^ (2 * N) ≤ 2 ^ 16 := Nat.pow_le_pow_right (by omega) (by omega)
  generalize (brk (2 * N) 0 ⟨#[]⟩).length = L at hk hways hl2
  have HI := Aside0.mk (fun W => sIn_calls (N : Int) 1 8 true (decide_eq_true (by omega)) W)
  have HI2 := Aside0.mk (fun W => sIn_calls k 0 (wrap64 ((L : Int) - 1)) false (decide_eq_false (by unfold wrap64; omega)) W)
  have HW := Aside0.mk (fun W => spec_l01Ways.calls 17 0 (N : Int) (L : Int) W hways)
  have m1 : max (N : Int) 1 = (N : Int) := by omega
  have m2 : min (N : Int) 8 = (N : Int) := by omega
  clear hways hl2 hl3 h1 h8 hk
  go_enter Try.func19, Try.ntmps19
  go_wp2_with fail
  refine (HI.out _).mono ?_
  rintro e w0 ⟨rfl, ⟨q, rfl⟩⟩
  go_wp2_with fail
  refine (HW.out _).mono ?_
  rintro e w0 ⟨rfl, ⟨q2, rfl⟩⟩
  go_wp2_with fail
  refine (HI2.out _).mono ?_
  rintro e w0 ⟨rfl, ⟨q3, rfl⟩⟩
  have HG := Aside0.mk (show ((w.alloc (.cells (dia 0 (List.replicate 16 0)) 24)).drewN (q + q2 + q3)).heap[w.heap.size]? = some (.cells (dia 0 (List.replicate 16 0)) 24 (0, 0)) from heap_alloc_new w _)
  go_wp2_with (refine wpList_store_row rfl 24 _ _ rfl w.heap.size (dia 0 (List.replicate 16 0)) rfl rfl 24 (dia 0 (List.replicate 16 0)) HG.out sizeDia rfl (dia_one _ _) ?_)
  refine bodyPost_ret (results_ct rfl _ _ w.heap.size 24 (dia 0 (List.replicate 16 0)) (0, 0) _ rfl (setRow_heap _ _ _ _ _ _ HG.out) Try.underlying24 rfl sizeDia) rfl ⟨rfl, below_setRow (pw_below_drewN ((Below.refl _ w).alloc (Nat.le_refl _) _) (q + q2 + q3)) (Nat.le_refl _)⟩
set_option maxHeartbeats 8000000 in
theorem gnum_out2 (N : Nat) (k : Int) (h1 : 1 ≤ N) (h8 : N ≤ 8) (hk : ¬(0 ≤ k ∧ k ≤ ((brk (2 * N) 0 ⟨#[]⟩).length : Int) - 1)) (w : World) :
    Calls Try.prog 20 #[.int .i64 (N : Int), .int .i64 k] w fun e w' => e = .returned (.tuple #[.agg (dia 0 (List.replicate 16 0)), .int .i64 2]) ∧ Below w.heap.size w w' := by
  have hl2 := brk_len (2 * N) 0 ⟨#[]⟩
  have hl3 : 2 ^ (2 * N) ≤ 2 ^ 16 := Nat.pow_le_pow_right (by omega) (by omega)
  have HB := Aside0.mk (fun W => impl_bracketings.calls (N : Int) (brk (2 * N) 0 ⟨#[]⟩) W (by unfold impl_bracketings.f; rw [if_pos ⟨by omega, by omega⟩, Int.toNat_natCast]))
  generalize brk (2 * N) 0 ⟨#[]⟩ = L at hk hl2 HB
  have HI := Aside0.mk (fun W => gIn_calls (N : Int) 1 8 true (decide_eq_true (by omega)) W)
  have HI2 := Aside0.mk (fun W => gIn_calls k 0 (wrap64 ((L.length : Int) - 1)) false (decide_eq_false (by unfold wrap64; omega)) W)
  have HLL := Aside0.mk (show L.length ≤ 65536 by omega)
  clear hl2 hl3 h1 h8 hk
  go_enter Try.func20, Try.ntmps20
  go_wp2_with fail
  refine (HI.out _).mono ?_
  rintro e w0 ⟨rfl, ⟨q, rfl⟩⟩
  go_wp2_with fail
  refine (HB.out _).mono ?_
  rintro e w1 ⟨v0, rfl, hr, hb⟩
  have HG := Aside0.mk ((hb.block w.heap.size (by simp)).trans (show ((w.alloc (.cells (dia 0 (List.replicate 16 0)) 24)).drewN q).heap[w.heap.size]? = some (.cells (dia 0 (List.replicate 16 0)) 24 (0, 0)) from heap_alloc_new w _))
  have HBL := Aside0.mk (below_step (pw_below_drewN ((Below.refl _ w).alloc (Nat.le_refl _) (.cells (dia 0 (List.replicate 16 0)) 24)) q) hb)
  obtain ⟨A0, c0, rfl⟩ := Kd.R_slice hr
  clear hr hb HB
  go_wp2_with fail
  refine (HI2.out _).mono ?_
  rintro e w0 ⟨rfl, ⟨q3, rfl⟩⟩
  have HG3 := Aside0.mk (show (w1.drewN q3).heap[w.heap.size]? = some (.cells (dia 0 (List.replicate 16 0)) 24 (0, 0)) from HG.out)
  go_wp2_with (refine wpList_store_row rfl 24 _ _ rfl w.heap.size (dia 0 (List.replicate 16 0)) rfl rfl 24 (dia 0 (List.replicate 16 0)) HG3.out sizeDia rfl (dia_one _ _) ?_)
  refine bodyPost_ret (results_ct rfl _ _ w.heap.size 24 (dia 0 (List.replicate 16 0)) (0, 0) _ rfl (setRow_heap _ _ _ _ _ _ HG3.out) Try.underlying24 rfl sizeDia) rfl ⟨rfl, below_setRow (pw_below_drewN HBL.out q3) (Nat.le_refl _)⟩
set_option maxHeartbeats 8000000 in
theorem gnum_in (N K : Nat) (h1 : 1 ≤ N) (h8 : N ≤ 8) (T : ByteArray) (hT : (brk (2 * N) 0 ⟨#[]⟩)[K]? = some T) (w : World) :
    Calls Try.prog 20 #[.int .i64 (N : Int), .int .i64 (K : Int)] w fun e w' => e = .returned (.tuple #[.agg (dia (readR T).1 (readR T).2.1), .int .i64 0]) ∧ Below w.heap.size w w' := by
  have hmem := List.mem_of_getElem? hT
  have hok := brk_read h1 h8 hmem
  have hsz := brk_sizes (2 * N) 0 ⟨#[]⟩ T hmem
  have hlen : K < (brk (2 * N) 0 ⟨#[]⟩).length := (List.getElem?_eq_some_iff.1 hT).1
  have hl2 := brk_len (2 * N) 0 ⟨#[]⟩
  have hl3 : 2 ^ (2 * N) ≤ 2 ^ 16 := Nat.pow_le_pow_right (by omega) (by omega)
  have HB := Aside0.mk (fun W => impl_bracketings.calls (N : Int) (brk (2 * N) 0 ⟨#[]⟩) W (by unfold impl_bracketings.f; rw [if_pos ⟨by omega, by omega⟩, Int.toNat_natCast]))
  generalize brk (2 * N) 0 ⟨#[]⟩ = L at hT hlen hl2 HB
  have HI := Aside0.mk (fun W => gIn_calls (N : Int) 1 8 true (decide_eq_true (by omega)) W)
  have HI2 := Aside0.mk (fun W => gIn_calls (K : Int) 0 (wrap64 ((L.length : Int) - 1)) true (decide_eq_true (by unfold wrap64; omega)) W)
  have HP := Aside0.mk (fun W => gparse_calls T (by rw [hsz]; show 0 + 2 * N ≤ _; omega) W)
  rw [hok, if_pos rfl] at HP
  have hl := readR_len T
  generalize readR T = r at HP hl ⊢
  obtain ⟨m, b, ok⟩ := r
  simp only at HP hl ⊢
  have HZ := Aside0.mk (show (Try.prog.info? 24).map (·.size) = some (dia m b).size by rw [dia_size, hl]; exact sizeDia)
  have HZ0 := Aside0.mk (show (dia 0 (List.replicate 16 0)).size = (dia m b).size by rw [dia_size, dia_size, hl]; rfl)
  have HO := Aside0.mk (dia_one m b)
  generalize dia m b = C at HP HZ HZ0 HO ⊢
  have hrd : rdOf ByteArray.empty L (K : Int) = T := by
    unfold rdOf
    rw [Int.toNat_natCast, List.getD_eq_getElem?_getD, hT]
    rfl
  obtain ⟨k, hkk⟩ : ∃ k : Int, k = (K : Int) := ⟨_, rfl⟩
  rw [← hkk] at hrd HI2 ⊢
  have p20 : 0 ≤ k := by omega
  have q20 : k < (L.length : Int) := by omega
  have HLL := Aside0.mk (show L.length ≤ 65536 by omega)
  have HRD := Aside0.mk hrd
  have HPQ := Aside0.mk (And.intro p20 q20)
  clear hl hT hlen hl2 hl3 hmem hok hsz h1 h8 hkk hrd p20 q20
  go_enter Try.func20, Try.ntmps20
  go_wp2_with fail
  refine (HI.out _).mono ?_
  rintro e w0 ⟨rfl, ⟨q, rfl⟩⟩
  go_wp2_with fail
  refine (HB.out _).mono ?_
  rintro e w1 ⟨v0, rfl, hr, hb⟩
  have HG := Aside0.mk ((hb.block w.heap.size (by simp)).trans (show ((w.alloc (.cells (dia 0 (List.replicate 16 0)) 24)).drewN q).heap[w.heap.size]? = some (.cells (dia 0 (List.replicate 16 0)) 24 (0, 0)) from heap_alloc_new w _))
  have HBL := Aside0.mk (below_step (pw_below_drewN ((Below.refl _ w).alloc (Nat.le_refl _) (.cells (dia 0 (List.replicate 16 0)) 24)) q) hb)
  have HL1 := Aside0.mk (show w.heap.size < w1.heap.size from Nat.lt_of_lt_of_le (by simp) (below_size hb))
  obtain ⟨A0, c0, rfl⟩ := Kd.R_slice hr
  obtain ⟨ad, ead, hx⟩ := Kd.at_string (Kd.R_reads' hr).2.2 k HPQ.out.1 HPQ.out.2
  cases ead
  rw [HRD.out] at hx
  clear hr hb HB
  go_wp2_with fail
  refine (HI2.out _).mono ?_
  rintro e w0 ⟨rfl, ⟨q3, rfl⟩⟩
  have HG3 := Aside0.mk (show (w1.drewN q3).heap[w.heap.size]? = some (.cells (dia 0 (List.replicate 16 0)) 24 (0, 0)) from HG.out)
  have hx3 : (w1.drewN q3).cell? (ad.add k.toNat) = some (.string T) := hx
  have p20 := eq_true HPQ.out.1
  have q20 := eq_true HPQ.out.2
  go_wp2_with fail
  refine (HP.out _).mono ?_
  rintro e w5 ⟨rfl, hb5⟩
  have HG5 := Aside0.mk ((hb5.block w.heap.size (show w.heap.size < w1.heap.size from HL1.out)).trans HG3.out)
  have HB5 := Aside0.mk (below_step (pw_below_drewN HBL.out q3) hb5)
  clear hb5 hx hx3 HG HG3 HBL
  go_wp2_with (refine wpList_store_row rfl 24 _ _ rfl w.heap.size C rfl rfl 24 (dia 0 (List.replicate 16 0)) HG5.out HZ.out HZ0.out HO.out ?_)
  refine bodyPost_ret (results_ct rfl _ _ w.heap.size 24 C (0, 0) _ rfl (setRow_heap _ _ _ _ _ _ HG5.out) Try.underlying24 rfl HZ.out) rfl ⟨rfl, below_setRow HB5.out (Nat.le_refl _)⟩
set_option maxHeartbeats 8000000 in
theorem lawNum_calls (n k m c : Int) (b : List Int) (hb : b.length = 16) (hs : ∀ W, Calls Try.prog 19 #[.int .i64 n, .int .i64 k] W fun e w' => e = .returned (.tuple #[.agg (dia m b), .int .i64 c]) ∧ Below W.heap.size W w')
    (hi : ∀ W, Calls Try.prog 20 #[.int .i64 n, .int .i64 k] W fun e w' => e = .returned (.tuple #[.agg (dia m b), .int .i64 c]) ∧ Below W.heap.size W w') (w : World) :
    Calls Try.prog 7 #[.int .i64 n, .int .i64 k] w fun e w' => e = .returned (.bool true) ∧ Below w.heap.size w w' := by
  have HS := Aside0.mk hs
  have HI := Aside0.mk hi
  have HE := Aside0.mk (fun W => eqDia_calls m b hb W)
  have HZ := Aside0.mk (show (Try.prog.info? 24).map (·.size) = some (dia m b).size by rw [dia_size, hb]; exact sizeDia)
  have HZ0 := Aside0.mk (show (dia 0 (List.replicate 16 0)).size = (dia m b).size by rw [dia_size, dia_size, hb]; rfl)
  have HO := Aside0.mk (dia_one m b)
  generalize dia m b = C at HS HI HE HZ HZ0 HO
  clear hs hi hb
  go_enter Try.func7, Try.ntmps7
  go_wp2_with fail
  refine (HS.out _).mono ?_
  rintro e w1 ⟨rfl, hb1⟩
  have HB1 := Aside0.mk hb1
  clear hb1
  go_wp2_with (refine wpList_store_row rfl 24 _ _ rfl w1.heap.size C rfl rfl 24 (dia 0 (List.replicate 16 0)) (heap_alloc_new w1 _) HZ.out HZ0.out HO.out ?_)
  obtain ⟨w2, hw2⟩ : ∃ w2, w2 = (w1.alloc (.cells (dia 0 (List.replicate 16 0)) 24)).setRow w1.heap.size C := ⟨_, rfl⟩
  have HG2 := Aside0.mk (show w2.heap[w1.heap.size]? = some (.cells C 24 (0, 0)) by rw [hw2]; exact setRow_heap _ _ _ _ _ _ (heap_alloc_new w1 _))
  have HL2 := Aside0.mk (show w1.heap.size < w2.heap.size by rw [hw2, setRow_size]; simp)
  have HB2 := Aside0.mk (show Below w.heap.size w w2 by rw [hw2]; exact below_setRow (HB1.out.alloc (below_size HB1.out) _) (below_size HB1.out))
  refine (show Calls _ _ _ _ _ from (by have := HI.out w2; rw [hw2] at this; exact this)).mono ?_
  rintro e w3 ⟨rfl, hb3⟩
  rw [← hw2] at hb3
  have HB3 := Aside0.mk (below_step HB2.out hb3)
  have HG3 := Aside0.mk ((hb3.block w1.heap.size HL2.out).trans HG2.out)
  have HL3 := Aside0.mk (Nat.lt_of_lt_of_le HL2.out (below_size hb3))
  clear hb3 hw2 HB2 HG2
  have HW := Aside0.mk (show ((w3.alloc (.cells (dia 0 (List.replicate 16 0)) 24)).setRow w3.heap.size C).heap[w1.heap.size]? = some (.cells C 24 (0, 0)) by
    rw [setRow_other _ _ _ _ (Nat.ne_of_lt HL3.out), heap_alloc_old _ _ HL3.out]
    exact HG3.out)
  go_wp2_with (first | (refine wpList_store_row rfl 24 _ _ rfl w3.heap.size C rfl rfl 24 (dia 0 (List.replicate 16 0)) (heap_alloc_new w3 _) HZ.out HZ0.out HO.out ?_) | (refine wpList_load_row rfl 24 _ rfl w3.heap.size rfl 24 C (0, 0) _ (setRow_heap _ _ _ _ _ _ (heap_alloc_new w3 _)) Try.underlying24 rfl HZ.out ?_) | (refine wpList_load_row rfl 24 _ rfl w1.heap.size rfl 24 C (0, 0) _ HW.out Try.underlying24 rfl HZ.out ?_))
  refine (HE.out _).mono ?_
  rintro e w5 ⟨rfl, hb5⟩
  have HB5 := Aside0.mk (below_step (below_setRow (HB3.out.alloc (below_size HB3.out) _) (below_size HB3.out)) hb5)
  clear hb5
  go_wp2
  go_ret
  exact ⟨rfl, HB5.out⟩
theorem lawNum_walk (n k : Int) (w : World) : Calls Try.prog 7 #[.int .i64 n, .int .i64 k] w fun e w' => e = .returned (.bool true) ∧ Below w.heap.size w w' := by
  by_cases h : 1 ≤ n ∧ n ≤ 8
  · obtain ⟨N, rfl⟩ := Int.eq_ofNat_of_zero_le (show 0 ≤ n by omega)
    by_cases h2 : 0 ≤ k ∧ k ≤ ((brk (2 * N) 0 ⟨#[]⟩).length : Int) - 1
    · obtain ⟨K, rfl⟩ := Int.eq_ofNat_of_zero_le h2.1
      have hK : K < (brk (2 * N) 0 ⟨#[]⟩).length := by omega
      have hT := List.getElem?_eq_getElem hK
      exact lawNum_calls N K _ 0 _ (readR_len _) (fun W => snum_in N K (by omega) (by omega) _ hT W) (fun W => gnum_in N K (by omega) (by omega) _ hT W) w
    · exact lawNum_calls N k 0 2 (List.replicate 16 0) rfl (fun W => snum_out2 N k (by omega) (by omega) h2 W) (fun W => gnum_out2 N k (by omega) (by omega) h2 W) w
  · exact lawNum_calls n k 0 2 (List.replicate 16 0) rfl (fun W => snum_out1 n k h W) (fun W => gnum_out1 n k h W) w
end Go.Proofs.Ytdmipfmipjpegaa.Hand
