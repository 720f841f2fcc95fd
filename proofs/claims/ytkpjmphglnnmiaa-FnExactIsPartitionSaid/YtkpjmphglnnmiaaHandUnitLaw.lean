/- The contracts of both UnitPartition and the walk of laws.FnExactUnitPartition. No condition. -/
import Derived.Test.YtkpjmphglnnmiaaHandUnit
namespace Go.Proofs.Ytkpjmphglnnmiaa.Hand
open Go.RowKit Go.Proofs.YtkpjmphglnnmiaaW.PrintWords Go.Proofs.YtkpjmphglnnmiaaW.PrintLast
set_option linter.unusedVariables false
set_option linter.unusedSimpArgs false

/-- The bytes of the unit. -/
def UB (N : Nat) : List Int := td (lb N (2 * N)) (2 * N) 0 (List.replicate 8 0) 0
theorem UB_len (N : Nat) : (UB N).length = 8 := td_len _ _ _ _ _ rfl
/-- The labels of the unit. -/
def ul (N i : Nat) : Int := ((i % N : Nat) : Int)
theorem ul_wf (N i : Nat) (h1 : 1 ≤ N) (h4 : N ≤ 4) : (Lit.int .i64 (ul N i)).wf = true := by
  have := Nat.mod_lt i (show 0 < N by omega)
  unfold ul
  generalize i % N = x at this
  have e1 : IntKind.i64.min = -9223372036854775808 := by decide
  have e2 : IntKind.i64.max = 9223372036854775807 := by decide
  simp only [Lit.wf, e1, e2, Bool.and_eq_true, decide_eq_true_eq]
  omega
theorem UB_named (N : Nat) (h1 : 1 ≤ N) (h4 : N ≤ 4) : nmB (ul N) (2 * N) = UB N := by
  have : N = 1 ∨ N = 2 ∨ N = 3 ∨ N = 4 := by omega
  rcases this with rfl | rfl | rfl | rfl <;> decide
theorem unit1_calls (N i : Nat) (h1 : 1 ≤ N) (h4 : N ≤ 4) (q : Addr) (w : World) (hc : w.cell? q = some (.int .i64 (N : Int))) :
    Calls Try.prog 25 #[.int .i64 (i : Int), .pointer (some q)] w fun e w2 => e = .returned (.int .i64 (ul N i)) ∧ w2 = w := by
  have pz : ((N : Int) == 0) = false := by rw [beq_eq_false_iff_ne]; omega
  have pz2 : ((N : Int) = 0) = False := eq_false (by omega)
  have pz3 : (N == 0) = false := by rw [beq_eq_false_iff_ne]; omega
  have pz4 : (N = 0) = False := eq_false (by omega)
  have n0 : (0 : Int) ≤ (N : Int) := by omega
  have p1 : (0 : Int) ≤ (i : Int) := by omega
  obtain ⟨x, hx⟩ : ∃ x, ul N i = x := ⟨_, rfl⟩
  have ex : (i : Int) % (N : Int) = x := by rw [← hx]; exact (Int.natCast_emod i N).symm ▸ rfl
  have ex2 : Int.tmod (i : Int) (N : Int) = x := by rw [Int.tmod_eq_emod_of_nonneg (by omega)]; exact ex
  rw [hx]
  clear h1 h4 hx
  go_enter Try.func25, Try.ntmps25
  go_wp2
  go_ret
  exact ⟨rfl, rfl⟩


theorem l01In_calls (N : Nat) (h1 : 1 ≤ N) (h8 : N ≤ 4) (w : World) :
    Calls Try.prog 23 #[.int .i64 (N : Int), .int .i64 1, .int .i64 4] w fun e w' => e = .returned (.bool true) ∧ Drawn0 w w' := by
  have b1 : decide ((1 : Int) ≤ (N : Int)) = true := decide_eq_true (by omega)
  have b1' : decide (1 ≤ N) = true := decide_eq_true h1
  have b2 : decide ((N : Int) ≤ 4) = true := decide_eq_true (by omega)
  have b2' : decide (N ≤ 4) = true := decide_eq_true h8
  clear h1 h8
  go_enter Try.func23, Try.ntmps23
  go_wp2
  go_ret
  exact ⟨by first | rfl | (simp [*]; done), by repeat (first | exact Drawn0.refl _ | apply Drawn0.step)⟩
set_option maxHeartbeats 8000000 in
theorem specUnit_in (N : Nat) (h1 : 1 ≤ N) (h8 : N ≤ 4) (w : World) :
    Calls Try.prog 9 #[.int .i64 (N : Int)] w fun e w' => e = .returned (.tuple #[.agg (par N (UB N)), .int .i64 0]) ∧ Below w.heap.size w w' := by
  have HN := Aside0.mk h8
  have HN1 := Aside0.mk h1
  have b1 : decide ((1 : Int) ≤ (N : Int)) = true := decide_eq_true (by omega)
  have b1' : decide (1 ≤ N) = true := decide_eq_true h1
  have b2 : decide ((N : Int) ≤ 4) = true := decide_eq_true (by omega)
  have b2' : decide (N ≤ 4) = true := decide_eq_true h8
  have HZ := Aside0.mk (show (Try.prog.info? 26).map (·.size) = some (par (N : Int) (UB N)).size by rw [par_size, UB_len]; exact sizePar)
  have HZ0 := Aside0.mk (show (par 0 (List.replicate 8 0)).size = (par (N : Int) (UB N)).size by rw [par_size, par_size, UB_len]; rfl)
  have HI := Aside0.mk (fun W => l01In_calls N h1 h8 W)
  clear h1 h8
  go_enter Try.func9, Try.ntmps9
  go_wp2_with fail
  refine (HI.out _).mono ?_
  rintro e w0 ⟨rfl, ⟨q, rfl⟩⟩
  go_wp2_with fail
  with_reducible refine (one_calls N HN1.out HN.out _).mono ?_
  rintro e w1 ⟨rfl, hb⟩
  have HG := Aside0.mk ((hb.block w.heap.size (by simp)).trans (heap_alloc_new w (.cells (par 0 (List.replicate 8 0)) 26)))
  have HB := Aside0.mk (below_step (pw_below_drewN ((Below.refl _ w).alloc (Nat.le_refl _) _) q) hb)
  clear hb
  go_wp2_with (refine wpList_store_row rfl 26 _ _ rfl w.heap.size (par N (UB N)) rfl rfl 26 (par 0 (List.replicate 8 0)) HG.out HZ.out HZ0.out (par_one _ _) ?_)
  refine bodyPost_ret (results_ct rfl _ _ w.heap.size 26 _ (0, 0) _ rfl (setRow_heap _ _ _ _ _ _ HG.out) Try.underlying26 rfl HZ.out) rfl ⟨rfl, below_setRow HB.out (Nat.le_refl _)⟩
theorem implIn_calls (N : Nat) (h1 : 1 ≤ N) (h8 : N ≤ 4) (w : World) :
    Calls Try.prog 19 #[.int .i64 (N : Int), .int .i64 1, .int .i64 4] w fun e w' => e = .returned (.bool true) ∧ Drawn0 w w' := by
  have b1 : decide ((1 : Int) ≤ (N : Int)) = true := decide_eq_true (by omega)
  have b1' : decide (1 ≤ N) = true := decide_eq_true h1
  have b2 : decide ((N : Int) ≤ 4) = true := decide_eq_true (by omega)
  have b2' : decide (N ≤ 4) = true := decide_eq_true h8
  clear h1 h8
  go_enter Try.func19, Try.ntmps19
  go_wp2
  go_ret
  exact ⟨by first | rfl | (simp [*]; done), by repeat (first | exact Drawn0.refl _ | apply Drawn0.step)⟩
set_option maxHeartbeats 8000000 in
theorem implUnit_in (N : Nat) (h1 : 1 ≤ N) (h8 : N ≤ 4) (w : World) :
    Calls Try.prog 10 #[.int .i64 (N : Int)] w fun e w' => e = .returned (.tuple #[.agg (par N (UB N)), .int .i64 0]) ∧ Below w.heap.size w w' := by
  have HN := Aside0.mk h8
  have HN1 := Aside0.mk h1
  have HZ := Aside0.mk (show (Try.prog.info? 26).map (·.size) = some (par (N : Int) (UB N)).size by rw [par_size, UB_len]; exact sizePar)
  have HZ0 := Aside0.mk (show (par 0 (List.replicate 8 0)).size = (par (N : Int) (UB N)).size by rw [par_size, par_size, UB_len]; rfl)
  have HI := Aside0.mk (fun W => implIn_calls N h1 h8 W)
  have HUB := Aside0.mk (UB_named N h1 h8)
  clear h1 h8
  go_enter Try.func10, Try.ntmps10
  go_wp2_with fail
  refine (HI.out _).mono ?_
  rintro e w0 ⟨rfl, ⟨q, rfl⟩⟩
  obtain ⟨W, hW⟩ : ∃ W, W = ((w.alloc (.cells #[.int .i64 (N : Int)] 2)).alloc (.cells (par 0 (List.replicate 8 0)) 26)).drewN q := ⟨_, rfl⟩
  have HB0 := Aside0.mk (show Below w.heap.size w W by rw [hW]; exact pw_below_drewN (((Below.refl _ w).alloc (Nat.le_refl _) _).alloc (by simp) _) q)
  have HC0 := Aside0.mk (show W.heap[w.heap.size]? = some (.cells #[.int .i64 (N : Int)] 2 (0, 0)) by rw [hW]; exact heap_alloc2_old _ _ _)
  have HR0 := Aside0.mk (show W.heap[w.heap.size + 1]? = some (.cells (par 0 (List.replicate 8 0)) 26 (0, 0)) by rw [hW]; exact heap_alloc2_new _ _ _)
  have HSZ := Aside0.mk (show w.heap.size + 1 < W.heap.size from (Array.getElem?_eq_some_iff.1 HR0.out).1)
  have zc : W.cell? ⟨w.heap.size, 0, none⟩ = some (.int .i64 (N : Int)) := by rw [cell_of_row _ _ _ _ _ _ HC0.out]; rfl
  have HCC := Aside0.mk zc
  have key := named_unit N HN.out (ul N) (fun i => ul_wf N i HN1.out HN.out) ⟨w.heap.size, 0, none⟩ W (fun i hi w' hb => unit1_calls N i HN1.out HN.out _ w' ((hb.cell (p := ⟨w.heap.size, 0, none⟩) (by have := HSZ.out; show w.heap.size < W.heap.size; omega)).trans HCC.out))
  rw [HUB.out, hW] at key
  have HKEY := Aside0.mk key
  have HWW := Aside0.mk hW
  clear key zc hW
  go_wp2_with fail
  refine HKEY.out.mono ?_
  rintro e w1 ⟨rfl, hb⟩
  rw [← HWW.out] at hb
  clear HKEY
  have HG := Aside0.mk ((hb.block (w.heap.size + 1) HSZ.out).trans HR0.out)
  have HB := Aside0.mk (below_step HB0.out hb)
  clear hb
  go_wp2_with (refine wpList_store_row rfl 26 _ _ rfl (w.heap.size + 1) (par N (UB N)) rfl rfl 26 (par 0 (List.replicate 8 0)) HG.out HZ.out HZ0.out (par_one _ _) ?_)
  refine bodyPost_ret (results_ct rfl _ _ (w.heap.size + 1) 26 _ (0, 0) _ rfl (setRow_heap _ _ _ _ _ _ HG.out) Try.underlying26 rfl HZ.out) rfl ⟨rfl, below_setRow HB.out (by omega)⟩


theorem specIn_out (n : Int) (h : ¬(1 ≤ n ∧ n ≤ 4)) (w : World) :
    Calls Try.prog 23 #[.int .i64 n, .int .i64 1, .int .i64 4] w fun e w' => e = .returned (.bool false) ∧ Drawn0 w w' := by
  by_cases h1 : 1 ≤ n
  · have b1 : decide ((1 : Int) ≤ n) = true := decide_eq_true h1
    have b2 : decide (n ≤ 4) = false := decide_eq_false (by omega)
    clear h h1
    go_enter Try.func23, Try.ntmps23
    go_wp2
    go_ret
    exact ⟨by first | rfl | (simp [*]; done), by repeat (first | exact Drawn0.refl _ | apply Drawn0.step)⟩
  · have b1 : decide ((1 : Int) ≤ n) = false := decide_eq_false h1
    clear h h1
    go_enter Try.func23, Try.ntmps23
    go_wp2
    go_ret
    exact ⟨by first | rfl | (simp [*]; done), by repeat (first | exact Drawn0.refl _ | apply Drawn0.step)⟩
set_option maxHeartbeats 4000000 in
theorem specUnit_out (n : Int) (h : ¬(1 ≤ n ∧ n ≤ 4)) (w : World) :
    Calls Try.prog 9 #[.int .i64 n] w fun e w' => e = .returned (.tuple #[.agg (par 0 (List.replicate 8 0)), .int .i64 2]) ∧ Below w.heap.size w w' := by
  have HI := Aside0.mk (fun W => specIn_out n h W)
  clear h
  go_enter Try.func9, Try.ntmps9
  go_wp2_with fail
  refine (HI.out _).mono ?_
  rintro e w0 ⟨rfl, ⟨q, rfl⟩⟩
  have HG := Aside0.mk (show ((w.alloc (.cells (par 0 (List.replicate 8 0)) 26)).drewN q).heap[w.heap.size]? = some (.cells (par 0 (List.replicate 8 0)) 26 (0, 0)) from heap_alloc_new w _)
  go_wp2_with (refine wpList_store_row rfl 26 _ _ rfl w.heap.size (par 0 (List.replicate 8 0)) rfl rfl 26 (par 0 (List.replicate 8 0)) HG.out sizePar rfl (par_one _ _) ?_)
  refine bodyPost_ret (results_ct rfl _ _ w.heap.size 26 (par 0 (List.replicate 8 0)) (0, 0) _ rfl (setRow_heap _ _ _ _ _ _ HG.out) Try.underlying26 rfl sizePar) rfl ⟨rfl, below_setRow (pw_below_drewN ((Below.refl _ w).alloc (Nat.le_refl _) _) q) (Nat.le_refl _)⟩
theorem implIn_out (n : Int) (h : ¬(1 ≤ n ∧ n ≤ 4)) (w : World) :
    Calls Try.prog 19 #[.int .i64 n, .int .i64 1, .int .i64 4] w fun e w' => e = .returned (.bool false) ∧ Drawn0 w w' := by
  by_cases h1 : 1 ≤ n
  · have b1 : decide ((1 : Int) ≤ n) = true := decide_eq_true h1
    have b2 : decide (n ≤ 4) = false := decide_eq_false (by omega)
    clear h h1
    go_enter Try.func19, Try.ntmps19
    go_wp2
    go_ret
    exact ⟨by first | rfl | (simp [*]; done), by repeat (first | exact Drawn0.refl _ | apply Drawn0.step)⟩
  · have b1 : decide ((1 : Int) ≤ n) = false := decide_eq_false h1
    clear h h1
    go_enter Try.func19, Try.ntmps19
    go_wp2
    go_ret
    exact ⟨by first | rfl | (simp [*]; done), by repeat (first | exact Drawn0.refl _ | apply Drawn0.step)⟩
set_option maxHeartbeats 4000000 in
theorem implUnit_out (n : Int) (h : ¬(1 ≤ n ∧ n ≤ 4)) (w : World) :
    Calls Try.prog 10 #[.int .i64 n] w fun e w' => e = .returned (.tuple #[.agg (par 0 (List.replicate 8 0)), .int .i64 2]) ∧ Below w.heap.size w w' := by
  have HI := Aside0.mk (fun W => implIn_out n h W)
  clear h
  go_enter Try.func10, Try.ntmps10
  go_wp2_with fail
  refine (HI.out _).mono ?_
  rintro e w0 ⟨rfl, ⟨q, rfl⟩⟩
  have HG := Aside0.mk (show (((w.alloc (.cells #[.int .i64 n] 2)).alloc (.cells (par 0 (List.replicate 8 0)) 26)).drewN q).heap[w.heap.size + 1]? = some (.cells (par 0 (List.replicate 8 0)) 26 (0, 0)) from heap_alloc2_new _ _ _)
  go_wp2_with (refine wpList_store_row rfl 26 _ _ rfl (w.heap.size + 1) (par 0 (List.replicate 8 0)) rfl rfl 26 (par 0 (List.replicate 8 0)) HG.out sizePar rfl (par_one _ _) ?_)
  refine bodyPost_ret (results_ct rfl _ _ (w.heap.size + 1) 26 (par 0 (List.replicate 8 0)) (0, 0) _ rfl (setRow_heap _ _ _ _ _ _ HG.out) Try.underlying26 rfl sizePar) rfl ⟨rfl, below_setRow (pw_below_drewN (((Below.refl _ w).alloc (Nat.le_refl _) _).alloc (by simp) _) q) (by omega)⟩


set_option maxHeartbeats 8000000 in
theorem lawUnit_calls (n m c : Int) (b : List Int) (hb : b.length = 8) (hs : ∀ W, Calls Try.prog 9 #[.int .i64 n] W fun e w' => e = .returned (.tuple #[.agg (par m b), .int .i64 c]) ∧ Below W.heap.size W w')
    (hi : ∀ W, Calls Try.prog 10 #[.int .i64 n] W fun e w' => e = .returned (.tuple #[.agg (par m b), .int .i64 c]) ∧ Below W.heap.size W w') (w : World) :
    Calls Try.prog 4 #[.int .i64 n] w fun e w' => e = .returned (.bool true) ∧ Below w.heap.size w w' := by
  have HS := Aside0.mk hs
  have HI := Aside0.mk hi
  have HE := Aside0.mk (fun W => eqPar_calls m b hb W)
  have HZ := Aside0.mk (show (Try.prog.info? 26).map (·.size) = some (par m b).size by rw [par_size, hb]; exact sizePar)
  have HZ0 := Aside0.mk (show (par 0 (List.replicate 8 0)).size = (par m b).size by rw [par_size, par_size, hb]; rfl)
  have HO := Aside0.mk (par_one m b)
  generalize par m b = C at HS HI HE HZ HZ0 HO
  clear hs hi hb
  go_enter Try.func4, Try.ntmps4
  go_wp2_with fail
  refine (HS.out _).mono ?_
  rintro e w1 ⟨rfl, hb1⟩
  have HB1 := Aside0.mk hb1
  clear hb1
  go_wp2_with (refine wpList_store_row rfl 26 _ _ rfl w1.heap.size C rfl rfl 26 (par 0 (List.replicate 8 0)) (heap_alloc_new w1 _) HZ.out HZ0.out HO.out ?_)
  obtain ⟨w2, hw2⟩ : ∃ w2, w2 = (w1.alloc (.cells (par 0 (List.replicate 8 0)) 26)).setRow w1.heap.size C := ⟨_, rfl⟩
  have HG2 := Aside0.mk (show w2.heap[w1.heap.size]? = some (.cells C 26 (0, 0)) by rw [hw2]; exact setRow_heap _ _ _ _ _ _ (heap_alloc_new w1 _))
  have HL2 := Aside0.mk (show w1.heap.size < w2.heap.size by rw [hw2, setRow_size]; simp)
  have HB2 := Aside0.mk (show Below w.heap.size w w2 by rw [hw2]; exact below_setRow (HB1.out.alloc (below_size HB1.out) _) (below_size HB1.out))
  refine (show Calls _ _ _ _ _ from (by have := HI.out w2; rw [hw2] at this; exact this)).mono ?_
  rintro e w3 ⟨rfl, hb3⟩
  rw [← hw2] at hb3
  have HB3 := Aside0.mk (below_step HB2.out hb3)
  have HG3 := Aside0.mk ((hb3.block w1.heap.size HL2.out).trans HG2.out)
  have HL3 := Aside0.mk (Nat.lt_of_lt_of_le HL2.out (below_size hb3))
  clear hb3 hw2 HB2 HG2
  have HW := Aside0.mk (show ((w3.alloc (.cells (par 0 (List.replicate 8 0)) 26)).setRow w3.heap.size C).heap[w1.heap.size]? = some (.cells C 26 (0, 0)) by
    rw [setRow_other _ _ _ _ (Nat.ne_of_lt HL3.out), heap_alloc_old _ _ HL3.out]
    exact HG3.out)
  go_wp2_with (first | (refine wpList_store_row rfl 26 _ _ rfl w3.heap.size C rfl rfl 26 (par 0 (List.replicate 8 0)) (heap_alloc_new w3 _) HZ.out HZ0.out HO.out ?_) | (refine wpList_load_row rfl 26 _ rfl w3.heap.size rfl 26 C (0, 0) _ (setRow_heap _ _ _ _ _ _ (heap_alloc_new w3 _)) Try.underlying26 rfl HZ.out ?_) | (refine wpList_load_row rfl 26 _ rfl w1.heap.size rfl 26 C (0, 0) _ HW.out Try.underlying26 rfl HZ.out ?_))
  refine (HE.out _).mono ?_
  rintro e w5 ⟨rfl, hb5⟩
  have HB5 := Aside0.mk (below_step (below_setRow (HB3.out.alloc (below_size HB3.out) _) (below_size HB3.out)) hb5)
  clear hb5
  go_wp2
  go_ret
  exact ⟨rfl, HB5.out⟩
theorem lawUnit_walk (n : Int) (w : World) : Calls Try.prog 4 #[.int .i64 n] w fun e w' => e = .returned (.bool true) ∧ Below w.heap.size w w' := by
  by_cases h : 1 ≤ n ∧ n ≤ 4
  · obtain ⟨N, rfl⟩ := Int.eq_ofNat_of_zero_le (show 0 ≤ n by omega)
    exact lawUnit_calls N N 0 (UB N) (UB_len N) (fun W => specUnit_in N (by omega) (by omega) W) (fun W => implUnit_in N (by omega) (by omega) W) w
  · exact lawUnit_calls n 0 2 (List.replicate 8 0) rfl (fun W => specUnit_out n h W) (fun W => implUnit_out n h W) w
end Go.Proofs.Ytkpjmphglnnmiaa.Hand
