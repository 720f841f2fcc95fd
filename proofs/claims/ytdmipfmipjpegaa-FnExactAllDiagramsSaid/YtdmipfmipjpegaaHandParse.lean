/- Both ParseDiagram, and the walk of laws.FnExactParseDiagram. No condition. -/
import Derived.Test.YtdmipfmipjpegaaHandRead2
import Derived.Test.YtdmipfmipjpegaaHandDia7
import Derived.Test.YtdmipfmipjpegaaHandHalt
namespace Go.Proofs.Ytdmipfmipjpegaa.Hand
open Go.RowKit Go.Proofs.YtdmipfmipjpegaaW.PrintWords Go.Proofs.YtdmipfmipjpegaaW.PrintLast Go.Proofs.YtdmipfmipjpegaaW.PrintMore
set_option linter.unusedVariables false
set_option linter.unusedSimpArgs false

set_option maxHeartbeats 8000000 in
theorem sparse_calls (a0 : ByteArray) (hsz : a0.size ≤ 140737488351232) (w : World) :
    Calls Try.prog 17 #[.string a0] w fun e w' => e = .returned (.tuple #[.agg (dia (readR a0).1 (readR a0).2.1), .int .i64 (if (readR a0).2.2 then 0 else 6)]) ∧ Below w.heap.size w w' := by
  have HR := Aside0.mk (fun W => sread_calls a0 hsz W)
  have hl := readR_len a0
  have hf := readR_false a0
  generalize readR a0 = r at HR hl hf ⊢
  obtain ⟨m, b, ok⟩ := r
  simp only at HR hl hf ⊢
  cases ok with
  | true =>
    have HZ := Aside0.mk (show (Try.prog.info? 24).map (·.size) = some (dia m b).size by rw [dia_size, hl]; exact sizeDia)
    have HZ0 := Aside0.mk (show (dia 0 (List.replicate 16 0)).size = (dia m b).size by rw [dia_size, dia_size, hl]; rfl)
    have HO := Aside0.mk (dia_one m b)
    rw [if_pos rfl]
    generalize dia m b = C at HR HZ HZ0 HO ⊢
    clear hl hf
    go_enter Try.func17, Try.ntmps17
    go_wp2_with fail
    refine (HR.out _).mono ?_
    rintro e w1 ⟨rfl, hb⟩
    have HG := Aside0.mk ((hb.block w.heap.size (by simp)).trans (heap_alloc_new w (.cells (dia 0 (List.replicate 16 0)) 24)))
    have HB := Aside0.mk (below_step ((Below.refl _ w).alloc (Nat.le_refl _) _) hb)
    have HL1 := Aside0.mk (show w.heap.size < w1.heap.size from Nat.lt_of_lt_of_le (by simp) (below_size hb))
    clear hb HR
    go_wp2_with (first | (refine wpList_store_row_halt rfl 24 _ _ rfl w1.heap.size C rfl rfl 24 (dia 0 (List.replicate 16 0)) (heap_alloc_new w1 _) HZ.out HZ0.out HO.out ?_))
    intro W hW
    have HK := Aside0.mk (show W.heap[w1.heap.size]? = some (.cells C 24 (0, 0)) by rw [hW.eq]; exact setRow_heap _ _ _ _ _ _ (heap_alloc_new w1 _))
    have HG2 := Aside0.mk (show W.heap[w.heap.size]? = some (.cells (dia 0 (List.replicate 16 0)) 24 (0, 0)) by
      rw [hW.eq, setRow_other _ _ _ _ (Nat.ne_of_lt HL1.out), heap_alloc_old _ _ HL1.out]
      exact HG.out)
    have HB2 := Aside0.mk (show Below w.heap.size w W by rw [hW.eq]; exact below_setRow (HB.out.alloc (below_size HB.out) _) (below_size HB.out))
    clear hW HG HB
    refine Halt.mk ?_
    go_wp2_with (first | (refine wpList_load_row rfl 24 _ rfl w1.heap.size rfl 24 C (0, 0) _ HK.out Try.underlying24 rfl HZ.out ?_) | (refine wpList_store_row rfl 24 _ _ rfl w.heap.size C rfl rfl 24 (dia 0 (List.replicate 16 0)) HG2.out HZ.out HZ0.out HO.out ?_))
    refine bodyPost_ret (results_ct rfl _ _ w.heap.size 24 C (0, 0) _ rfl (setRow_heap _ _ _ _ _ _ HG2.out) Try.underlying24 rfl HZ.out) rfl ⟨rfl, below_setRow HB2.out (Nat.le_refl _)⟩
  | false =>
    obtain ⟨rfl, rfl, _⟩ := Prod.mk.injEq .. ▸ (hf rfl)
    rw [if_neg (by simp)]
    clear hl hf
    have HO := Aside0.mk (dia_one 0 (List.replicate 16 0))
    have HV := Aside0.mk (show (Try.prog.info? 24).map (·.size) = some (dia 0 (List.replicate 16 0)).size from sizeDia)
    obtain ⟨C, hC⟩ : ∃ C, C = (dia 0 (List.replicate 16 0)) := ⟨_, rfl⟩
    have HZV := Aside0.mk (show (.agg (dia 0 (List.replicate 16 0)) : Value) = .agg C by rw [hC])
    rw [← hC] at HR HO HV ⊢
    go_enter Try.func17, Try.ntmps17
    go_wp2_with fail
    refine (HR.out _).mono ?_
    rintro e w1 ⟨rfl, hb⟩
    have HG := Aside0.mk ((hb.block w.heap.size (by simp)).trans (show _ = some (Obj.cells C 24 (0, 0)) by rw [hC]; exact heap_alloc_new w (.cells (dia 0 (List.replicate 16 0)) 24)))
    have HB := Aside0.mk (below_step ((Below.refl _ w).alloc (Nat.le_refl _) _) hb)
    have HL1 := Aside0.mk (show w.heap.size < w1.heap.size from Nat.lt_of_lt_of_le (by simp) (below_size hb))
    have HN1 := Aside0.mk (show (w1.alloc (.cells (dia 0 (List.replicate 16 0)) 24)).heap[w1.heap.size]? = some (.cells C 24 (0, 0)) by rw [hC]; exact heap_alloc_new w1 _)
    clear hb HR hC
    go_wp2_with (first | (refine wpList_store_row_halt rfl 24 _ _ rfl w1.heap.size C rfl rfl 24 C HN1.out HV.out rfl HO.out ?_))
    intro W hW
    have HG2 := Aside0.mk (show W.heap[w.heap.size]? = some (.cells C 24 (0, 0)) by
      rw [hW.eq, setRow_other _ _ _ _ (Nat.ne_of_lt HL1.out), heap_alloc_old _ _ HL1.out]
      exact HG.out)
    have HB2 := Aside0.mk (show Below w.heap.size w W by rw [hW.eq]; exact below_setRow (HB.out.alloc (below_size HB.out) _) (below_size HB.out))
    clear hW HG HB HN1
    refine Halt.mk ?_
    go_wp2_with (refine wpList_store_row rfl 24 _ _ rfl w.heap.size C rfl HZV.out 24 C HG2.out HV.out rfl HO.out ?_)
    refine bodyPost_ret (results_ct rfl _ _ w.heap.size 24 C (0, 0) _ rfl (setRow_heap _ _ _ _ _ _ HG2.out) Try.underlying24 rfl HV.out) rfl ⟨rfl, below_setRow HB2.out (Nat.le_refl _)⟩

set_option maxHeartbeats 8000000 in
theorem gparse_calls (a0 : ByteArray) (hsz : a0.size ≤ 140737488351232) (w : World) :
    Calls Try.prog 18 #[.string a0] w fun e w' => e = .returned (.tuple #[.agg (dia (readR a0).1 (readR a0).2.1), .int .i64 (if (readR a0).2.2 then 0 else 6)]) ∧ Below w.heap.size w w' := by
  have HR := Aside0.mk (fun W => gread_calls a0 W)
  have hl := readR_len a0
  have hf := readR_false a0
  generalize readR a0 = r at HR hl hf ⊢
  obtain ⟨m, b, ok⟩ := r
  simp only at HR hl hf ⊢
  cases ok with
  | true =>
    have HZ := Aside0.mk (show (Try.prog.info? 24).map (·.size) = some (dia m b).size by rw [dia_size, hl]; exact sizeDia)
    have HZ0 := Aside0.mk (show (dia 0 (List.replicate 16 0)).size = (dia m b).size by rw [dia_size, dia_size, hl]; rfl)
    have HO := Aside0.mk (dia_one m b)
    rw [if_pos rfl]
    generalize dia m b = C at HR HZ HZ0 HO ⊢
    clear hl hf
    go_enter Try.func18, Try.ntmps18
    go_wp2_with fail
    refine (HR.out _).mono ?_
    rintro e w1 ⟨rfl, hb⟩
    have HG := Aside0.mk ((hb.block w.heap.size (by simp)).trans (heap_alloc_new w (.cells (dia 0 (List.replicate 16 0)) 24)))
    have HB := Aside0.mk (below_step ((Below.refl _ w).alloc (Nat.le_refl _) _) hb)
    have HL1 := Aside0.mk (show w.heap.size < w1.heap.size from Nat.lt_of_lt_of_le (by simp) (below_size hb))
    clear hb HR
    go_wp2_with (first | (refine wpList_store_row_halt rfl 24 _ _ rfl w1.heap.size C rfl rfl 24 (dia 0 (List.replicate 16 0)) (heap_alloc_new w1 _) HZ.out HZ0.out HO.out ?_))
    intro W hW
    have HK := Aside0.mk (show W.heap[w1.heap.size]? = some (.cells C 24 (0, 0)) by rw [hW.eq]; exact setRow_heap _ _ _ _ _ _ (heap_alloc_new w1 _))
    have HG2 := Aside0.mk (show W.heap[w.heap.size]? = some (.cells (dia 0 (List.replicate 16 0)) 24 (0, 0)) by
      rw [hW.eq, setRow_other _ _ _ _ (Nat.ne_of_lt HL1.out), heap_alloc_old _ _ HL1.out]
      exact HG.out)
    have HB2 := Aside0.mk (show Below w.heap.size w W by rw [hW.eq]; exact below_setRow (HB.out.alloc (below_size HB.out) _) (below_size HB.out))
    clear hW HG HB
    refine Halt.mk ?_
    go_wp2_with (first | (refine wpList_load_row rfl 24 _ rfl w1.heap.size rfl 24 C (0, 0) _ HK.out Try.underlying24 rfl HZ.out ?_) | (refine wpList_store_row rfl 24 _ _ rfl w.heap.size C rfl rfl 24 (dia 0 (List.replicate 16 0)) HG2.out HZ.out HZ0.out HO.out ?_))
    refine bodyPost_ret (results_ct rfl _ _ w.heap.size 24 C (0, 0) _ rfl (setRow_heap _ _ _ _ _ _ HG2.out) Try.underlying24 rfl HZ.out) rfl ⟨rfl, below_setRow HB2.out (Nat.le_refl _)⟩
  | false =>
    obtain ⟨rfl, rfl, _⟩ := Prod.mk.injEq .. ▸ (hf rfl)
    rw [if_neg (by simp)]
    clear hl hf
    have HO := Aside0.mk (dia_one 0 (List.replicate 16 0))
    have HV := Aside0.mk (show (Try.prog.info? 24).map (·.size) = some (dia 0 (List.replicate 16 0)).size from sizeDia)
    obtain ⟨C, hC⟩ : ∃ C, C = (dia 0 (List.replicate 16 0)) := ⟨_, rfl⟩
    have HZV := Aside0.mk (show (.agg (dia 0 (List.replicate 16 0)) : Value) = .agg C by rw [hC])
    rw [← hC] at HR HO HV ⊢
    go_enter Try.func18, Try.ntmps18
    go_wp2_with fail
    refine (HR.out _).mono ?_
    rintro e w1 ⟨rfl, hb⟩
    have HG := Aside0.mk ((hb.block w.heap.size (by simp)).trans (show _ = some (Obj.cells C 24 (0, 0)) by rw [hC]; exact heap_alloc_new w (.cells (dia 0 (List.replicate 16 0)) 24)))
    have HB := Aside0.mk (below_step ((Below.refl _ w).alloc (Nat.le_refl _) _) hb)
    have HL1 := Aside0.mk (show w.heap.size < w1.heap.size from Nat.lt_of_lt_of_le (by simp) (below_size hb))
    have HN1 := Aside0.mk (show (w1.alloc (.cells (dia 0 (List.replicate 16 0)) 24)).heap[w1.heap.size]? = some (.cells C 24 (0, 0)) by rw [hC]; exact heap_alloc_new w1 _)
    clear hb HR hC
    go_wp2_with (first | (refine wpList_store_row_halt rfl 24 _ _ rfl w1.heap.size C rfl rfl 24 C HN1.out HV.out rfl HO.out ?_))
    intro W hW
    have HG2 := Aside0.mk (show W.heap[w.heap.size]? = some (.cells C 24 (0, 0)) by
      rw [hW.eq, setRow_other _ _ _ _ (Nat.ne_of_lt HL1.out), heap_alloc_old _ _ HL1.out]
      exact HG.out)
    have HB2 := Aside0.mk (show Below w.heap.size w W by rw [hW.eq]; exact below_setRow (HB.out.alloc (below_size HB.out) _) (below_size HB.out))
    clear hW HG HB HN1
    refine Halt.mk ?_
    go_wp2_with (refine wpList_store_row rfl 24 _ _ rfl w.heap.size C rfl HZV.out 24 C HG2.out HV.out rfl HO.out ?_)
    refine bodyPost_ret (results_ct rfl _ _ w.heap.size 24 C (0, 0) _ rfl (setRow_heap _ _ _ _ _ _ HG2.out) Try.underlying24 rfl HV.out) rfl ⟨rfl, below_setRow HB2.out (Nat.le_refl _)⟩
theorem lawParse_far (a0 : ByteArray) (h : 1048576 < (a0.size : Int)) (w : World) : Calls Try.prog 6 #[.string a0] w fun e w' => e = .returned (.bool true) ∧ Below w.heap.size w w' := by
  have c1 : decide (1048576 < (a0.size : Int)) = true := decide_eq_true h
  clear h
  go_enter Try.func6, Try.ntmps6
  go_wp2
  go_ret
  exact ⟨rfl, Below.refl _ _⟩
set_option maxHeartbeats 8000000 in
theorem lawParse_calls (a0 : ByteArray) (m c : Int) (b : List Int) (hb : b.length = 16) (hfar : ¬1048576 < (a0.size : Int)) (hs : ∀ W, Calls Try.prog 17 #[.string a0] W fun e w' => e = .returned (.tuple #[.agg (dia m b), .int .i64 c]) ∧ Below W.heap.size W w')
    (hi : ∀ W, Calls Try.prog 18 #[.string a0] W fun e w' => e = .returned (.tuple #[.agg (dia m b), .int .i64 c]) ∧ Below W.heap.size W w') (w : World) :
    Calls Try.prog 6 #[.string a0] w fun e w' => e = .returned (.bool true) ∧ Below w.heap.size w w' := by
  have c1 : decide (1048576 < (a0.size : Int)) = false := decide_eq_false hfar
  clear hfar
  have HS := Aside0.mk hs
  have HI := Aside0.mk hi
  have HE := Aside0.mk (fun W => eqDia_calls m b hb W)
  have HZ := Aside0.mk (show (Try.prog.info? 24).map (·.size) = some (dia m b).size by rw [dia_size, hb]; exact sizeDia)
  have HZ0 := Aside0.mk (show (dia 0 (List.replicate 16 0)).size = (dia m b).size by rw [dia_size, dia_size, hb]; rfl)
  have HO := Aside0.mk (dia_one m b)
  generalize dia m b = C at HS HI HE HZ HZ0 HO
  clear hs hi hb
  go_enter Try.func6, Try.ntmps6
  go_wp2_with fail
  refine (HS.out _).mono ?_
  rintro e w1 ⟨rfl, hb1⟩
  have HB1 := Aside0.mk hb1
  clear hb1
  go_wp2_with (refine wpList_store_row rfl 24 _ _ rfl w1.heap.size C rfl rfl 24 (dia 0 (List.replicate 16 0)) (heap_alloc_new w1 _) HZ.out HZ0.out HO.out ?_)
  obtain ⟨w2, hw2⟩ : ∃ w2, w2 = (w1.alloc (.cells (dia 0 (List.replicate 16 0)) 24)).setRow w1.heap.size C := ⟨_, rfl⟩
  have HG2 := Aside0.mk (show w2.heap[w1.heap.size]? = some (.cells C 24 (0, 0)) by rw [hw2]; exact setRow_heap _ _ _ _ _ _ (heap_alloc_new w1 _))
  have HL2 := Aside0.mk (show w1.heap.size < w2.heap.size by rw [hw2, setRow_size]; simp)
  have HB2 := Aside0.mk (show Below w.heap.size w w2 by rw [hw2]; exact below_setRow (HB1.out.alloc (below_size HB1.out) _) (below_size HB1.out))
  refine (show Calls _ _ _ _ _ from (by have := HI.out w2; rw [hw2] at this; exact this)).mono ?_
  rintro e w3 ⟨rfl, hb3⟩
  rw [← hw2] at hb3
  have HB3 := Aside0.mk (below_step HB2.out hb3)
  have HG3 := Aside0.mk ((hb3.block w1.heap.size HL2.out).trans HG2.out)
  have HL3 := Aside0.mk (Nat.lt_of_lt_of_le HL2.out (below_size hb3))
  clear hb3 hw2 HB2 HG2
  have HW := Aside0.mk (show ((w3.alloc (.cells (dia 0 (List.replicate 16 0)) 24)).setRow w3.heap.size C).heap[w1.heap.size]? = some (.cells C 24 (0, 0)) by
    rw [setRow_other _ _ _ _ (Nat.ne_of_lt HL3.out), heap_alloc_old _ _ HL3.out]
    exact HG3.out)
  go_wp2_with (first | (refine wpList_store_row rfl 24 _ _ rfl w3.heap.size C rfl rfl 24 (dia 0 (List.replicate 16 0)) (heap_alloc_new w3 _) HZ.out HZ0.out HO.out ?_) | (refine wpList_load_row rfl 24 _ rfl w3.heap.size rfl 24 C (0, 0) _ (setRow_heap _ _ _ _ _ _ (heap_alloc_new w3 _)) Try.underlying24 rfl HZ.out ?_) | (refine wpList_load_row rfl 24 _ rfl w1.heap.size rfl 24 C (0, 0) _ HW.out Try.underlying24 rfl HZ.out ?_))
  refine (HE.out _).mono ?_
  rintro e w5 ⟨rfl, hb5⟩
  have HB5 := Aside0.mk (below_step (below_setRow (HB3.out.alloc (below_size HB3.out) _) (below_size HB3.out)) hb5)
  clear hb5
  go_wp2
  go_ret
  exact ⟨rfl, HB5.out⟩
theorem lawParse_walk (a0 : ByteArray) (hsz : a0.size ≤ 140737488351232) (w : World) : Calls Try.prog 6 #[.string a0] w fun e w' => e = .returned (.bool true) ∧ Below w.heap.size w w' := by
  by_cases h : 1048576 < (a0.size : Int)
  · exact lawParse_far a0 h w
  · exact lawParse_calls a0 (readR a0).1 _ (readR a0).2.1 (readR_len a0) (by omega) (fun W => sparse_calls a0 hsz W) (fun W => gparse_calls a0 hsz W) w
end Go.Proofs.Ytdmipfmipjpegaa.Hand
