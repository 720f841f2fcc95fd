/- Both BlobOf, laws.eqBlobbed of a value held against itself, and the walk of laws.FnExactBlobOf. No condition. -/
import Derived.Test.YtdmipfmipjpegaaHandBlob
namespace Go.Proofs.Ytdmipfmipjpegaa.Hand
open Go.RowKit Go.Proofs.YtdmipfmipjpegaaW.PrintWords Go.Proofs.YtdmipfmipjpegaaW.PrintLast
set_option linter.unusedVariables false
set_option linter.unusedSimpArgs false

section
variable {P : Program}
/-- A load of a part of a row. -/
theorem run_loadVar_part (w : World) (g off : Nat) (t ty : TypeId) (cs ps : Array Value) (fr : Nat × Nat) (d : TypeDesc) (hg : w.heap[g]? = some (.cells cs t fr))
    (hp : ∀ j v, ps.toList[j]? = some v → cs[off + j]? = some v)
    (hu : P.underlying ty = some d) (hd : (match d with | .struct _ | .array _ _ => true | _ => false) = true) (hi : (P.info? ty).map (·.size) = some ps.size) :
    (loadVar ty ⟨g, off, none⟩).run P w = .ok (.agg ps) w := by
  have hl : (loadCells ⟨g, off, none⟩ ps.toList.length).run P w = .ok ps.toList.toArray w :=
    run_loadCells_list (P := P) w ⟨g, off, none⟩ ps.toList (fun j v hv => by
      have hadd : (⟨g, off, none⟩ : Addr).add j = ⟨g, off + j, none⟩ := by unfold Addr.add; split <;> simp_all
      rw [hadd, cell_of_row w g (off + j) cs t fr hg]
      exact hp j v hv)
  cases hq : P.info? ty with
  | none => simp [hq] at hi
  | some i =>
    have hs : i.size = ps.size := by simpa [hq] using hi
    have hagg : (isAgg ty).run P w = .ok true w := by
      unfold isAgg
      rw [Sem.run_bind, run_underlying hu w]
      cases d <;> simp_all
    simp only [Array.length_toList, Array.toArray_toList] at hl
    simp [loadVar, Sem.run_bind, hagg, sizeOf, typeInfo, hq, hs, hl]
theorem wp_load_part {o : Oper} {a : Act} {w : World} {K : Act → World → Prop} {Q : Exit → Act → World → Prop} (ty : TypeId) (x : Operand) (ho : o.op = .load ty x)
    (g off : Nat) (hx : a.eval x = .pointer (some ⟨g, off, none⟩)) (t : TypeId) (cs ps : Array Value) (fr : Nat × Nat) (d : TypeDesc) (hg : w.heap[g]? = some (.cells cs t fr))
    (hp : ∀ j v, ps.toList[j]? = some v → cs[off + j]? = some v)
    (hu : P.underlying ty = some d) (hd : (match d with | .struct _ | .array _ _ => true | _ => false) = true) (hi : (P.info? ty).map (·.size) = some ps.size)
    (h : K (a.put o.dst (.agg ps)) w) : o.wp P a w K Q := by
  unfold Oper.wp execOp
  simp only [ho, hx, Instr.loadAt, Instr.sureAddr, Sem.run_bind, Sem.run_pure, Result.andThen_ok, run_loadVar_part w g off t ty cs ps fr d hg hp hu hd hi]
  exact h
theorem wpList_load_part {ops : Array Oper} {rest : List Oper} {o : Oper} {a : Act} {w : World} {Q : Exit → Act → World → Prop} (hgd : o.guard = none) (ty : TypeId) (x : Operand) (ho : o.op = .load ty x)
    (g off : Nat) (hx : a.eval x = .pointer (some ⟨g, off, none⟩)) (t : TypeId) (cs ps : Array Value) (fr : Nat × Nat) (d : TypeDesc) (hg : w.heap[g]? = some (.cells cs t fr))
    (hp : ∀ j v, ps.toList[j]? = some v → cs[off + j]? = some v)
    (hu : P.underlying ty = some d) (hd : (match d with | .struct _ | .array _ _ => true | _ => false) = true) (hi : (P.info? ty).map (·.size) = some ps.size)
    (h : wpList P ops Q rest (a.put o.dst (.agg ps)) w) : wpList P ops Q (o :: rest) a w :=
  wpList_plain hgd fun _ hK => wp_load_part ty x ho g off hx t cs ps fr d hg hp hu hd hi (hK _ _ h)
end

set_option maxHeartbeats 8000000 in
theorem specBlob_in (N : Nat) (h1 : 1 ≤ N) (h8 : N ≤ 8) (w : World) :
    Calls Try.prog 14 #[.int .i64 (N : Int)] w fun e w' => e = .returned (.tuple #[.agg (blo N (oneB N N) (blobM N)), .int .i64 0]) ∧ Below w.heap.size w w' := by
  have HI := Aside0.mk (fun W => sIn_calls (N : Int) 1 8 true (decide_eq_true (by omega)) W)
  have H3 := Aside0.mk (fun W => sblob_calls N h1 h8 W)
  obtain ⟨C, hC⟩ : ∃ C, C = blo N (oneB N N) (blobM N) := ⟨_, rfl⟩
  rw [← hC] at H3 ⊢
  have HZ := Aside0.mk (show (Try.prog.info? 33).map (·.size) = some C.size by rw [hC, blo_size, blobM_len, oneB_len]; exact sizeBlo)
  have HS := Aside0.mk (show (blo 0 (List.replicate 16 0) fls).size = C.size by rw [hC, blo_size, blo_size, blobM_len, oneB_len]; rfl)
  have HO := Aside0.mk (show C.all (·.oneCell') = true by rw [hC]; exact blo_one _ _ _)
  clear h1 h8 hC
  go_enter Try.func14, Try.ntmps14
  go_wp2_with fail
  refine (HI.out _).mono ?_
  rintro e w0 ⟨rfl, ⟨q, rfl⟩⟩
  go_wp2_with fail
  with_reducible refine (H3.out _).mono ?_
  rintro e w1 ⟨rfl, hb⟩
  have HG := Aside0.mk ((hb.block w.heap.size (by simp)).trans (heap_alloc_new w (.cells (blo 0 (List.replicate 16 0) fls) 33)))
  have HB := Aside0.mk (below_step (pw_below_drewN ((Below.refl _ w).alloc (Nat.le_refl _) _) q) hb)
  clear hb
  generalize (blo 0 (List.replicate 16 0) fls) = C0 at HG HS
  go_wp2_with (refine wpList_store_row rfl 33 _ _ rfl w.heap.size C rfl rfl 33 C0 HG.out HZ.out HS.out HO.out ?_)
  refine bodyPost_ret (results_ct rfl _ _ w.heap.size 33 C (0, 0) _ rfl (setRow_heap _ _ _ _ _ _ HG.out) Try.underlying33 rfl HZ.out) rfl ⟨rfl, below_setRow HB.out (Nat.le_refl _)⟩
set_option maxHeartbeats 8000000 in
theorem specBlob_out (n : Int) (h : ¬(1 ≤ n ∧ n ≤ 8)) (w : World) :
    Calls Try.prog 14 #[.int .i64 n] w fun e w' => e = .returned (.tuple #[.agg (blo 0 (List.replicate 16 0) fls), .int .i64 2]) ∧ Below w.heap.size w w' := by
  have HI := Aside0.mk (fun W => sIn_calls n 1 8 false (decide_eq_false h) W)
  clear h
  obtain ⟨C, hC⟩ : ∃ C, C = (blo 0 (List.replicate 16 0) fls) := ⟨_, rfl⟩
  rw [← hC]
  have HZ := Aside0.mk (show (Try.prog.info? 33).map (·.size) = some C.size by rw [hC]; exact sizeBlo)
  have HO := Aside0.mk (show C.all (·.oneCell') = true by rw [hC]; exact blo_one _ _ _)
  have HV := Aside0.mk (show (.agg (blo 0 (List.replicate 16 0) fls) : Value) = .agg C by rw [hC])
  go_enter Try.func14, Try.ntmps14
  go_wp2_with fail
  refine (HI.out _).mono ?_
  rintro e w0 ⟨rfl, ⟨q, rfl⟩⟩
  have HG := Aside0.mk (show ((w.alloc (.cells (blo 0 (List.replicate 16 0) fls) 33)).drewN q).heap[w.heap.size]? = some (.cells C 33 (0, 0)) by rw [hC]; exact heap_alloc_new w _)
  have HB := Aside0.mk (pw_below_drewN ((Below.refl _ w).alloc (Nat.le_refl _) (.cells (blo 0 (List.replicate 16 0) fls) 33)) q)
  clear hC
  go_wp2_with (refine wpList_store_row_halt rfl 33 _ _ rfl w.heap.size C rfl HV.out 33 C HG.out HZ.out rfl HO.out ?_)
  intro W hW
  have HK := Aside0.mk (show W.heap[w.heap.size]? = some (.cells C 33 (0, 0)) by rw [hW.eq]; exact setRow_heap _ _ _ _ _ _ HG.out)
  have HB2 := Aside0.mk (show Below w.heap.size w W by rw [hW.eq]; exact below_setRow HB.out (Nat.le_refl _))
  clear hW HG HB HV
  refine Halt.mk ?_
  go_wp2
  refine bodyPost_ret (results_ct rfl _ _ w.heap.size 33 C (0, 0) _ rfl HK.out Try.underlying33 rfl HZ.out) rfl ⟨rfl, HB2.out⟩

set_option maxHeartbeats 8000000 in
theorem implBlob_in (N : Nat) (h1 : 1 ≤ N) (h8 : N ≤ 8) (w : World) :
    Calls Try.prog 15 #[.int .i64 (N : Int)] w fun e w' => e = .returned (.tuple #[.agg (blo N (oneB N N) (blobM N)), .int .i64 0]) ∧ Below w.heap.size w w' := by
  have HI := Aside0.mk (fun W => gIn_calls (N : Int) 1 8 true (decide_eq_true (by omega)) W)
  have H3 := Aside0.mk (fun W => gblob_calls N h1 h8 W)
  obtain ⟨C, hC⟩ : ∃ C, C = blo N (oneB N N) (blobM N) := ⟨_, rfl⟩
  rw [← hC] at H3 ⊢
  have HZ := Aside0.mk (show (Try.prog.info? 33).map (·.size) = some C.size by rw [hC, blo_size, blobM_len, oneB_len]; exact sizeBlo)
  have HS := Aside0.mk (show (blo 0 (List.replicate 16 0) fls).size = C.size by rw [hC, blo_size, blo_size, blobM_len, oneB_len]; rfl)
  have HO := Aside0.mk (show C.all (·.oneCell') = true by rw [hC]; exact blo_one _ _ _)
  clear h1 h8 hC
  go_enter Try.func15, Try.ntmps15
  go_wp2_with fail
  refine (HI.out _).mono ?_
  rintro e w0 ⟨rfl, ⟨q, rfl⟩⟩
  go_wp2_with fail
  with_reducible refine (H3.out _).mono ?_
  rintro e w1 ⟨rfl, hb⟩
  have HG := Aside0.mk ((hb.block w.heap.size (by simp)).trans (heap_alloc_new w (.cells (blo 0 (List.replicate 16 0) fls) 33)))
  have HB := Aside0.mk (below_step (pw_below_drewN ((Below.refl _ w).alloc (Nat.le_refl _) _) q) hb)
  clear hb
  generalize (blo 0 (List.replicate 16 0) fls) = C0 at HG HS
  go_wp2_with (refine wpList_store_row rfl 33 _ _ rfl w.heap.size C rfl rfl 33 C0 HG.out HZ.out HS.out HO.out ?_)
  refine bodyPost_ret (results_ct rfl _ _ w.heap.size 33 C (0, 0) _ rfl (setRow_heap _ _ _ _ _ _ HG.out) Try.underlying33 rfl HZ.out) rfl ⟨rfl, below_setRow HB.out (Nat.le_refl _)⟩
set_option maxHeartbeats 8000000 in
theorem implBlob_out (n : Int) (h : ¬(1 ≤ n ∧ n ≤ 8)) (w : World) :
    Calls Try.prog 15 #[.int .i64 n] w fun e w' => e = .returned (.tuple #[.agg (blo 0 (List.replicate 16 0) fls), .int .i64 2]) ∧ Below w.heap.size w w' := by
  have HI := Aside0.mk (fun W => gIn_calls n 1 8 false (decide_eq_false h) W)
  clear h
  obtain ⟨C, hC⟩ : ∃ C, C = (blo 0 (List.replicate 16 0) fls) := ⟨_, rfl⟩
  rw [← hC]
  have HZ := Aside0.mk (show (Try.prog.info? 33).map (·.size) = some C.size by rw [hC]; exact sizeBlo)
  have HO := Aside0.mk (show C.all (·.oneCell') = true by rw [hC]; exact blo_one _ _ _)
  have HV := Aside0.mk (show (.agg (blo 0 (List.replicate 16 0) fls) : Value) = .agg C by rw [hC])
  go_enter Try.func15, Try.ntmps15
  go_wp2_with fail
  refine (HI.out _).mono ?_
  rintro e w0 ⟨rfl, ⟨q, rfl⟩⟩
  have HG := Aside0.mk (show ((w.alloc (.cells (blo 0 (List.replicate 16 0) fls) 33)).drewN q).heap[w.heap.size]? = some (.cells C 33 (0, 0)) by rw [hC]; exact heap_alloc_new w _)
  have HB := Aside0.mk (pw_below_drewN ((Below.refl _ w).alloc (Nat.le_refl _) (.cells (blo 0 (List.replicate 16 0) fls) 33)) q)
  clear hC
  go_wp2_with (refine wpList_store_row_halt rfl 33 _ _ rfl w.heap.size C rfl HV.out 33 C HG.out HZ.out rfl HO.out ?_)
  intro W hW
  have HK := Aside0.mk (show W.heap[w.heap.size]? = some (.cells C 33 (0, 0)) by rw [hW.eq]; exact setRow_heap _ _ _ _ _ _ HG.out)
  have HB2 := Aside0.mk (show Below w.heap.size w W by rw [hW.eq]; exact below_setRow HB.out (Nat.le_refl _))
  clear hW HG HB HV
  refine Halt.mk ?_
  go_wp2
  refine bodyPost_ret (results_ct rfl _ _ w.heap.size 33 C (0, 0) _ rfl HK.out Try.underlying33 rfl HZ.out) rfl ⟨rfl, HB2.out⟩
/-- The cells of sixteen marks. -/
def bol (b : List Bool) : Array Value := (b.map (Value.bool)).toArray
theorem bol_at (b : List Bool) (hb : b.length = 16) (i : Nat) (hi : i < 16) : (bol b)[i]? = some (.bool (b.getD i false)) := by
  unfold bol
  rw [List.getElem?_toArray, List.getElem?_map, List.getD_eq_getElem?_getD, List.getElem?_eq_getElem (by omega)]
  rfl
set_option maxHeartbeats 4000000 in
theorem eqBool_calls (b : List Bool) (hb : b.length = 16) (w : World) :
    Calls Try.prog 35 #[.agg (bol b), .agg (bol b)] w fun e w' => e = .returned (.bool true) ∧ Below w.heap.size w w' := by
  have HC := Aside0.mk (fun i hi => bol_at b hb i hi)
  generalize bol b = C at HC ⊢
  clear hb
  go_enter Try.func35, Try.ntmps35
  go_wp2
  obtain ⟨w2, hw2⟩ : ∃ w2, w2 = (w.alloc (.cells C 31)).alloc (.cells C 31) := ⟨_, rfl⟩
  rw [← hw2]
  have HX := Aside0.mk (show w2.heap[w.heap.size]? = some (.cells C 31 (0, 0)) by rw [hw2]; exact heap_alloc2_old _ _ _)
  have HY := Aside0.mk (show w2.heap[w.heap.size + 1]? = some (.cells C 31 (0, 0)) by rw [hw2]; exact heap_alloc2_new _ _ _)
  have HB := Aside0.mk (show Below w.heap.size w w2 by rw [hw2]; exact ((Below.refl _ w).alloc (Nat.le_refl _) _).alloc (by simp) _)
  clear hw2
  go_loopg [5] 17 (fun kq v5 w' => ∃ (i q : Nat), v5 = .int .i64 (i : Int) ∧ Aside0 (kq + i = 17) ∧ Aside0 (i ≤ 16) ∧ w' = w2.drewN q)
  case atStart => exact ⟨0, 0, rfl, ⟨rfl⟩, ⟨by omega⟩, rfl⟩
  case round =>
    obtain ⟨i, q, rfl, E1, E2, rfl⟩ := hrel
    cases gk with
    | zero => exact absurd E1.out (by have := E2.out; omega)
    | succ k1 =>
      by_cases d1 : i < 16
      · have d1b : decide ((i : Int) < 16) = true := decide_eq_true (by omega)
        have d1b' : decide (i < 16) = true := decide_eq_true d1
        have p1 : (0 ≤ (i : Int)) = True := eq_true (by omega)
        have q1 : ((i : Int) < 16) = True := eq_true (by omega)
        have q1' : (i < 16) = True := eq_true d1
        have hx : w2.cell? ⟨w.heap.size, i, none⟩ = some (.bool (b.getD i false)) := by rw [cell_of_row _ _ _ _ _ _ HX.out]; exact HC.out i d1
        have hy : w2.cell? ⟨w.heap.size + 1, i, none⟩ = some (.bool (b.getD i false)) := by rw [cell_of_row _ _ _ _ _ _ HY.out]; exact HC.out i d1
        generalize b.getD i false = x at hx hy
        have HD1 := Aside0.mk d1
        clear d1
        go_wp2
        go_quiet (fail)
        go_wp2
        go_roundg k1
        case measure => have := E1.out; omega
        case rel => exact ⟨i + 1, _, (congrArg (Value.int .i64) (show _ = ((i + 1 : Nat) : Int) by have := HD1.out; first | omega | (unfold wrap64; omega))), ⟨by have := E1.out; omega⟩, ⟨by have := HD1.out; omega⟩, by first | rfl | exact World.drewN_drewN _ _ _⟩
      · have d1b : decide ((i : Int) < 16) = false := decide_eq_false (by omega)
        have d1b' : decide (i < 16) = false := decide_eq_false d1
        clear d1
        go_wp2
        go_ret
        exact ⟨rfl, pw_below_drewN HB.out q⟩
theorem arr16b (b : List Bool) (h : b.length = 16) : ∃ y0 y1 y2 y3 y4 y5 y6 y7 y8 y9 y10 y11 y12 y13 y14 y15 : Bool, b = [y0, y1, y2, y3, y4, y5, y6, y7, y8, y9, y10, y11, y12, y13, y14, y15] := by
  match b, h with
  | [y0, y1, y2, y3, y4, y5, y6, y7, y8, y9, y10, y11, y12, y13, y14, y15], _ => exact ⟨y0, y1, y2, y3, y4, y5, y6, y7, y8, y9, y10, y11, y12, y13, y14, y15, rfl⟩
set_option maxHeartbeats 8000000 in
theorem eqBlo_calls (n : Int) (b : List Int) (hb : b.length = 16) (c : List Bool) (hc : c.length = 16) (w : World) :
    Calls Try.prog 16 #[.agg (blo n b c), .agg (blo n b c)] w fun e w' => e = .returned (.bool true) ∧ Below w.heap.size w w' := by
  have HE := Aside0.mk (fun W => eqDia_calls n b hb W)
  have HF := Aside0.mk (fun W => eqBool_calls c hc W)
  have HA := Aside0.mk (show ∀ j v, (dia n b).toList[j]? = some v → (blo n b c)[0 + j]? = some v by
    intro j v h
    unfold dia at h
    unfold blo
    simp only [Nat.zero_add] at h ⊢
    rw [List.getElem?_toArray]
    rw [show (Value.int .i64 n :: (b.map (Value.int .u8) ++ c.map Value.bool)) = (Value.int .i64 n :: b.map (Value.int .u8)) ++ c.map Value.bool from rfl, List.getElem?_append_left]
    · exact h
    · exact (List.getElem?_eq_some_iff.mp h).1)
  have HM := Aside0.mk (show ∀ j v, (bol c).toList[j]? = some v → (blo n b c)[17 + j]? = some v by
    intro j v h
    unfold bol at h
    unfold blo
    rw [List.getElem?_toArray]
    rw [show (Value.int .i64 n :: (b.map (Value.int .u8) ++ c.map Value.bool)) = (Value.int .i64 n :: b.map (Value.int .u8)) ++ c.map Value.bool from rfl, List.getElem?_append_right (by simp; omega)]
    rw [show 17 + j - (Value.int .i64 n :: b.map (Value.int .u8)).length = j by simp; omega]
    exact h)
  have HZ := Aside0.mk (show (Try.prog.info? 33).map (·.size) = some (blo n b c).size by rw [blo_size, hb, hc]; exact sizeBlo)
  have HZ1 := Aside0.mk (show (Try.prog.info? 24).map (·.size) = some (dia n b).size by rw [dia_size, hb]; exact sizeDia)
  have HZ2 := Aside0.mk (show (Try.prog.info? 31).map (·.size) = some (bol c).size by rw [show (bol c).size = 16 by simp [bol, hc]]; kernel_rfl)
  generalize blo n b c = C at HA HM HZ ⊢
  generalize dia n b = D at HA HE HZ1
  generalize bol c = M at HM HF HZ2
  clear hb hc
  go_enter Try.func16, Try.ntmps16
  have HX0 := Aside0.mk (heap_alloc2_old w (.cells C 33) (.cells C 33))
  have HX1 := Aside0.mk (heap_alloc2_new w (.cells C 33) (.cells C 33))
  go_wp2_with (first | (refine wpList_load_part rfl 24 _ rfl w.heap.size 0 rfl 33 C D (0, 0) _ HX0.out HA.out Try.underlying24 rfl HZ1.out ?_) | (refine wpList_load_part rfl 24 _ rfl (w.heap.size + 1) 0 rfl 33 C D (0, 0) _ HX1.out HA.out Try.underlying24 rfl HZ1.out ?_))
  refine (HE.out _).mono ?_
  rintro e w1 ⟨rfl, hb1⟩
  have HY0 := Aside0.mk ((hb1.block w.heap.size (by simp; omega)).trans HX0.out)
  have HY1 := Aside0.mk ((hb1.block (w.heap.size + 1) (by simp)).trans HX1.out)
  have HB := Aside0.mk (below_step (((Below.refl _ w).alloc (Nat.le_refl _) _).alloc (by simp) _) hb1)
  clear hb1
  go_wp2_with (first | (refine wpList_load_part rfl 31 _ rfl w.heap.size 17 rfl 33 C M (0, 0) _ HY0.out HM.out Try.underlying31 rfl HZ2.out ?_) | (refine wpList_load_part rfl 31 _ rfl (w.heap.size + 1) 17 rfl 33 C M (0, 0) _ HY1.out HM.out Try.underlying31 rfl HZ2.out ?_))
  refine (HF.out _).mono ?_
  rintro e w2 ⟨rfl, hb2⟩
  have HB2 := Aside0.mk (below_step HB.out hb2)
  clear hb2
  go_wp2
  go_ret
  exact ⟨rfl, HB2.out⟩
set_option maxHeartbeats 8000000 in
theorem lawBlob_calls (n m c : Int) (b : List Int) (hb : b.length = 16) (y : List Bool) (hy : y.length = 16) (hs : ∀ W, Calls Try.prog 14 #[.int .i64 n] W fun e w' => e = .returned (.tuple #[.agg (blo m b y), .int .i64 c]) ∧ Below W.heap.size W w')
    (hi : ∀ W, Calls Try.prog 15 #[.int .i64 n] W fun e w' => e = .returned (.tuple #[.agg (blo m b y), .int .i64 c]) ∧ Below W.heap.size W w') (w : World) :
    Calls Try.prog 5 #[.int .i64 n] w fun e w' => e = .returned (.bool true) ∧ Below w.heap.size w w' := by
  have HS := Aside0.mk hs
  have HI := Aside0.mk hi
  have HE := Aside0.mk (fun W => eqBlo_calls m b hb y hy W)
  have HZ := Aside0.mk (show (Try.prog.info? 33).map (·.size) = some (blo m b y).size by rw [blo_size, hb, hy]; exact sizeBlo)
  have HZ0 := Aside0.mk (show (blo 0 (List.replicate 16 0) fls).size = (blo m b y).size by rw [blo_size, blo_size, hb, hy]; rfl)
  have HO := Aside0.mk (blo_one m b y)
  generalize blo m b y = C at HS HI HE HZ HZ0 HO
  clear hs hi hb
  go_enter Try.func5, Try.ntmps5
  go_wp2_with fail
  refine (HS.out _).mono ?_
  rintro e w1 ⟨rfl, hb1⟩
  have HB1 := Aside0.mk hb1
  clear hb1
  go_wp2_with (refine wpList_store_row rfl 33 _ _ rfl w1.heap.size C rfl rfl 33 (blo 0 (List.replicate 16 0) fls) (heap_alloc_new w1 _) HZ.out HZ0.out HO.out ?_)
  obtain ⟨w2, hw2⟩ : ∃ w2, w2 = (w1.alloc (.cells (blo 0 (List.replicate 16 0) fls) 33)).setRow w1.heap.size C := ⟨_, rfl⟩
  have HG2 := Aside0.mk (show w2.heap[w1.heap.size]? = some (.cells C 33 (0, 0)) by rw [hw2]; exact setRow_heap _ _ _ _ _ _ (heap_alloc_new w1 _))
  have HL2 := Aside0.mk (show w1.heap.size < w2.heap.size by rw [hw2, setRow_size]; simp)
  have HB2 := Aside0.mk (show Below w.heap.size w w2 by rw [hw2]; exact below_setRow (HB1.out.alloc (below_size HB1.out) _) (below_size HB1.out))
  refine (show Calls _ _ _ _ _ from (by have := HI.out w2; rw [hw2] at this; exact this)).mono ?_
  rintro e w3 ⟨rfl, hb3⟩
  rw [← hw2] at hb3
  have HB3 := Aside0.mk (below_step HB2.out hb3)
  have HG3 := Aside0.mk ((hb3.block w1.heap.size HL2.out).trans HG2.out)
  have HL3 := Aside0.mk (Nat.lt_of_lt_of_le HL2.out (below_size hb3))
  clear hb3 hw2 HB2 HG2
  have HW := Aside0.mk (show ((w3.alloc (.cells (blo 0 (List.replicate 16 0) fls) 33)).setRow w3.heap.size C).heap[w1.heap.size]? = some (.cells C 33 (0, 0)) by
    rw [setRow_other _ _ _ _ (Nat.ne_of_lt HL3.out), heap_alloc_old _ _ HL3.out]
    exact HG3.out)
  go_wp2_with (first | (refine wpList_store_row rfl 33 _ _ rfl w3.heap.size C rfl rfl 33 (blo 0 (List.replicate 16 0) fls) (heap_alloc_new w3 _) HZ.out HZ0.out HO.out ?_) | (refine wpList_load_row rfl 33 _ rfl w3.heap.size rfl 33 C (0, 0) _ (setRow_heap _ _ _ _ _ _ (heap_alloc_new w3 _)) Try.underlying33 rfl HZ.out ?_) | (refine wpList_load_row rfl 33 _ rfl w1.heap.size rfl 33 C (0, 0) _ HW.out Try.underlying33 rfl HZ.out ?_))
  refine (HE.out _).mono ?_
  rintro e w5 ⟨rfl, hb5⟩
  have HB5 := Aside0.mk (below_step (below_setRow (HB3.out.alloc (below_size HB3.out) _) (below_size HB3.out)) hb5)
  clear hb5
  go_wp2
  go_ret
  exact ⟨rfl, HB5.out⟩
theorem lawBlob_walk (n : Int) (w : World) : Calls Try.prog 5 #[.int .i64 n] w fun e w' => e = .returned (.bool true) ∧ Below w.heap.size w w' := by
  by_cases h : 1 ≤ n ∧ n ≤ 8
  · obtain ⟨N, rfl⟩ := Int.eq_ofNat_of_zero_le (show 0 ≤ n by omega)
    exact lawBlob_calls N N 0 (oneB N N) (oneB_len N N) (blobM N) (blobM_len N) (fun W => specBlob_in N (by omega) (by omega) W) (fun W => implBlob_in N (by omega) (by omega) W) w
  · exact lawBlob_calls n 0 2 (List.replicate 16 0) rfl fls rfl (fun W => specBlob_out n h W) (fun W => implBlob_out n h W) w
end Go.Proofs.Ytdmipfmipjpegaa.Hand
