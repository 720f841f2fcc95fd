/- Contracts of spec.l09Blob and impl.blob. No condition. -/
import Derived.Test.YtdmipfmipjpegaaHandGen2
import Derived.Deep.RegionHeld
namespace Go.Proofs.Ytdmipfmipjpegaa.Hand
open Go.RowKit Go.Proofs.YtdmipfmipjpegaaW.PrintWords Go.Proofs.YtdmipfmipjpegaaW.PrintLast
set_option linter.unusedVariables false
set_option linter.unusedSimpArgs false

/-- The cells of a diagram with blobs. -/
def blo (n : Int) (b : List Int) (c : List Bool) : Array Value := (Value.int .i64 n :: (b.map (Value.int .u8) ++ c.map Value.bool)).toArray
theorem blo_size (n : Int) (b : List Int) (c : List Bool) : (blo n b c).size = b.length + c.length + 1 := by simp [blo]
theorem blo_one (n : Int) (b : List Int) (c : List Bool) : (blo n b c).all (·.oneCell') = true := by
  unfold blo
  simp [Value.oneCell']
theorem sizeBlo : (Try.prog.info? 33).map (·.size) = some 33 := by kernel_rfl
def fls : List Bool := List.replicate 16 false
/-- The marks of the blob of a size. -/
def blobM (N : Nat) : List Bool := (fls.set 0 true).set N true
theorem blobM_len (N : Nat) : (blobM N).length = 16 := by simp [blobM, fls]
theorem blo_set (n : Int) (b : List Int) (hb : b.length = 16) (c : List Bool) (i : Nat) : (blo n b c).setIfInBounds (17 + i) (.bool true) = blo n b (c.set i true) := by
  unfold blo
  rw [List.setIfInBounds_toArray, show 17 + i = (16 + i) + 1 by omega, List.set_cons_succ, List.set_append_right _ _ (by simp; omega), List.length_map, hb, show 16 + i - 16 = i by omega, List.map_set]
/-- A halt of a walk. -/
inductive Halt (p : Prop) : Prop
  | mk (h : p) : Halt p
/-- A name for a world. -/
structure Same (a b : World) : Prop where
  eq : a = b
/-- A store of a whole row, and a halt behind it. -/
theorem wpList_store_row_halt {P : Program} {ops : Array Oper} {rest : List Oper} {o : Oper} {a : Act} {w : World} {Q : Exit → Act → World → Prop} (hgd : o.guard = none) (ty : TypeId) (x y : Operand) (ho : o.op = .store ty x y)
    (g : Nat) (cells : Array Value) (hx : a.eval x = .pointer (some ⟨g, 0, none⟩)) (hy : a.eval y = .agg cells)
    (t : TypeId) (old : Array Value) (hg : w.heap[g]? = some (.cells old t (0, 0))) (hi : (P.info? ty).map (·.size) = some cells.size)
    (hold : old.size = cells.size) (h1 : cells.all (·.oneCell') = true)
    (h : ∀ W, Same W (w.setRow g cells) → Halt (wpList P ops Q rest (a.put o.dst undef) W)) : wpList P ops Q (o :: rest) a w :=
  wpList_store_row hgd ty x y ho g cells hx hy t old hg hi hold h1 (match h _ ⟨rfl⟩ with | .mk h => h)

set_option maxHeartbeats 8000000 in
theorem sblob_calls (N : Nat) (h1 : 1 ≤ N) (hN : N ≤ 8) (w : World) :
    Calls Try.prog 33 #[.int .i64 (N : Int)] w fun e w' => e = .returned (.agg (blo N (oneB N N) (blobM N))) ∧ Below w.heap.size w w' := by
  have H1 := Aside0.mk (fun W => one_calls N hN W)
  have p1 : (0 ≤ (N : Int)) = True := eq_true (by omega)
  have q1 : ((N : Int) < 16) = True := eq_true (by omega)
  have q1' : (N < 16) = True := eq_true (by omega)
  have HN := Aside0.mk hN
  obtain ⟨x0, x1, x2, x3, x4, x5, x6, x7, x8, x9, x10, x11, x12, x13, x14, x15, hD⟩ := arr16 (oneB N N) (oneB_len N N)
  rw [hD] at H1 ⊢
  rw [show dia (N : Int) [x0, x1, x2, x3, x4, x5, x6, x7, x8, x9, x10, x11, x12, x13, x14, x15] = #[.int .i64 (N : Int), .int .u8 x0, .int .u8 x1, .int .u8 x2, .int .u8 x3, .int .u8 x4, .int .u8 x5, .int .u8 x6, .int .u8 x7, .int .u8 x8, .int .u8 x9, .int .u8 x10, .int .u8 x11, .int .u8 x12, .int .u8 x13, .int .u8 x14, .int .u8 x15] from rfl] at H1
  obtain ⟨C, hC⟩ : ∃ C, C = blo N [x0, x1, x2, x3, x4, x5, x6, x7, x8, x9, x10, x11, x12, x13, x14, x15] (blobM N) := ⟨_, rfl⟩
  rw [← hC]
  clear hD h1 hN
  go_enter Try.func33, Try.ntmps33
  go_wp2_with fail
  refine (H1.out _).mono ?_
  rintro e w1 ⟨rfl, hb1⟩
  have HG1 := Aside0.mk ((hb1.block w.heap.size (by simp)).trans (heap_alloc_new w (.cells (blo 0 (List.replicate 16 0) fls) 33)))
  have HB1 := Aside0.mk (below_step ((Below.refl _ w).alloc (Nat.le_refl _) _) hb1)
  have HL1 := Aside0.mk (show w.heap.size < w1.heap.size from Nat.lt_of_lt_of_le (by simp) (below_size hb1))
  clear hb1
  have HZ1 := Aside0.mk (show (Try.prog.info? 33).map (·.size) = some (blo N [x0, x1, x2, x3, x4, x5, x6, x7, x8, x9, x10, x11, x12, x13, x14, x15] fls).size from sizeBlo)
  have HS1 := Aside0.mk (show (blo 0 (List.replicate 16 0) fls).size = (blo N [x0, x1, x2, x3, x4, x5, x6, x7, x8, x9, x10, x11, x12, x13, x14, x15] fls).size from rfl)
  have HO1 := Aside0.mk (show (blo N [x0, x1, x2, x3, x4, x5, x6, x7, x8, x9, x10, x11, x12, x13, x14, x15] fls).all (·.oneCell') = true from blo_one N [x0, x1, x2, x3, x4, x5, x6, x7, x8, x9, x10, x11, x12, x13, x14, x15] fls)
  go_wp2_with (refine wpList_store_row_halt rfl 33 _ _ rfl w1.heap.size (blo N [x0, x1, x2, x3, x4, x5, x6, x7, x8, x9, x10, x11, x12, x13, x14, x15] fls) rfl rfl 33 (blo 0 (List.replicate 16 0) fls) (heap_alloc_new w1 _) HZ1.out HS1.out HO1.out ?_)
  intro W hW
  have HK2 := Aside0.mk (show W.heap[w1.heap.size]? = some (.cells (blo N [x0, x1, x2, x3, x4, x5, x6, x7, x8, x9, x10, x11, x12, x13, x14, x15] fls) 33 (0, 0)) by rw [hW.eq]; exact setRow_heap _ _ _ _ _ _ (heap_alloc_new w1 _))
  have HG2 := Aside0.mk (show W.heap[w.heap.size]? = some (.cells (blo 0 (List.replicate 16 0) fls) 33 (0, 0)) by
    rw [hW.eq, setRow_other _ _ _ _ (Nat.ne_of_lt HL1.out), heap_alloc_old _ _ HL1.out]
    exact HG1.out)
  have HB2 := Aside0.mk (show Below w.heap.size w W by rw [hW.eq]; exact below_setRow (HB1.out.alloc (below_size HB1.out) _) (below_size HB1.out))
  clear hW
  refine Halt.mk ?_
  have hbz : (blo N [x0, x1, x2, x3, x4, x5, x6, x7, x8, x9, x10, x11, x12, x13, x14, x15] fls).size = 33 := rfl
  have hset : ((blo N [x0, x1, x2, x3, x4, x5, x6, x7, x8, x9, x10, x11, x12, x13, x14, x15] fls).setIfInBounds 17 (.bool true)).setIfInBounds (17 + N) (.bool true) = C := by
    rw [hC]
    have h1 := blo_set N [x0, x1, x2, x3, x4, x5, x6, x7, x8, x9, x10, x11, x12, x13, x14, x15] rfl fls 0
    have h2 := blo_set N [x0, x1, x2, x3, x4, x5, x6, x7, x8, x9, x10, x11, x12, x13, x14, x15] rfl (fls.set 0 true) N
    rw [show (fls.set 0 true).set N true = blobM N from rfl] at h2
    rw [show (17 : Nat) = 17 + 0 from rfl, h1]
    exact h2
  have HZ := Aside0.mk (show (Try.prog.info? 33).map (·.size) = some C.size by rw [hC, blo_size, blobM_len]; exact sizeBlo)
  have HS := Aside0.mk (show (blo 0 (List.replicate 16 0) fls).size = C.size by rw [hC, blo_size, blo_size, blobM_len]; rfl)
  have HO := Aside0.mk (show C.all (·.oneCell') = true by rw [hC]; exact blo_one N [x0, x1, x2, x3, x4, x5, x6, x7, x8, x9, x10, x11, x12, x13, x14, x15] (blobM N))
  clear hC
  generalize (blo N [x0, x1, x2, x3, x4, x5, x6, x7, x8, x9, x10, x11, x12, x13, x14, x15] fls) = C1 at hbz hset HK2
  generalize blo 0 (List.replicate 16 0) fls = C0 at HG2 HS
  clear HG1 HB1 HZ1 HS1 HO1 H1
  have hg := HK2.out
  obtain ⟨u1, e1⟩ : ∃ u1, W.cell? ⟨w1.heap.size, 17, none⟩ = some u1 := by
    rw [cell_of_row _ _ _ _ _ _ hg]
    exact ⟨_, Array.getElem?_eq_getElem (by rw [hbz]; omega)⟩
  have z1 : W.frozen? ⟨w1.heap.size, 17, none⟩ = false := frozen_of_row _ _ _ _ _ hg
  have hg2 := heap_setCell_same W w1.heap.size 17 _ _ (.bool true) hg
  obtain ⟨u2, e2⟩ : ∃ u2, (W.setCell ⟨w1.heap.size, 17, none⟩ (.bool true)).cell? ⟨w1.heap.size, 17 + N, none⟩ = some u2 := by
    rw [cell_of_row _ _ _ _ _ _ hg2]
    exact ⟨_, Array.getElem?_eq_getElem (by rw [Array.size_setIfInBounds, hbz]; have := HN.out; omega)⟩
  have z2 : (W.setCell ⟨w1.heap.size, 17, none⟩ (.bool true)).frozen? ⟨w1.heap.size, 17 + N, none⟩ = false := frozen_of_row _ _ _ _ _ hg2
  have hg3 := heap_setCell_same _ w1.heap.size (17 + N) _ _ (.bool true) hg2
  rw [hset] at hg3
  have HG3 := Aside0.mk hg3
  have HR3 := Aside0.mk (((((Below.refl w1.heap.size W).setCell (Nat.le_refl w1.heap.size) _).setCell (Nat.le_refl w1.heap.size) _ : Below w1.heap.size W ((W.setCell ⟨w1.heap.size, 17, none⟩ (.bool true)).setCell ⟨w1.heap.size, 17 + N, none⟩ (.bool true))).block w.heap.size HL1.out).trans HG2.out)
  have HB3 := Aside0.mk ((HB2.out.setCell (Nat.le_of_lt HL1.out) _).setCell (Nat.le_of_lt HL1.out) _ : Below w.heap.size w ((W.setCell ⟨w1.heap.size, 17, none⟩ (.bool true)).setCell ⟨w1.heap.size, 17 + N, none⟩ (.bool true)))
  clear hg hg2 hg3 hbz hset HK2 HG2 HB2
  go_wp2_with (first | (refine wpList_load_row rfl 33 _ rfl w1.heap.size rfl 33 C (0, 0) _ HG3.out Try.underlying33 rfl HZ.out ?_) | (refine wpList_store_row rfl 33 _ _ rfl w.heap.size C rfl rfl 33 C0 HR3.out HZ.out HS.out HO.out ?_))
  refine bodyPost_ret (results_cell_row rfl _ _ w.heap.size 33 C (0, 0) _ rfl (setRow_heap _ _ _ _ _ _ HR3.out) Try.underlying33 rfl HZ.out) rfl ⟨rfl, below_setRow HB3.out (Nat.le_refl _)⟩

set_option maxHeartbeats 8000000 in
theorem gblob_calls (N : Nat) (h1 : 1 ≤ N) (hN : N ≤ 8) (w : World) :
    Calls Try.prog 34 #[.int .i64 (N : Int)] w fun e w' => e = .returned (.agg (blo N (oneB N N) (blobM N))) ∧ Below w.heap.size w w' := by
  have H1 := Aside0.mk (fun W => unit_calls N hN W)
  have p1 : (0 ≤ (N : Int)) = True := eq_true (by omega)
  have q1 : ((N : Int) < 16) = True := eq_true (by omega)
  have q1' : (N < 16) = True := eq_true (by omega)
  have HN := Aside0.mk hN
  obtain ⟨x0, x1, x2, x3, x4, x5, x6, x7, x8, x9, x10, x11, x12, x13, x14, x15, hD⟩ := arr16 (oneB N N) (oneB_len N N)
  rw [hD] at H1 ⊢
  rw [show dia (N : Int) [x0, x1, x2, x3, x4, x5, x6, x7, x8, x9, x10, x11, x12, x13, x14, x15] = #[.int .i64 (N : Int), .int .u8 x0, .int .u8 x1, .int .u8 x2, .int .u8 x3, .int .u8 x4, .int .u8 x5, .int .u8 x6, .int .u8 x7, .int .u8 x8, .int .u8 x9, .int .u8 x10, .int .u8 x11, .int .u8 x12, .int .u8 x13, .int .u8 x14, .int .u8 x15] from rfl] at H1
  obtain ⟨C, hC⟩ : ∃ C, C = blo N [x0, x1, x2, x3, x4, x5, x6, x7, x8, x9, x10, x11, x12, x13, x14, x15] (blobM N) := ⟨_, rfl⟩
  rw [← hC]
  clear hD h1 hN
  go_enter Try.func34, Try.ntmps34
  go_wp2_with fail
  refine (H1.out _).mono ?_
  rintro e w1 ⟨rfl, hb1⟩
  have HG1 := Aside0.mk ((hb1.block w.heap.size (by simp)).trans (heap_alloc_new w (.cells (blo 0 (List.replicate 16 0) fls) 33)))
  have HB1 := Aside0.mk (below_step ((Below.refl _ w).alloc (Nat.le_refl _) _) hb1)
  have HL1 := Aside0.mk (show w.heap.size < w1.heap.size from Nat.lt_of_lt_of_le (by simp) (below_size hb1))
  clear hb1
  have HZ1 := Aside0.mk (show (Try.prog.info? 33).map (·.size) = some (blo N [x0, x1, x2, x3, x4, x5, x6, x7, x8, x9, x10, x11, x12, x13, x14, x15] fls).size from sizeBlo)
  have HS1 := Aside0.mk (show (blo 0 (List.replicate 16 0) fls).size = (blo N [x0, x1, x2, x3, x4, x5, x6, x7, x8, x9, x10, x11, x12, x13, x14, x15] fls).size from rfl)
  have HO1 := Aside0.mk (show (blo N [x0, x1, x2, x3, x4, x5, x6, x7, x8, x9, x10, x11, x12, x13, x14, x15] fls).all (·.oneCell') = true from blo_one N [x0, x1, x2, x3, x4, x5, x6, x7, x8, x9, x10, x11, x12, x13, x14, x15] fls)
  go_wp2_with (refine wpList_store_row_halt rfl 33 _ _ rfl w1.heap.size (blo N [x0, x1, x2, x3, x4, x5, x6, x7, x8, x9, x10, x11, x12, x13, x14, x15] fls) rfl rfl 33 (blo 0 (List.replicate 16 0) fls) (heap_alloc_new w1 _) HZ1.out HS1.out HO1.out ?_)
  intro W hW
  have HK2 := Aside0.mk (show W.heap[w1.heap.size]? = some (.cells (blo N [x0, x1, x2, x3, x4, x5, x6, x7, x8, x9, x10, x11, x12, x13, x14, x15] fls) 33 (0, 0)) by rw [hW.eq]; exact setRow_heap _ _ _ _ _ _ (heap_alloc_new w1 _))
  have HG2 := Aside0.mk (show W.heap[w.heap.size]? = some (.cells (blo 0 (List.replicate 16 0) fls) 33 (0, 0)) by
    rw [hW.eq, setRow_other _ _ _ _ (Nat.ne_of_lt HL1.out), heap_alloc_old _ _ HL1.out]
    exact HG1.out)
  have HB2 := Aside0.mk (show Below w.heap.size w W by rw [hW.eq]; exact below_setRow (HB1.out.alloc (below_size HB1.out) _) (below_size HB1.out))
  clear hW
  refine Halt.mk ?_
  have hbz : (blo N [x0, x1, x2, x3, x4, x5, x6, x7, x8, x9, x10, x11, x12, x13, x14, x15] fls).size = 33 := rfl
  have hset : ((blo N [x0, x1, x2, x3, x4, x5, x6, x7, x8, x9, x10, x11, x12, x13, x14, x15] fls).setIfInBounds 17 (.bool true)).setIfInBounds (17 + N) (.bool true) = C := by
    rw [hC]
    have h1 := blo_set N [x0, x1, x2, x3, x4, x5, x6, x7, x8, x9, x10, x11, x12, x13, x14, x15] rfl fls 0
    have h2 := blo_set N [x0, x1, x2, x3, x4, x5, x6, x7, x8, x9, x10, x11, x12, x13, x14, x15] rfl (fls.set 0 true) N
    rw [show (fls.set 0 true).set N true = blobM N from rfl] at h2
    rw [show (17 : Nat) = 17 + 0 from rfl, h1]
    exact h2
  have HZ := Aside0.mk (show (Try.prog.info? 33).map (·.size) = some C.size by rw [hC, blo_size, blobM_len]; exact sizeBlo)
  have HS := Aside0.mk (show (blo 0 (List.replicate 16 0) fls).size = C.size by rw [hC, blo_size, blo_size, blobM_len]; rfl)
  have HO := Aside0.mk (show C.all (·.oneCell') = true by rw [hC]; exact blo_one N [x0, x1, x2, x3, x4, x5, x6, x7, x8, x9, x10, x11, x12, x13, x14, x15] (blobM N))
  clear hC
  generalize (blo N [x0, x1, x2, x3, x4, x5, x6, x7, x8, x9, x10, x11, x12, x13, x14, x15] fls) = C1 at hbz hset HK2
  generalize blo 0 (List.replicate 16 0) fls = C0 at HG2 HS
  clear HG1 HB1 HZ1 HS1 HO1 H1
  have hg := HK2.out
  obtain ⟨u1, e1⟩ : ∃ u1, W.cell? ⟨w1.heap.size, 17, none⟩ = some u1 := by
    rw [cell_of_row _ _ _ _ _ _ hg]
    exact ⟨_, Array.getElem?_eq_getElem (by rw [hbz]; omega)⟩
  have z1 : W.frozen? ⟨w1.heap.size, 17, none⟩ = false := frozen_of_row _ _ _ _ _ hg
  have hg2 := heap_setCell_same W w1.heap.size 17 _ _ (.bool true) hg
  obtain ⟨u2, e2⟩ : ∃ u2, (W.setCell ⟨w1.heap.size, 17, none⟩ (.bool true)).cell? ⟨w1.heap.size, 17 + N, none⟩ = some u2 := by
    rw [cell_of_row _ _ _ _ _ _ hg2]
    exact ⟨_, Array.getElem?_eq_getElem (by rw [Array.size_setIfInBounds, hbz]; have := HN.out; omega)⟩
  have z2 : (W.setCell ⟨w1.heap.size, 17, none⟩ (.bool true)).frozen? ⟨w1.heap.size, 17 + N, none⟩ = false := frozen_of_row _ _ _ _ _ hg2
  have hg3 := heap_setCell_same _ w1.heap.size (17 + N) _ _ (.bool true) hg2
  rw [hset] at hg3
  have HG3 := Aside0.mk hg3
  have HR3 := Aside0.mk (((((Below.refl w1.heap.size W).setCell (Nat.le_refl w1.heap.size) _).setCell (Nat.le_refl w1.heap.size) _ : Below w1.heap.size W ((W.setCell ⟨w1.heap.size, 17, none⟩ (.bool true)).setCell ⟨w1.heap.size, 17 + N, none⟩ (.bool true))).block w.heap.size HL1.out).trans HG2.out)
  have HB3 := Aside0.mk ((HB2.out.setCell (Nat.le_of_lt HL1.out) _).setCell (Nat.le_of_lt HL1.out) _ : Below w.heap.size w ((W.setCell ⟨w1.heap.size, 17, none⟩ (.bool true)).setCell ⟨w1.heap.size, 17 + N, none⟩ (.bool true)))
  clear hg hg2 hg3 hbz hset HK2 HG2 HB2
  go_wp2_with (first | (refine wpList_load_row rfl 33 _ rfl w1.heap.size rfl 33 C (0, 0) _ HG3.out Try.underlying33 rfl HZ.out ?_) | (refine wpList_store_row rfl 33 _ _ rfl w.heap.size C rfl rfl 33 C0 HR3.out HZ.out HS.out HO.out ?_))
  refine bodyPost_ret (results_cell_row rfl _ _ w.heap.size 33 C (0, 0) _ rfl (setRow_heap _ _ _ _ _ _ HR3.out) Try.underlying33 rfl HZ.out) rfl ⟨rfl, below_setRow HB3.out (Nat.le_refl _)⟩
end Go.Proofs.Ytdmipfmipjpegaa.Hand
