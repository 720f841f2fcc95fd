/- The contracts of laws.toByteA8 and laws.toPartition, of both IsPartition, and the walk of laws.FnExactIsPartition. No condition. -/
import Derived.Test.YtkpjmphglnnmiaaHandIsPPure
namespace Go.Proofs.Ytkpjmphglnnmiaa.Hand
open Go.RowKit Go.Proofs.YtkpjmphglnnmiaaW.PrintWords Go.Proofs.YtkpjmphglnnmiaaW.PrintLast Go.Maps
set_option linter.unusedVariables false
set_option linter.unusedSimpArgs false

theorem byt_set (b : List Int) (i : Nat) (v : Int) : (byt b).setIfInBounds i (.int .u8 v) = byt (b.set i v) := by
  unfold byt
  rw [List.map_set]
  simp
theorem byt_size (b : List Int) : (byt b).size = b.length := by simp [byt]
theorem byt_one (b : List Int) : (byt b).all (·.oneCell') = true := by
  unfold byt
  simp [Value.oneCell']
/-- The first places of b, behind them nought. -/
def cp (b : List Int) : Nat → List Int
  | 0 => List.replicate 8 0
  | i + 1 => (cp b i).set i (b.getD i 0)
theorem cp_len (b : List Int) : ∀ i, (cp b i).length = 8
  | 0 => rfl
  | i + 1 => by rw [cp, List.length_set, cp_len b i]
theorem cp_all (b : List Int) (hb : b.length = 8) : cp b 8 = b := by
  obtain ⟨x0, x1, x2, x3, x4, x5, x6, x7, rfl⟩ := arr8 b hb
  rfl
theorem sizeByt : (Try.prog.info? 22).map (·.size) = some 8 := by kernel_rfl
theorem zerosB : (#[.int .u8 0, .int .u8 0, .int .u8 0, .int .u8 0, .int .u8 0, .int .u8 0, .int .u8 0, .int .u8 0] : Array Value) = byt (List.replicate 8 0) := rfl
set_option maxHeartbeats 4000000 in
theorem toByte_calls (b : List Int) (hb : b.length = 8) (w : World) :
    Calls Try.prog 18 #[.agg (byt b)] w fun e w' => e = .returned (.agg (byt b)) ∧ Below w.heap.size w w' := by
  have HC := Aside0.mk (fun i hi => byt_at b hb i hi)
  have HZ := Aside0.mk (show (Try.prog.info? 22).map (·.size) = some (byt (cp b 8)).size by rw [byt_size, cp_len]; exact sizeByt)
  have HZ0 := Aside0.mk (show (byt (List.replicate 8 0)).size = (byt (cp b 8)).size by rw [byt_size, byt_size, cp_len]; rfl)
  have HL := Aside0.mk hb
  generalize hC : byt b = C at HC
  have HCC := Aside0.mk hC
  clear hb hC
  go_enter Try.func18, Try.ntmps18
  go_wp2
  rw [zerosB]
  obtain ⟨w2, hw2⟩ : ∃ w2, w2 = ((w.alloc (.cells C 22)).alloc (.cells (byt (List.replicate 8 0)) 22)).alloc (.cells (byt (List.replicate 8 0)) 22) := ⟨_, rfl⟩
  rw [← hw2]
  have hs : ∀ o1 o2, ((w.alloc o1).alloc o2).heap.size = w.heap.size + 1 + 1 := by intro o1 o2; simp
  have HX := Aside0.mk (show w2.heap[w.heap.size]? = some (.cells C 22 (0, 0)) by rw [hw2]; exact (heap_alloc_old _ _ (by rw [hs]; omega)).trans (heap_alloc2_old _ _ _))
  have HY := Aside0.mk (show w2.heap[w.heap.size + 1]? = some (.cells (byt (List.replicate 8 0)) 22 (0, 0)) by rw [hw2]; exact (heap_alloc_old _ _ (by rw [hs]; omega)).trans (heap_alloc2_new _ _ _))
  have HN := Aside0.mk (show w2.heap[w.heap.size + 1 + 1]? = some (.cells (byt (List.replicate 8 0)) 22 (0, 0)) by rw [hw2, ← hs (.cells C 22) (.cells (byt (List.replicate 8 0)) 22)]; exact heap_alloc_new _ _)
  have HB := Aside0.mk (show Below w.heap.size w w2 by rw [hw2]; exact (((Below.refl _ w).alloc (Nat.le_refl _) _).alloc (by simp) _).alloc (by simp; omega) _)
  clear hw2 hs
  go_loopg [4] 8 (fun kq v4 w' => ∃ (i : Nat), v4 = .int .i64 (i : Int) ∧ Aside0 (i + kq = 8) ∧ Aside0 (w'.heap[w.heap.size]? = some (.cells C 22 (0, 0))) ∧ Aside0 (w'.heap[w.heap.size + 1]? = some (.cells (byt (List.replicate 8 0)) 22 (0, 0))) ∧ Aside0 (w'.heap[w.heap.size + 1 + 1]? = some (.cells (byt (cp b i)) 22 (0, 0))) ∧ Aside0 (Below w.heap.size w w'))
  case atStart => exact ⟨0, rfl, ⟨by omega⟩, HX, HY, HN, HB⟩
  case round =>
    clear HX HY HN HB
    obtain ⟨i, rfl, HI, HX, HY, HN, HB⟩ := hrel
    cases gk with
    | zero =>
      have hi := HI.out
      have c1 : decide ((i : Int) < 8) = false := decide_eq_false (by omega)
      have c2 : decide (i < 8) = false := decide_eq_false (by omega)
      have hi8 : i = 8 := by omega
      have HG := Aside0.mk (show wr.heap[w.heap.size + 1 + 1]? = some (.cells (byt (cp b 8)) 22 (0, 0)) by rw [← hi8]; exact HN.out)
      have HE := Aside0.mk (show byt (cp b 8) = C by rw [cp_all b HL.out]; exact HCC.out)
      clear hi8 hi
      go_wp2_with (first | (refine wpList_load_row rfl 22 _ rfl (w.heap.size + 1 + 1) rfl 22 (byt (cp b 8)) (0, 0) _ HG.out Try.underlying22 rfl HZ.out ?_) | (refine wpList_store_row rfl 22 _ _ rfl (w.heap.size + 1) (byt (cp b 8)) rfl rfl 22 (byt (List.replicate 8 0)) HY.out HZ.out HZ0.out (byt_one _) ?_))
      refine bodyPost_ret (results_cell_row rfl _ _ (w.heap.size + 1) 22 _ (0, 0) _ rfl (setRow_heap _ _ _ _ _ _ HY.out) Try.underlying22 rfl HZ.out) rfl ⟨by rw [HE.out], below_setRow HB.out (by omega)⟩
    | succ dq =>
      have hi := HI.out
      have hi8 : i < 8 := by omega
      have c1 : decide ((i : Int) < 8) = true := decide_eq_true (by omega)
      have c2 : decide (i < 8) = true := decide_eq_true hi8
      have p1 := eq_true (show (0 : Int) ≤ (i : Int) by omega)
      have p2 := eq_true (show (i : Int) < 8 by omega)
      have z1 : wr.cell? ⟨w.heap.size, i, none⟩ = some (.int .u8 (b.getD i 0)) := by rw [cell_of_row _ _ _ _ _ _ HX.out]; exact HC.out i hi8
      have zc : wr.cell? ⟨w.heap.size + 1 + 1, i, none⟩ = some (.int .u8 ((cp b i).getD i 0)) := by rw [cell_of_row _ _ _ _ _ _ HN.out]; exact byt_at _ (cp_len b i) i hi8
      have zf : wr.frozen? ⟨w.heap.size + 1 + 1, i, none⟩ = false := frozen_of_row _ _ _ _ _ HN.out
      have hwi : wrap64 ((i : Int) + 1) = ((i + 1 : Nat) : Int) := by unfold wrap64; omega
      have HWI := Aside0.mk hwi
      clear hwi
      go_wp2
      have HGN := Aside0.mk (show (wr.setCell ⟨w.heap.size + 1 + 1, i, none⟩ (.int .u8 (b.getD i 0))).heap[w.heap.size + 1 + 1]? = some (.cells (byt (cp b (i + 1))) 22 (0, 0)) by
        rw [heap_setCell_same wr (w.heap.size + 1 + 1) i _ _ _ HN.out, byt_set]; rfl)
      have HXN := Aside0.mk ((heap_setCell_other wr ⟨w.heap.size + 1 + 1, i, none⟩ w.heap.size (.int .u8 (b.getD i 0)) (by show w.heap.size ≠ w.heap.size + 1 + 1; omega)).trans HX.out)
      have HYN := Aside0.mk ((heap_setCell_other wr ⟨w.heap.size + 1 + 1, i, none⟩ (w.heap.size + 1) (.int .u8 (b.getD i 0)) (by show w.heap.size + 1 ≠ w.heap.size + 1 + 1; omega)).trans HY.out)
      have HBN := Aside0.mk (HB.out.setCell (p := ⟨w.heap.size + 1 + 1, i, none⟩) (by show w.heap.size ≤ w.heap.size + 1 + 1; omega) (.int .u8 (b.getD i 0)))
      go_roundg dq
      case measure => omega
      case rel => exact ⟨i + 1, (by first | rfl | exact congrArg _ HWI.out), ⟨by omega⟩, HXN, HYN, HGN, HBN⟩
theorem set9 (n x0 x1 x2 x3 x4 x5 x6 x7 : Int) : ((((((((((#[.int .i64 0, .int .u8 0, .int .u8 0, .int .u8 0, .int .u8 0, .int .u8 0, .int .u8 0, .int .u8 0, .int .u8 0] : Array Value).setIfInBounds 0 (.int .i64 n)).setIfInBounds 1 (.int .u8 x0)).setIfInBounds 2 (.int .u8 x1)).setIfInBounds 3 (.int .u8 x2)).setIfInBounds 4 (.int .u8 x3)).setIfInBounds 5 (.int .u8 x4)).setIfInBounds 6 (.int .u8 x5)).setIfInBounds 7 (.int .u8 x6)).setIfInBounds 8 (.int .u8 x7)) = #[.int .i64 n, .int .u8 x0, .int .u8 x1, .int .u8 x2, .int .u8 x3, .int .u8 x4, .int .u8 x5, .int .u8 x6, .int .u8 x7] := by simp
theorem row8 {w1 : World} {g h t : Nat} {cs : Array Value} (n x0 x1 x2 x3 x4 x5 x6 x7 : Int) (hne : g ≠ h) (hg : w1.heap[g]? = some (.cells cs t (0, 0))) :
    ((((((((w1.setCell ⟨h, 1, none⟩ (.int .u8 x0)).setCell ⟨h, 2, none⟩ (.int .u8 x1)).setCell ⟨h, 3, none⟩ (.int .u8 x2)).setCell ⟨h, 4, none⟩ (.int .u8 x3)).setCell ⟨h, 5, none⟩ (.int .u8 x4)).setCell ⟨h, 6, none⟩ (.int .u8 x5)).setCell ⟨h, 7, none⟩ (.int .u8 x6)).setCell ⟨h, 8, none⟩ (.int .u8 x7)).heap[g]? = some (.cells cs t (0, 0)) := by
  have e0 := hg
  have e1 := (heap_setCell_other _ ⟨h, 1, none⟩ g (.int .u8 x0) hne).trans e0
  have e2 := (heap_setCell_other _ ⟨h, 2, none⟩ g (.int .u8 x1) hne).trans e1
  have e3 := (heap_setCell_other _ ⟨h, 3, none⟩ g (.int .u8 x2) hne).trans e2
  have e4 := (heap_setCell_other _ ⟨h, 4, none⟩ g (.int .u8 x3) hne).trans e3
  have e5 := (heap_setCell_other _ ⟨h, 5, none⟩ g (.int .u8 x4) hne).trans e4
  have e6 := (heap_setCell_other _ ⟨h, 6, none⟩ g (.int .u8 x5) hne).trans e5
  have e7 := (heap_setCell_other _ ⟨h, 7, none⟩ g (.int .u8 x6) hne).trans e6
  have e8 := (heap_setCell_other _ ⟨h, 8, none⟩ g (.int .u8 x7) hne).trans e7
  exact e8
theorem row9 {w1 : World} {g t : Nat} (n x0 x1 x2 x3 x4 x5 x6 x7 : Int) (hg : w1.heap[g]? = some (.cells #[.int .i64 0, .int .u8 0, .int .u8 0, .int .u8 0, .int .u8 0, .int .u8 0, .int .u8 0, .int .u8 0, .int .u8 0] t (0, 0))) :
    (((((((((w1.setCell ⟨g, 0, none⟩ (.int .i64 n)).setCell ⟨g, 1, none⟩ (.int .u8 x0)).setCell ⟨g, 2, none⟩ (.int .u8 x1)).setCell ⟨g, 3, none⟩ (.int .u8 x2)).setCell ⟨g, 4, none⟩ (.int .u8 x3)).setCell ⟨g, 5, none⟩ (.int .u8 x4)).setCell ⟨g, 6, none⟩ (.int .u8 x5)).setCell ⟨g, 7, none⟩ (.int .u8 x6)).setCell ⟨g, 8, none⟩ (.int .u8 x7)).heap[g]? = some (.cells #[.int .i64 n, .int .u8 x0, .int .u8 x1, .int .u8 x2, .int .u8 x3, .int .u8 x4, .int .u8 x5, .int .u8 x6, .int .u8 x7] t (0, 0)) := by
  have s0 := heap_setCell_same _ g 0 _ _ (.int .i64 n) hg
  have s1 := heap_setCell_same _ g 1 _ _ (.int .u8 x0) s0
  have s2 := heap_setCell_same _ g 2 _ _ (.int .u8 x1) s1
  have s3 := heap_setCell_same _ g 3 _ _ (.int .u8 x2) s2
  have s4 := heap_setCell_same _ g 4 _ _ (.int .u8 x3) s3
  have s5 := heap_setCell_same _ g 5 _ _ (.int .u8 x4) s4
  have s6 := heap_setCell_same _ g 6 _ _ (.int .u8 x5) s5
  have s7 := heap_setCell_same _ g 7 _ _ (.int .u8 x6) s6
  have s8 := heap_setCell_same _ g 8 _ _ (.int .u8 x7) s7
  rw [set9] at s8
  exact s8
theorem below9 {base : Nat} {w w1 : World} {g : Nat} (n x0 x1 x2 x3 x4 x5 x6 x7 : Int) (hb : Below base w w1) (hg : base ≤ g) : Below base w (((((((((w1.setCell ⟨g, 0, none⟩ (.int .i64 n)).setCell ⟨g, 1, none⟩ (.int .u8 x0)).setCell ⟨g, 2, none⟩ (.int .u8 x1)).setCell ⟨g, 3, none⟩ (.int .u8 x2)).setCell ⟨g, 4, none⟩ (.int .u8 x3)).setCell ⟨g, 5, none⟩ (.int .u8 x4)).setCell ⟨g, 6, none⟩ (.int .u8 x5)).setCell ⟨g, 7, none⟩ (.int .u8 x6)).setCell ⟨g, 8, none⟩ (.int .u8 x7)) := by
  refine Below.setCell (p := ⟨g, _, none⟩) ?_ hg _
  refine Below.setCell (p := ⟨g, _, none⟩) ?_ hg _
  refine Below.setCell (p := ⟨g, _, none⟩) ?_ hg _
  refine Below.setCell (p := ⟨g, _, none⟩) ?_ hg _
  refine Below.setCell (p := ⟨g, _, none⟩) ?_ hg _
  refine Below.setCell (p := ⟨g, _, none⟩) ?_ hg _
  refine Below.setCell (p := ⟨g, _, none⟩) ?_ hg _
  refine Below.setCell (p := ⟨g, _, none⟩) ?_ hg _
  refine Below.setCell (p := ⟨g, _, none⟩) ?_ hg _
  exact hb
theorem below8 {base : Nat} {w w1 : World} {h : Nat} (x0 x1 x2 x3 x4 x5 x6 x7 : Int) (hb : Below base w w1) (hg : base ≤ h) : Below base w ((((((((w1.setCell ⟨h, 1, none⟩ (.int .u8 x0)).setCell ⟨h, 2, none⟩ (.int .u8 x1)).setCell ⟨h, 3, none⟩ (.int .u8 x2)).setCell ⟨h, 4, none⟩ (.int .u8 x3)).setCell ⟨h, 5, none⟩ (.int .u8 x4)).setCell ⟨h, 6, none⟩ (.int .u8 x5)).setCell ⟨h, 7, none⟩ (.int .u8 x6)).setCell ⟨h, 8, none⟩ (.int .u8 x7)) := by
  refine Below.setCell (p := ⟨h, _, none⟩) ?_ hg _
  refine Below.setCell (p := ⟨h, _, none⟩) ?_ hg _
  refine Below.setCell (p := ⟨h, _, none⟩) ?_ hg _
  refine Below.setCell (p := ⟨h, _, none⟩) ?_ hg _
  refine Below.setCell (p := ⟨h, _, none⟩) ?_ hg _
  refine Below.setCell (p := ⟨h, _, none⟩) ?_ hg _
  refine Below.setCell (p := ⟨h, _, none⟩) ?_ hg _
  refine Below.setCell (p := ⟨h, _, none⟩) ?_ hg _
  exact hb
set_option maxHeartbeats 8000000 in
theorem toPart_calls (n : Int) (x0 x1 x2 x3 x4 x5 x6 x7 : Int) (w : World) :
    Calls Try.prog 7 #[.agg (par n [x0, x1, x2, x3, x4, x5, x6, x7])] w fun e w' => e = .returned (.agg (par n [x0, x1, x2, x3, x4, x5, x6, x7])) ∧ Below w.heap.size w w' := by
  have HT := Aside0.mk (fun W => toByte_calls [x0, x1, x2, x3, x4, x5, x6, x7] rfl W)
  rw [show par n [x0, x1, x2, x3, x4, x5, x6, x7] = #[.int .i64 n, .int .u8 x0, .int .u8 x1, .int .u8 x2, .int .u8 x3, .int .u8 x4, .int .u8 x5, .int .u8 x6, .int .u8 x7] from rfl]
  rw [show byt [x0, x1, x2, x3, x4, x5, x6, x7] = #[.int .u8 x0, .int .u8 x1, .int .u8 x2, .int .u8 x3, .int .u8 x4, .int .u8 x5, .int .u8 x6, .int .u8 x7] from rfl] at HT
  go_enter Try.func7, Try.ntmps7
  go_wp2_with fail
  refine (HT.out _).mono ?_
  rintro e w1 ⟨rfl, hb1⟩
  have hs : ∀ o1 o2, ((w.alloc o1).alloc o2).heap.size = w.heap.size + 1 + 1 := by intro o1 o2; simp
  have hs3 : ∀ o1 o2 o3, (((w.alloc o1).alloc o2).alloc o3).heap.size = w.heap.size + 1 + 1 + 1 := by intro o1 o2 o3; simp
  have HR := Aside0.mk (show w1.heap[w.heap.size + 1]? = some (.cells #[.int .i64 0, .int .u8 0, .int .u8 0, .int .u8 0, .int .u8 0, .int .u8 0, .int .u8 0, .int .u8 0, .int .u8 0] 26 (0, 0)) from (hb1.block _ (by rw [hs3]; omega)).trans ((heap_alloc_old _ _ (by rw [hs]; omega)).trans (heap_alloc2_new _ _ _)))
  have HG := Aside0.mk (show w1.heap[w.heap.size + 1 + 1]? = some (.cells #[.int .i64 n, .int .u8 0, .int .u8 0, .int .u8 0, .int .u8 0, .int .u8 0, .int .u8 0, .int .u8 0, .int .u8 0] 26 (0, 0)) by
    rw [hb1.block _ (by rw [hs3]; omega), ← hs (.cells #[.int .i64 n, .int .u8 x0, .int .u8 x1, .int .u8 x2, .int .u8 x3, .int .u8 x4, .int .u8 x5, .int .u8 x6, .int .u8 x7] 24) (.cells #[.int .i64 0, .int .u8 0, .int .u8 0, .int .u8 0, .int .u8 0, .int .u8 0, .int .u8 0, .int .u8 0, .int .u8 0] 26)]; exact heap_alloc_new _ _)
  have HB := Aside0.mk (below_step ((((Below.refl _ w).alloc (Nat.le_refl _) _).alloc (by simp) _).alloc (by simp; omega) _) hb1)
  clear hs hs3 hb1
  have z0 : w1.cell? ⟨w.heap.size + 1 + 1, 0, none⟩ = some (.int .i64 n) := by rw [cell_of_row _ _ _ _ _ _ HG.out]; rfl
  have z1 : w1.cell? ⟨w.heap.size + 1 + 1, 1, none⟩ = some (.int .u8 0) := by rw [cell_of_row _ _ _ _ _ _ HG.out]; rfl
  have z2 : w1.cell? ⟨w.heap.size + 1 + 1, 2, none⟩ = some (.int .u8 0) := by rw [cell_of_row _ _ _ _ _ _ HG.out]; rfl
  have z3 : w1.cell? ⟨w.heap.size + 1 + 1, 3, none⟩ = some (.int .u8 0) := by rw [cell_of_row _ _ _ _ _ _ HG.out]; rfl
  have z4 : w1.cell? ⟨w.heap.size + 1 + 1, 4, none⟩ = some (.int .u8 0) := by rw [cell_of_row _ _ _ _ _ _ HG.out]; rfl
  have z5 : w1.cell? ⟨w.heap.size + 1 + 1, 5, none⟩ = some (.int .u8 0) := by rw [cell_of_row _ _ _ _ _ _ HG.out]; rfl
  have z6 : w1.cell? ⟨w.heap.size + 1 + 1, 6, none⟩ = some (.int .u8 0) := by rw [cell_of_row _ _ _ _ _ _ HG.out]; rfl
  have z7 : w1.cell? ⟨w.heap.size + 1 + 1, 7, none⟩ = some (.int .u8 0) := by rw [cell_of_row _ _ _ _ _ _ HG.out]; rfl
  have z8 : w1.cell? ⟨w.heap.size + 1 + 1, 8, none⟩ = some (.int .u8 0) := by rw [cell_of_row _ _ _ _ _ _ HG.out]; rfl
  have y0 : w1.cell? ⟨w.heap.size + 1, 0, none⟩ = some (.int .i64 0) := by rw [cell_of_row _ _ _ _ _ _ HR.out]; rfl
  have y1 : w1.cell? ⟨w.heap.size + 1, 1, none⟩ = some (.int .u8 0) := by rw [cell_of_row _ _ _ _ _ _ HR.out]; rfl
  have y2 : w1.cell? ⟨w.heap.size + 1, 2, none⟩ = some (.int .u8 0) := by rw [cell_of_row _ _ _ _ _ _ HR.out]; rfl
  have y3 : w1.cell? ⟨w.heap.size + 1, 3, none⟩ = some (.int .u8 0) := by rw [cell_of_row _ _ _ _ _ _ HR.out]; rfl
  have y4 : w1.cell? ⟨w.heap.size + 1, 4, none⟩ = some (.int .u8 0) := by rw [cell_of_row _ _ _ _ _ _ HR.out]; rfl
  have y5 : w1.cell? ⟨w.heap.size + 1, 5, none⟩ = some (.int .u8 0) := by rw [cell_of_row _ _ _ _ _ _ HR.out]; rfl
  have y6 : w1.cell? ⟨w.heap.size + 1, 6, none⟩ = some (.int .u8 0) := by rw [cell_of_row _ _ _ _ _ _ HR.out]; rfl
  have y7 : w1.cell? ⟨w.heap.size + 1, 7, none⟩ = some (.int .u8 0) := by rw [cell_of_row _ _ _ _ _ _ HR.out]; rfl
  have y8 : w1.cell? ⟨w.heap.size + 1, 8, none⟩ = some (.int .u8 0) := by rw [cell_of_row _ _ _ _ _ _ HR.out]; rfl
  have f0 : w1.frozen? ⟨w.heap.size + 1 + 1, 0, none⟩ = false := frozen_of_row _ _ _ _ _ HG.out
  have f1 : w1.frozen? ⟨w.heap.size + 1 + 1, 1, none⟩ = false := frozen_of_row _ _ _ _ _ HG.out
  have f2 : w1.frozen? ⟨w.heap.size + 1 + 1, 2, none⟩ = false := frozen_of_row _ _ _ _ _ HG.out
  have f3 : w1.frozen? ⟨w.heap.size + 1 + 1, 3, none⟩ = false := frozen_of_row _ _ _ _ _ HG.out
  have f4 : w1.frozen? ⟨w.heap.size + 1 + 1, 4, none⟩ = false := frozen_of_row _ _ _ _ _ HG.out
  have f5 : w1.frozen? ⟨w.heap.size + 1 + 1, 5, none⟩ = false := frozen_of_row _ _ _ _ _ HG.out
  have f6 : w1.frozen? ⟨w.heap.size + 1 + 1, 6, none⟩ = false := frozen_of_row _ _ _ _ _ HG.out
  have f7 : w1.frozen? ⟨w.heap.size + 1 + 1, 7, none⟩ = false := frozen_of_row _ _ _ _ _ HG.out
  have f8 : w1.frozen? ⟨w.heap.size + 1 + 1, 8, none⟩ = false := frozen_of_row _ _ _ _ _ HG.out
  have g0 : w1.frozen? ⟨w.heap.size + 1, 0, none⟩ = false := frozen_of_row _ _ _ _ _ HR.out
  have g1 : w1.frozen? ⟨w.heap.size + 1, 1, none⟩ = false := frozen_of_row _ _ _ _ _ HR.out
  have g2 : w1.frozen? ⟨w.heap.size + 1, 2, none⟩ = false := frozen_of_row _ _ _ _ _ HR.out
  have g3 : w1.frozen? ⟨w.heap.size + 1, 3, none⟩ = false := frozen_of_row _ _ _ _ _ HR.out
  have g4 : w1.frozen? ⟨w.heap.size + 1, 4, none⟩ = false := frozen_of_row _ _ _ _ _ HR.out
  have g5 : w1.frozen? ⟨w.heap.size + 1, 5, none⟩ = false := frozen_of_row _ _ _ _ _ HR.out
  have g6 : w1.frozen? ⟨w.heap.size + 1, 6, none⟩ = false := frozen_of_row _ _ _ _ _ HR.out
  have g7 : w1.frozen? ⟨w.heap.size + 1, 7, none⟩ = false := frozen_of_row _ _ _ _ _ HR.out
  have g8 : w1.frozen? ⟨w.heap.size + 1, 8, none⟩ = false := frozen_of_row _ _ _ _ _ HR.out
  go_wp2_with fail
  have hr := row9 (g := w.heap.size + 1) n x0 x1 x2 x3 x4 x5 x6 x7 (row8 (h := w.heap.size + 1 + 1) n x0 x1 x2 x3 x4 x5 x6 x7 (by omega) HR.out)
  have hB := below9 (g := w.heap.size + 1) n x0 x1 x2 x3 x4 x5 x6 x7 (below8 (h := w.heap.size + 1 + 1) x0 x1 x2 x3 x4 x5 x6 x7 HB.out (by omega)) (by omega)
  refine bodyPost_ret (results_cell_row rfl _ _ (w.heap.size + 1) 26 #[.int .i64 n, .int .u8 x0, .int .u8 x1, .int .u8 x2, .int .u8 x3, .int .u8 x4, .int .u8 x5, .int .u8 x6, .int .u8 x7] (0, 0) _ rfl hr Try.underlying26 rfl sizePar) rfl ⟨rfl, hB⟩
set_option maxHeartbeats 8000000 in
theorem specIs_out (n : Int) (h : ¬(1 ≤ n ∧ n ≤ 4)) (x0 x1 x2 x3 x4 x5 x6 x7 : Int) (w : World) :
    Calls Try.prog 17 #[.agg (par n [x0, x1, x2, x3, x4, x5, x6, x7])] w fun e w' => e = .returned (.bool false) ∧ Below w.heap.size w w' := by
  have HI := Aside0.mk (fun W => specIn_out n h W)
  have HB := Aside0.mk ((Below.refl w.heap.size w).alloc (Nat.le_refl _) (.cells (par n [x0, x1, x2, x3, x4, x5, x6, x7]) 26))
  have HW0 := Aside0.mk (heap_alloc_new w (.cells (par n [x0, x1, x2, x3, x4, x5, x6, x7]) 26))
  have z0 : (w.alloc (.cells (par n [x0, x1, x2, x3, x4, x5, x6, x7]) 26)).cell? ⟨w.heap.size, 0, none⟩ = some (.int .i64 n) := by rw [cell_of_row _ _ _ _ _ _ HW0.out]; rfl
  generalize par n [x0, x1, x2, x3, x4, x5, x6, x7] = C at HB HW0 z0 ⊢
  clear h HW0
  go_enter Try.func17, Try.ntmps17
  go_wp2_with fail
  refine (HI.out _).mono ?_
  rintro e w0 ⟨rfl, ⟨q, rfl⟩⟩
  go_wp2
  go_ret
  exact ⟨rfl, pw_below_drewN HB.out q⟩
set_option maxHeartbeats 8000000 in
theorem implIs_out (n : Int) (h : ¬(1 ≤ n ∧ n ≤ 4)) (x0 x1 x2 x3 x4 x5 x6 x7 : Int) (w : World) :
    Calls Try.prog 8 #[.agg (par n [x0, x1, x2, x3, x4, x5, x6, x7])] w fun e w' => e = .returned (.bool false) ∧ Below w.heap.size w w' := by
  have HI := Aside0.mk (fun W => implIn_out n h W)
  have HB := Aside0.mk ((Below.refl w.heap.size w).alloc (Nat.le_refl _) (.cells (par n [x0, x1, x2, x3, x4, x5, x6, x7]) 26))
  have HH := Aside0.mk (heap_alloc_new w (.cells (par n [x0, x1, x2, x3, x4, x5, x6, x7]) 26))
  clear h
  go_enter Try.func8, Try.ntmps8
  go_wp2_with fail
  obtain ⟨g, hg⟩ : ∃ g, w.heap.size = g := ⟨_, rfl⟩
  obtain ⟨W, hW⟩ : ∃ W, w.alloc (.cells (par n [x0, x1, x2, x3, x4, x5, x6, x7]) 26) = W := ⟨_, rfl⟩
  rw [hW] at HH HB
  rw [hg] at HH
  have z0 : W.cell? ⟨g, 0, none⟩ = some (.int .i64 n) := by rw [cell_of_row _ _ _ _ _ _ HH.out]; rfl
  rw [hW, hg]
  clear hW
  have HNC := Aside0.mk (show ∀ q : Nat, Calls Try.prog 21 #[.pointer (some ⟨g, 0, none⟩)] (W.drewN q) fun e w' => e = .returned (.int .i64 n) ∧ w' = W.drewN q from fun q => n_calls n g (W.drewN q) z0)
  go_quiet (first
    | (go_at_call 19; exact Calls.quiet_of ((HI.out _).mono fun _ _ h_ => ⟨h_.1, h_.2.out⟩))
    | (go_at_call 21; exact Calls.quiet_of_same (HNC.out _)))
  go_wp2
  go_ret
  subst hg
  exact ⟨rfl, pw_below_drewN HB.out _⟩
set_option maxHeartbeats 8000000 in
theorem spec_calls (n : Int) (x0 x1 x2 x3 x4 x5 x6 x7 : Int) (r : Bool) (hs : ∀ W, Calls Try.prog 17 #[.agg (par n [x0, x1, x2, x3, x4, x5, x6, x7])] W fun e w' => e = .returned (.bool r) ∧ Below W.heap.size W w') (w : World) :
    Calls Try.prog 6 #[.agg (par n [x0, x1, x2, x3, x4, x5, x6, x7])] w fun e w' => e = .returned (.bool r) ∧ Below w.heap.size w w' := by
  have HS := Aside0.mk hs
  clear hs
  rw [show par n [x0, x1, x2, x3, x4, x5, x6, x7] = #[.int .i64 n, .int .u8 x0, .int .u8 x1, .int .u8 x2, .int .u8 x3, .int .u8 x4, .int .u8 x5, .int .u8 x6, .int .u8 x7] from rfl] at HS ⊢
  have HB := Aside0.mk ((Below.refl w.heap.size w).alloc (Nat.le_refl _) (.cells #[.int .i64 n, .int .u8 x0, .int .u8 x1, .int .u8 x2, .int .u8 x3, .int .u8 x4, .int .u8 x5, .int .u8 x6, .int .u8 x7] 26))
  go_enter Try.func6, Try.ntmps6
  go_wp2_with fail
  refine (HS.out _).mono ?_
  rintro e w1 ⟨rfl, hb⟩
  have HB1 := Aside0.mk (below_step HB.out hb)
  clear hb
  go_wp2
  go_ret
  exact ⟨rfl, HB1.out⟩
set_option maxHeartbeats 8000000 in
theorem law_calls (n : Int) (x0 x1 x2 x3 x4 x5 x6 x7 : Int) (r : Bool) (hs : ∀ W, Calls Try.prog 6 #[.agg (par n [x0, x1, x2, x3, x4, x5, x6, x7])] W fun e w' => e = .returned (.bool r) ∧ Below W.heap.size W w')
    (hi : ∀ W, Calls Try.prog 8 #[.agg (par n [x0, x1, x2, x3, x4, x5, x6, x7])] W fun e w' => e = .returned (.bool r) ∧ Below W.heap.size W w') (w : World) :
    Calls Try.prog 3 #[.agg (par n [x0, x1, x2, x3, x4, x5, x6, x7])] w fun e w' => e = .returned (.bool true) ∧ Below w.heap.size w w' := by
  have HS := Aside0.mk hs
  have HI := Aside0.mk hi
  have HT := Aside0.mk (fun W => toPart_calls n x0 x1 x2 x3 x4 x5 x6 x7 W)
  clear hs hi
  rw [show par n [x0, x1, x2, x3, x4, x5, x6, x7] = #[.int .i64 n, .int .u8 x0, .int .u8 x1, .int .u8 x2, .int .u8 x3, .int .u8 x4, .int .u8 x5, .int .u8 x6, .int .u8 x7] from rfl] at HS HI HT ⊢
  have HH := Aside0.mk (heap_alloc_new w (.cells #[.int .i64 n, .int .u8 x0, .int .u8 x1, .int .u8 x2, .int .u8 x3, .int .u8 x4, .int .u8 x5, .int .u8 x6, .int .u8 x7] 24))
  have HB := Aside0.mk ((Below.refl w.heap.size w).alloc (Nat.le_refl _) (.cells #[.int .i64 n, .int .u8 x0, .int .u8 x1, .int .u8 x2, .int .u8 x3, .int .u8 x4, .int .u8 x5, .int .u8 x6, .int .u8 x7] 24))
  go_enter Try.func3, Try.ntmps3
  go_wp2_with fail
  refine (HT.out _).mono ?_
  rintro e w1 ⟨rfl, hb1⟩
  have HB1 := Aside0.mk (below_step HB.out hb1)
  have HH1 := Aside0.mk ((hb1.block w.heap.size (by simp)).trans HH.out)
  clear hb1
  go_wp2_with fail
  refine (HS.out _).mono ?_
  rintro e w2 ⟨rfl, hb2⟩
  have HB2 := Aside0.mk (below_step HB1.out hb2)
  have HH2 := Aside0.mk ((hb2.block w.heap.size (Array.getElem?_eq_some_iff.1 HH1.out).1).trans HH1.out)
  clear hb2
  have z0 : w2.cell? ⟨w.heap.size, 0, none⟩ = some (.int .i64 n) := by rw [cell_of_row _ _ _ _ _ _ HH2.out]; rfl
  have z1 : w2.cell? ⟨w.heap.size, 1, none⟩ = some (.int .u8 x0) := by rw [cell_of_row _ _ _ _ _ _ HH2.out]; rfl
  have z2 : w2.cell? ⟨w.heap.size, 2, none⟩ = some (.int .u8 x1) := by rw [cell_of_row _ _ _ _ _ _ HH2.out]; rfl
  have z3 : w2.cell? ⟨w.heap.size, 3, none⟩ = some (.int .u8 x2) := by rw [cell_of_row _ _ _ _ _ _ HH2.out]; rfl
  have z4 : w2.cell? ⟨w.heap.size, 4, none⟩ = some (.int .u8 x3) := by rw [cell_of_row _ _ _ _ _ _ HH2.out]; rfl
  have z5 : w2.cell? ⟨w.heap.size, 5, none⟩ = some (.int .u8 x4) := by rw [cell_of_row _ _ _ _ _ _ HH2.out]; rfl
  have z6 : w2.cell? ⟨w.heap.size, 6, none⟩ = some (.int .u8 x5) := by rw [cell_of_row _ _ _ _ _ _ HH2.out]; rfl
  have z7 : w2.cell? ⟨w.heap.size, 7, none⟩ = some (.int .u8 x6) := by rw [cell_of_row _ _ _ _ _ _ HH2.out]; rfl
  have z8 : w2.cell? ⟨w.heap.size, 8, none⟩ = some (.int .u8 x7) := by rw [cell_of_row _ _ _ _ _ _ HH2.out]; rfl
  go_wp2_with fail
  refine (HT.out _).mono ?_
  rintro e w3 ⟨rfl, hb3⟩
  have HB3 := Aside0.mk (below_step HB2.out hb3)
  clear hb3
  go_wp2_with fail
  refine (HI.out _).mono ?_
  rintro e w4 ⟨rfl, hb4⟩
  have HB4 := Aside0.mk (below_step HB3.out hb4)
  clear hb4 HS HI HT
  cases r
  all_goals (go_wp2; go_ret; exact ⟨rfl, HB4.out⟩)
theorem lawIsP_walk (n : Int) (x0 x1 x2 x3 x4 x5 x6 x7 : Int) (hby : ∀ x ∈ [x0, x1, x2, x3, x4, x5, x6, x7], 0 ≤ x ∧ x ≤ 255) (w : World) :
    Calls Try.prog 3 #[.agg (par n [x0, x1, x2, x3, x4, x5, x6, x7])] w fun e w' => e = .returned (.bool true) ∧ Below w.heap.size w w' := by
  by_cases h : 1 ≤ n ∧ n ≤ 4
  · obtain ⟨N, rfl⟩ := Int.eq_ofNat_of_zero_le (show 0 ≤ n by omega)
    exact law_calls N x0 x1 x2 x3 x4 x5 x6 x7 (isQ N [x0, x1, x2, x3, x4, x5, x6, x7] 8 0 0) (fun W => spec_calls N x0 x1 x2 x3 x4 x5 x6 x7 _ (fun W => specIs_in N (by omega) (by omega) _ rfl hby W) W)
      (fun W => implIs_in N (by omega) (by omega) x0 x1 x2 x3 x4 x5 x6 x7 hby W _ (isQ_named N (by omega) _ rfl hby)) w
  · exact law_calls n x0 x1 x2 x3 x4 x5 x6 x7 false (fun W => spec_calls n x0 x1 x2 x3 x4 x5 x6 x7 _ (fun W => specIs_out n h x0 x1 x2 x3 x4 x5 x6 x7 W) W) (fun W => implIs_out n h x0 x1 x2 x3 x4 x5 x6 x7 W) w
end Go.Proofs.Ytkpjmphglnnmiaa.Hand
