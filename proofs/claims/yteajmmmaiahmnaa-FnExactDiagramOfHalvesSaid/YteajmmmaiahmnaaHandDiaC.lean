/- Diagrams as they lie; impl.join; the comparison of diagrams. No condition. -/
import Derived.Test.YteajmmmaiahmnaaProg
import Derived.WalkKit
import Derived.KernelRfl
import Derived.Deep.LoopGhost
import Derived.Deep.Draws
import Derived.Lib.Walk
import Derived.OwnWalk
import Derived.Lib.Hide
import Derived.Deep.RegionHeld
import Derived.Test.YteajmmmaiahmnaaWWords
import Derived.Test.YteajmmmaiahmnaaWLast
import Derived.Test.YteajmmmaiahmnaaWMore
namespace Go.Proofs.Yteajmmmaiahmnaa.Hand
open Go.RowKit Go.Proofs.YteajmmmaiahmnaaW.PrintWords Go.Proofs.YteajmmmaiahmnaaW.PrintLast
set_option linter.unusedVariables false
set_option linter.unusedSimpArgs false

/-- The cells of a diagram. -/
def dia (n : Int) (b : List Int) : Array Value := (Value.int .i64 n :: b.map (Value.int .u8)).toArray
theorem dia_size (n : Int) (b : List Int) : (dia n b).size = b.length + 1 := by simp [dia]
theorem arr16 (b : List Int) (h : b.length = 16) : ∃ x0 x1 x2 x3 x4 x5 x6 x7 x8 x9 x10 x11 x12 x13 x14 x15 : Int, b = [x0, x1, x2, x3, x4, x5, x6, x7, x8, x9, x10, x11, x12, x13, x14, x15] := by
  match b, h with
  | [x0, x1, x2, x3, x4, x5, x6, x7, x8, x9, x10, x11, x12, x13, x14, x15], _ => exact ⟨x0, x1, x2, x3, x4, x5, x6, x7, x8, x9, x10, x11, x12, x13, x14, x15, rfl⟩
/-- Join, on the bytes of a diagram. -/
def jn (b : List Int) (i k : Nat) : List Int := (b.set i (k : Int)).set k (i : Int)
theorem jn_len (b : List Int) (i k : Nat) : (jn b i k).length = b.length := by simp [jn]
theorem dia_jn (n : Int) (b : List Int) (i k : Nat) : ((dia n b).setIfInBounds (1 + i) (.int .u8 (k : Int))).setIfInBounds (1 + k) (.int .u8 (i : Int)) = dia n (jn b i k) := by
  unfold dia jn
  rw [List.setIfInBounds_toArray, List.setIfInBounds_toArray, Nat.add_comm 1 i, Nat.add_comm 1 k, List.set_cons_succ, List.set_cons_succ, List.map_set, List.map_set]
theorem sizeDia : (Try.prog.info? 24).map (·.size) = some 17 := by kernel_rfl
theorem dia_one (n : Int) (b : List Int) : (dia n b).all (·.oneCell') = true := by
  unfold dia
  simp [Value.oneCell']
theorem below_setRow {base : Nat} {w W : World} {g : Nat} {cs : Array Value} (h : Below base w W) (hg : base ≤ g) : Below base w (W.setRow g cs) := ⟨h.os, h.tape, h.output, by rw [setRow_size]; exact h.size, fun i hi => (setRow_other W g i cs (by omega)).trans (h.block i hi)⟩
set_option maxHeartbeats 2000000 in
theorem joinI_calls (n : Int) (b : List Int) (hb : b.length = 16) (i k : Nat) (hi : i < 16) (hk : k < 16) (B : Nat) (w : World) (hg : w.heap[B]? = some (.cells (dia n b) 24 (0, 0))) :
    Calls Try.prog 17 #[.pointer (some ⟨B, 0, none⟩), .int .i64 (i : Int), .int .i64 (k : Int)] w fun e w' => e = .returned (.tuple #[]) ∧ w'.heap[B]? = some (.cells (dia n (jn b i k)) 24 (0, 0)) ∧ ∀ base, base ≤ B → Below base w w' := by
  have p1 : (0 ≤ (i : Int)) = True := eq_true (by omega)
  have q1 : ((i : Int) < 16) = True := eq_true (by omega)
  have q1' : (i < 16) = True := eq_true hi
  have p2 : (0 ≤ (k : Int)) = True := eq_true (by omega)
  have q2 : ((k : Int) < 16) = True := eq_true (by omega)
  have q2' : (k < 16) = True := eq_true hk
  have w1 : IntKind.u8.wrap (i : Int) = (i : Int) := by unfold IntKind.wrap; simp [IntKind.bits, IntKind.signed]; omega
  have w2 : IntKind.u8.wrap (k : Int) = (k : Int) := by unfold IntKind.wrap; simp [IntKind.bits, IntKind.signed]; omega
  obtain ⟨u1, e1⟩ : ∃ u1, w.cell? ⟨B, 1 + i, none⟩ = some u1 := by
    rw [cell_of_row _ _ _ _ _ _ hg]
    exact ⟨_, Array.getElem?_eq_getElem (by rw [dia_size]; omega)⟩
  have z1 : w.frozen? ⟨B, 1 + i, none⟩ = false := frozen_of_row _ _ _ _ _ hg
  have hg2 := heap_setCell_same w B (1 + i) _ _ (.int .u8 (k : Int)) hg
  obtain ⟨u2, e2⟩ : ∃ u2, (w.setCell ⟨B, 1 + i, none⟩ (.int .u8 (k : Int))).cell? ⟨B, 1 + k, none⟩ = some u2 := by
    rw [cell_of_row _ _ _ _ _ _ hg2]
    exact ⟨_, Array.getElem?_eq_getElem (by rw [Array.size_setIfInBounds, dia_size]; omega)⟩
  have z2 : (w.setCell ⟨B, 1 + i, none⟩ (.int .u8 (k : Int))).frozen? ⟨B, 1 + k, none⟩ = false := frozen_of_row _ _ _ _ _ hg2
  have hg3 := heap_setCell_same _ B (1 + k) _ _ (.int .u8 (i : Int)) hg2
  rw [dia_jn] at hg3
  have HG3 := Aside0.mk hg3
  clear hg hg2 hg3 hb hi hk
  go_enter Try.func17, Try.ntmps17
  go_wp2
  go_region
  refine bodyPost_end (results_none rfl _ _ _) rfl ⟨rfl, HG3.out, fun base hb => below_drew1 (((Below.refl base w).setCell hb _).setCell hb _)⟩

/-- The cells of sixteen bytes. -/
def byt (b : List Int) : Array Value := (b.map (Value.int .u8)).toArray
theorem byt_at (b : List Int) (hb : b.length = 16) (i : Nat) (hi : i < 16) : (byt b)[i]? = some (.int .u8 (b.getD i 0)) := by
  unfold byt
  rw [List.getElem?_toArray, List.getElem?_map, List.getD_eq_getElem?_getD, List.getElem?_eq_getElem (by omega)]
  rfl
set_option maxHeartbeats 4000000 in
theorem eqByte_calls (b : List Int) (hb : b.length = 16) (w : World) :
    Calls Try.prog 13 #[.agg (byt b), .agg (byt b)] w fun e w' => e = .returned (.bool true) ∧ Below w.heap.size w w' := by
  have HC := Aside0.mk (fun i hi => byt_at b hb i hi)
  generalize byt b = C at HC ⊢
  clear hb
  go_enter Try.func13, Try.ntmps13
  go_wp2
  obtain ⟨w2, hw2⟩ : ∃ w2, w2 = (w.alloc (.cells C 22)).alloc (.cells C 22) := ⟨_, rfl⟩
  rw [← hw2]
  have HX := Aside0.mk (show w2.heap[w.heap.size]? = some (.cells C 22 (0, 0)) by rw [hw2]; exact heap_alloc2_old _ _ _)
  have HY := Aside0.mk (show w2.heap[w.heap.size + 1]? = some (.cells C 22 (0, 0)) by rw [hw2]; exact heap_alloc2_new _ _ _)
  have HB := Aside0.mk (show Below w.heap.size w w2 by rw [hw2]; exact ((Below.refl _ w).alloc (Nat.le_refl _) _).alloc (by simp) _)
  clear hw2
  go_loopg [5] 17 (fun kq v5 w' => ∃ (i q : Nat), v5 = .int .i64 (i : Int) ∧ Aside0 (kq + i = 17) ∧ Aside0 (i ≤ 16) ∧ w' = w2.drewN q)
  case atStart => exact ⟨0, 0, rfl, ⟨rfl⟩, ⟨by omega⟩, rfl⟩
  case round =>
    obtain ⟨i, q, rfl, E1, E2, rfl⟩ := hrel
    cases gk with
    | zero => exact absurd E1.out (by have := E2.out; omega)
    | succ k1 =>
      by_cases d1 : i < 16
      · have d1b : decide ((i : Int) < 16) = true := decide_eq_true (by omega)
        have d1b' : decide (i < 16) = true := decide_eq_true d1
        have p1 : (0 ≤ (i : Int)) = True := eq_true (by omega)
        have q1 : ((i : Int) < 16) = True := eq_true (by omega)
        have q1' : (i < 16) = True := eq_true d1
        have hx : w2.cell? ⟨w.heap.size, i, none⟩ = some (.int .u8 (b.getD i 0)) := by rw [cell_of_row _ _ _ _ _ _ HX.out]; exact HC.out i d1
        have hy : w2.cell? ⟨w.heap.size + 1, i, none⟩ = some (.int .u8 (b.getD i 0)) := by rw [cell_of_row _ _ _ _ _ _ HY.out]; exact HC.out i d1
        generalize b.getD i 0 = x at hx hy
        have HD1 := Aside0.mk d1
        clear d1
        go_wp2
        go_quiet (fail)
        go_wp2
        go_roundg k1
        case measure => have := E1.out; omega
        case rel => exact ⟨i + 1, _, (congrArg (Value.int .i64) (show _ = ((i + 1 : Nat) : Int) by have := HD1.out; first | omega | (unfold wrap64; omega))), ⟨by have := E1.out; omega⟩, ⟨by have := HD1.out; omega⟩, by first | rfl | exact World.drewN_drewN _ _ _⟩
      · have d1b : decide ((i : Int) < 16) = false := decide_eq_false (by omega)
        have d1b' : decide (i < 16) = false := decide_eq_false d1
        clear d1
        go_wp2
        go_ret
        exact ⟨rfl, pw_below_drewN HB.out q⟩

set_option maxHeartbeats 4000000 in
theorem eqDia_calls (n : Int) (b : List Int) (hb : b.length = 16) (w : World) :
    Calls Try.prog 6 #[.agg (dia n b), .agg (dia n b)] w fun e w' => e = .returned (.bool true) ∧ Below w.heap.size w w' := by
  obtain ⟨x0, x1, x2, x3, x4, x5, x6, x7, x8, x9, x10, x11, x12, x13, x14, x15, rfl⟩ := arr16 b hb
  have HE := Aside0.mk (fun W => eqByte_calls [x0, x1, x2, x3, x4, x5, x6, x7, x8, x9, x10, x11, x12, x13, x14, x15] rfl W)
  rw [show dia n [x0, x1, x2, x3, x4, x5, x6, x7, x8, x9, x10, x11, x12, x13, x14, x15] = #[.int .i64 n, .int .u8 x0, .int .u8 x1, .int .u8 x2, .int .u8 x3, .int .u8 x4, .int .u8 x5, .int .u8 x6, .int .u8 x7, .int .u8 x8, .int .u8 x9, .int .u8 x10, .int .u8 x11, .int .u8 x12, .int .u8 x13, .int .u8 x14, .int .u8 x15] from rfl]
  go_enter Try.func6, Try.ntmps6
  go_wp2_with fail
  refine (HE.out _).mono ?_
  rintro e w1 ⟨rfl, hb1⟩
  have HB := Aside0.mk (below_step (((Below.refl _ w).alloc (Nat.le_refl _) _).alloc (by simp) _) hb1)
  clear hb1
  go_wp2
  go_ret
  exact ⟨rfl, HB.out⟩
end Go.Proofs.Yteajmmmaiahmnaa.Hand
