/- The contract of laws.eqByteA8 for an array held against itself. No condition. -/
import Derived.Test.YtcmkibljlfnkbaaHandPar
namespace Go.Proofs.Ytcmkibljlfnkbaa.Hand
open Go.RowKit Go.Proofs.YtcmkibljlfnkbaaW.PrintWords Go.Proofs.YtcmkibljlfnkbaaW.PrintLast
set_option linter.unusedVariables false
set_option linter.unusedSimpArgs false

/-- The cells of eight bytes. -/
def byt (b : List Int) : Array Value := (b.map (Value.int .u8)).toArray
theorem byt_at (b : List Int) (hb : b.length = 8) (i : Nat) (hi : i < 8) : (byt b)[i]? = some (.int .u8 (b.getD i 0)) := by
  unfold byt
  rw [List.getElem?_toArray, List.getElem?_map, List.getD_eq_getElem?_getD, List.getElem?_eq_getElem (by omega)]
  rfl
set_option maxHeartbeats 4000000 in
theorem eqByte_calls (b : List Int) (hb : b.length = 8) (w : World) :
    Calls Try.prog 17 #[.agg (byt b), .agg (byt b)] w fun e w' => e = .returned (.bool true) ∧ Below w.heap.size w w' := by
  have HC := Aside0.mk (fun i hi => byt_at b hb i hi)
  generalize byt b = C at HC ⊢
  clear hb
  go_enter Try.func17, Try.ntmps17
  go_wp2
  obtain ⟨w2, hw2⟩ : ∃ w2, w2 = (w.alloc (.cells C 31)).alloc (.cells C 31) := ⟨_, rfl⟩
  rw [← hw2]
  have HX := Aside0.mk (show w2.heap[w.heap.size]? = some (.cells C 31 (0, 0)) by rw [hw2]; exact heap_alloc2_old _ _ _)
  have HY := Aside0.mk (show w2.heap[w.heap.size + 1]? = some (.cells C 31 (0, 0)) by rw [hw2]; exact heap_alloc2_new _ _ _)
  have HB := Aside0.mk (show Below w.heap.size w w2 by rw [hw2]; exact ((Below.refl _ w).alloc (Nat.le_refl _) _).alloc (by simp) _)
  clear hw2
  go_loopg [5] 9 (fun kq v5 w' => ∃ (i q : Nat), v5 = .int .i64 (i : Int) ∧ Aside0 (kq + i = 9) ∧ Aside0 (i ≤ 8) ∧ w' = w2.drewN q)
  case atStart => exact ⟨0, 0, rfl, ⟨rfl⟩, ⟨by omega⟩, rfl⟩
  case round =>
    obtain ⟨i, q, rfl, E1, E2, rfl⟩ := hrel
    cases gk with
    | zero => exact absurd E1.out (by have := E2.out; omega)
    | succ k1 =>
      by_cases d1 : i < 8
      · have d1b : decide ((i : Int) < 8) = true := decide_eq_true (by omega)
        have d1b' : decide (i < 8) = true := decide_eq_true d1
        have p1 : (0 ≤ (i : Int)) = True := eq_true (by omega)
        have q1 : ((i : Int) < 8) = True := eq_true (by omega)
        have q1' : (i < 8) = True := eq_true d1
        have hx : w2.cell? ⟨w.heap.size, i, none⟩ = some (.int .u8 (b.getD i 0)) := by rw [cell_of_row _ _ _ _ _ _ HX.out]; exact HC.out i d1
        have hy : w2.cell? ⟨w.heap.size + 1, i, none⟩ = some (.int .u8 (b.getD i 0)) := by rw [cell_of_row _ _ _ _ _ _ HY.out]; exact HC.out i d1
        generalize b.getD i 0 = x at hx hy
        have HD1 := Aside0.mk d1
        clear d1
        go_wp2
        go_quiet (fail)
        go_wp2
        go_roundg k1
        case measure => have := E1.out; omega
        case rel => exact ⟨i + 1, _, (congrArg (Value.int .i64) (show _ = ((i + 1 : Nat) : Int) by have := HD1.out; first | omega | (unfold wrap64; omega))), ⟨by have := E1.out; omega⟩, ⟨by have := HD1.out; omega⟩, by first | rfl | exact World.drewN_drewN _ _ _⟩
      · have d1b : decide ((i : Int) < 8) = false := decide_eq_false (by omega)
        have d1b' : decide (i < 8) = false := decide_eq_false d1
        clear d1
        go_wp2
        go_ret
        exact ⟨rfl, pw_below_drewN HB.out q⟩
set_option maxHeartbeats 4000000 in
theorem eqPar_calls (n : Int) (b : List Int) (hb : b.length = 8) (w : World) :
    Calls Try.prog 14 #[.agg (par n b), .agg (par n b)] w fun e w' => e = .returned (.bool true) ∧ Below w.heap.size w w' := by
  obtain ⟨x0, x1, x2, x3, x4, x5, x6, x7, rfl⟩ := arr8 b hb
  have HE := Aside0.mk (fun W => eqByte_calls [x0, x1, x2, x3, x4, x5, x6, x7] rfl W)
  rw [show par n [x0, x1, x2, x3, x4, x5, x6, x7] = #[.int .i64 n, .int .u8 x0, .int .u8 x1, .int .u8 x2, .int .u8 x3, .int .u8 x4, .int .u8 x5, .int .u8 x6, .int .u8 x7] from rfl]
  go_enter Try.func14, Try.ntmps14
  go_wp2_with fail
  refine (HE.out _).mono ?_
  rintro e w1 ⟨rfl, hb1⟩
  have HB := Aside0.mk (below_step (((Below.refl _ w).alloc (Nat.le_refl _) _).alloc (by simp) _) hb1)
  clear hb1
  go_wp2
  go_ret
  exact ⟨rfl, HB.out⟩
end Go.Proofs.Ytcmkibljlfnkbaa.Hand
