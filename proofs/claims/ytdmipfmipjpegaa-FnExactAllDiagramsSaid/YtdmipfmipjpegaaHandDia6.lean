/- The contract of laws.eqByteA16 for an array held against itself. No condition. -/
import Derived.Test.YtdmipfmipjpegaaHandDia4
namespace Go.Proofs.Ytdmipfmipjpegaa.Hand
open Go.RowKit Go.Proofs.YtdmipfmipjpegaaW.PrintWords Go.Proofs.YtdmipfmipjpegaaW.PrintLast
set_option linter.unusedVariables false
set_option linter.unusedSimpArgs false

/-- The cells of sixteen bytes. -/
def byt (b : List Int) : Array Value := (b.map (Value.int .u8)).toArray
theorem byt_at (b : List Int) (hb : b.length = 16) (i : Nat) (hi : i < 16) : (byt b)[i]? = some (.int .u8 (b.getD i 0)) := by
  unfold byt
  rw [List.getElem?_toArray, List.getElem?_map, List.getD_eq_getElem?_getD, List.getElem?_eq_getElem (by omega)]
  rfl
set_option maxHeartbeats 4000000 in
theorem eqByte_calls (b : List Int) (hb : b.length = 16) (w : World) :
    Calls Try.prog 30 #[.agg (byt b), .agg (byt b)] w fun e w' => e = .returned (.bool true) ∧ Below w.heap.size w w' := by
  have HC := Aside0.mk (fun i hi => byt_at b hb i hi)
  generalize byt b = C at HC ⊢
  clear hb
  go_enter Try.func30, Try.ntmps30
  go_wp2
  obtain ⟨w2, hw2⟩ : ∃ w2, w2 = (w.alloc (.cells C 22)).alloc (.cells C 22) := ⟨_, rfl⟩
  rw [← hw2]
  have HX := Aside0.mk (show w2.heap[w.heap.size]? = some (.cells C 22 (0, 0)) by rw [hw2]; exact heap_alloc2_old _ _ _)
  have HY := Aside0.mk (show w2.heap[w.heap.size + 1]? = some (.cells C 22 (0, 0)) by rw [hw2]; exact heap_alloc2_new _ _ _)
  have HB := Aside0.mk (show Below w.heap.size w w2 by rw [hw2]; exact ((Below.refl _ w).alloc (Nat.le_refl _) _).alloc (by simp) _)
  clear hw2
  go_loopg [5] 17 (fun kq v5 w' => ∃ (i q : Nat), v5 = .int .i64 (i : Int) ∧ Aside0 (kq + i = 17) ∧ Aside0 (i ≤ 16) ∧ w' = w2.drewN q)
  case atStart => exact ⟨0, 0, rfl, ⟨rfl⟩, ⟨by omega⟩, rfl⟩
  case round =>
    obtain ⟨i, q, rfl, E1, E2, rfl⟩ := hrel
    cases gk with
    | zero => exact absurd E1.out (by have := E2.out; omega)
    | succ k1 =>
      by_cases d1 : i < 16
      · have d1b : decide ((i : Int) < 16) = true := decide_eq_true (by omega)
        have d1b' : decide (i < 16) = true := decide_eq_true d1
        have p1 : (0 ≤ (i : Int)) = True := eq_true (by omega)
        have q1 : ((i : Int) < 16) = True := eq_true (by omega)
        have q1' : (i < 16) = True := eq_true d1
        have hx : w2.cell? ⟨w.heap.size, i, none⟩ = some (.int .u8 (b.getD i 0)) := by rw [cell_of_row _ _ _ _ _ _ HX.out]; exact HC.out i d1
        have hy : w2.cell? ⟨w.heap.size + 1, i, none⟩ = some (.int .u8 (b.getD i 0)) := by rw [cell_of_row _ _ _ _ _ _ HY.out]; exact HC.out i d1
        generalize b.getD i 0 = x at hx hy
        have HD1 := Aside0.mk d1
        clear d1
        go_wp2
        go_quiet (fail)
        go_wp2
        go_roundg k1
        case measure => have := E1.out; omega
        case rel => exact ⟨i + 1, _, (congrArg (Value.int .i64) (show _ = ((i + 1 : Nat) : Int) by have := HD1.out; first | omega | (unfold wrap64; omega))), ⟨by have := E1.out; omega⟩, ⟨by have := HD1.out; omega⟩, by first | rfl | exact World.drewN_drewN _ _ _⟩
      · have d1b : decide ((i : Int) < 16) = false := decide_eq_false (by omega)
        have d1b' : decide (i < 16) = false := decide_eq_false d1
        clear d1
        go_wp2
        go_ret
        exact ⟨rfl, pw_below_drewN HB.out q⟩
end Go.Proofs.Ytdmipfmipjpegaa.Hand
