/- Contracts of the functions that make diagrams: spec.l01Join, spec.l01One, impl.unit, the comparison of diagrams. No condition. -/
import Derived.Test.YtdmipfmipjpegaaProg
import Derived.WalkKit
import Derived.KernelRfl
import Derived.Deep.LoopGhost
import Derived.Deep.Draws
import Derived.Lib.Walk
import Derived.OwnWalk
import Derived.Lib.Hide
import Derived.Test.YtdmipfmipjpegaaWWords
import Derived.Test.YtdmipfmipjpegaaWLast
import Derived.Test.YtdmipfmipjpegaaWMore
namespace Go.Proofs.Ytdmipfmipjpegaa.Hand
open Go.RowKit Go.Proofs.YtdmipfmipjpegaaW.PrintWords Go.Proofs.YtdmipfmipjpegaaW.PrintLast
set_option linter.unusedVariables false
set_option linter.unusedSimpArgs false

/-- The cells of a diagram. -/
def dia (n : Int) (b : List Int) : Array Value := (Value.int .i64 n :: b.map (Value.int .u8)).toArray
theorem dia_size (n : Int) (b : List Int) : (dia n b).size = b.length + 1 := by simp [dia]
theorem arr16 (b : List Int) (h : b.length = 16) : ∃ x0 x1 x2 x3 x4 x5 x6 x7 x8 x9 x10 x11 x12 x13 x14 x15 : Int, b = [x0, x1, x2, x3, x4, x5, x6, x7, x8, x9, x10, x11, x12, x13, x14, x15] := by
  match b, h with
  | [x0, x1, x2, x3, x4, x5, x6, x7, x8, x9, x10, x11, x12, x13, x14, x15], _ => exact ⟨x0, x1, x2, x3, x4, x5, x6, x7, x8, x9, x10, x11, x12, x13, x14, x15, rfl⟩
/-- Join, on the bytes of a diagram. -/
def jn (b : List Int) (i k : Nat) : List Int := (b.set i (k : Int)).set k (i : Int)
theorem jn_len (b : List Int) (i k : Nat) : (jn b i k).length = b.length := by simp [jn]
theorem dia_jn (n : Int) (b : List Int) (i k : Nat) : ((dia n b).setIfInBounds (1 + i) (.int .u8 (k : Int))).setIfInBounds (1 + k) (.int .u8 (i : Int)) = dia n (jn b i k) := by
  unfold dia jn
  rw [List.setIfInBounds_toArray, List.setIfInBounds_toArray, Nat.add_comm 1 i, Nat.add_comm 1 k, List.set_cons_succ, List.set_cons_succ, List.map_set, List.map_set]
set_option maxHeartbeats 2000000 in
theorem join_calls (n : Int) (b : List Int) (hb : b.length = 16) (i k : Nat) (hi : i < 16) (hk : k < 16) (w : World) :
    Calls Try.prog 42 #[.agg (dia n b), .int .i64 (i : Int), .int .i64 (k : Int)] w fun e w' => e = .returned (.agg (dia n (jn b i k))) ∧ Below w.heap.size w w' := by
  have p1 : (0 ≤ (i : Int)) = True := eq_true (by omega)
  have q1 : ((i : Int) < 16) = True := eq_true (by omega)
  have q1' : (i < 16) = True := eq_true hi
  have p2 : (0 ≤ (k : Int)) = True := eq_true (by omega)
  have q2 : ((k : Int) < 16) = True := eq_true (by omega)
  have q2' : (k < 16) = True := eq_true hk
  have w1 : IntKind.u8.wrap (i : Int) = (i : Int) := by unfold IntKind.wrap; simp [IntKind.bits, IntKind.signed]; omega
  have w2 : IntKind.u8.wrap (k : Int) = (k : Int) := by unfold IntKind.wrap; simp [IntKind.bits, IntKind.signed]; omega
  obtain ⟨u1, e1⟩ : ∃ u1, (dia n b)[1 + i]? = some u1 := ⟨_, Array.getElem?_eq_getElem (by rw [dia_size]; omega)⟩
  obtain ⟨u2, e2⟩ : ∃ u2, ((dia n b).setIfInBounds (1 + i) (.int .u8 (k : Int)))[1 + k]? = some u2 := ⟨_, Array.getElem?_eq_getElem (by rw [Array.size_setIfInBounds, dia_size]; omega)⟩
  obtain ⟨x0, x1, x2, x3, x4, x5, x6, x7, x8, x9, x10, x11, x12, x13, x14, x15, hD⟩ := arr16 (jn b i k) (by rw [jn_len, hb])
  have hE := dia_jn n b i k
  rw [hD] at hE ⊢
  have HZ := Aside0.mk (show (Try.prog.info? 24).map (·.size) = some 17 by kernel_rfl)
  generalize dia n b = C at hE e1 e2 ⊢
  have f0 : ((C.setIfInBounds (1 + i) (.int .u8 (k : Int))).setIfInBounds (1 + k) (.int .u8 (i : Int)))[0]? = some (.int .i64 n) := by rw [hE]; rfl
  have f1 : ((C.setIfInBounds (1 + i) (.int .u8 (k : Int))).setIfInBounds (1 + k) (.int .u8 (i : Int)))[1]? = some (.int .u8 x0) := by rw [hE]; rfl
  have f2 : ((C.setIfInBounds (1 + i) (.int .u8 (k : Int))).setIfInBounds (1 + k) (.int .u8 (i : Int)))[2]? = some (.int .u8 x1) := by rw [hE]; rfl
  have f3 : ((C.setIfInBounds (1 + i) (.int .u8 (k : Int))).setIfInBounds (1 + k) (.int .u8 (i : Int)))[3]? = some (.int .u8 x2) := by rw [hE]; rfl
  have f4 : ((C.setIfInBounds (1 + i) (.int .u8 (k : Int))).setIfInBounds (1 + k) (.int .u8 (i : Int)))[4]? = some (.int .u8 x3) := by rw [hE]; rfl
  have f5 : ((C.setIfInBounds (1 + i) (.int .u8 (k : Int))).setIfInBounds (1 + k) (.int .u8 (i : Int)))[5]? = some (.int .u8 x4) := by rw [hE]; rfl
  have f6 : ((C.setIfInBounds (1 + i) (.int .u8 (k : Int))).setIfInBounds (1 + k) (.int .u8 (i : Int)))[6]? = some (.int .u8 x5) := by rw [hE]; rfl
  have f7 : ((C.setIfInBounds (1 + i) (.int .u8 (k : Int))).setIfInBounds (1 + k) (.int .u8 (i : Int)))[7]? = some (.int .u8 x6) := by rw [hE]; rfl
  have f8 : ((C.setIfInBounds (1 + i) (.int .u8 (k : Int))).setIfInBounds (1 + k) (.int .u8 (i : Int)))[8]? = some (.int .u8 x7) := by rw [hE]; rfl
  have f9 : ((C.setIfInBounds (1 + i) (.int .u8 (k : Int))).setIfInBounds (1 + k) (.int .u8 (i : Int)))[9]? = some (.int .u8 x8) := by rw [hE]; rfl
  have f10 : ((C.setIfInBounds (1 + i) (.int .u8 (k : Int))).setIfInBounds (1 + k) (.int .u8 (i : Int)))[10]? = some (.int .u8 x9) := by rw [hE]; rfl
  have f11 : ((C.setIfInBounds (1 + i) (.int .u8 (k : Int))).setIfInBounds (1 + k) (.int .u8 (i : Int)))[11]? = some (.int .u8 x10) := by rw [hE]; rfl
  have f12 : ((C.setIfInBounds (1 + i) (.int .u8 (k : Int))).setIfInBounds (1 + k) (.int .u8 (i : Int)))[12]? = some (.int .u8 x11) := by rw [hE]; rfl
  have f13 : ((C.setIfInBounds (1 + i) (.int .u8 (k : Int))).setIfInBounds (1 + k) (.int .u8 (i : Int)))[13]? = some (.int .u8 x12) := by rw [hE]; rfl
  have f14 : ((C.setIfInBounds (1 + i) (.int .u8 (k : Int))).setIfInBounds (1 + k) (.int .u8 (i : Int)))[14]? = some (.int .u8 x13) := by rw [hE]; rfl
  have f15 : ((C.setIfInBounds (1 + i) (.int .u8 (k : Int))).setIfInBounds (1 + k) (.int .u8 (i : Int)))[15]? = some (.int .u8 x14) := by rw [hE]; rfl
  have f16 : ((C.setIfInBounds (1 + i) (.int .u8 (k : Int))).setIfInBounds (1 + k) (.int .u8 (i : Int)))[16]? = some (.int .u8 x15) := by rw [hE]; rfl
  have HD := Aside0.mk hE
  clear hE hi hk hD hb
  go_enter Try.func42, Try.ntmps42
  go_wp2
  refine bodyPost_ret (results_cell_row rfl _ _ (w.heap.size + 1) 24 _ (0, 0) _ rfl (heap_alloc2_new _ _ _) Try.underlying24 rfl HZ.out) rfl ⟨rfl, ((Below.refl _ w).alloc (Nat.le_refl _) _).alloc (by simp) _⟩
theorem sizeDia : (Try.prog.info? 24).map (·.size) = some 17 := by kernel_rfl
theorem dia_one (n : Int) (b : List Int) : (dia n b).all (·.oneCell') = true := by
  unfold dia
  simp [Value.oneCell']
end Go.Proofs.Ytdmipfmipjpegaa.Hand
