/- The contract of impl's join. No condition. -/
import Derived.Test.YtdmipfmipjpegaaHandDia2
import Derived.Deep.RegionHeld
namespace Go.Proofs.Ytdmipfmipjpegaa.Hand
open Go.RowKit Go.Proofs.YtdmipfmipjpegaaW.PrintWords Go.Proofs.YtdmipfmipjpegaaW.PrintLast
set_option linter.unusedVariables false
set_option linter.unusedSimpArgs false
set_option maxHeartbeats 2000000 in
theorem joinI_calls (n : Int) (b : List Int) (hb : b.length = 16) (i k : Nat) (hi : i < 16) (hk : k < 16) (B : Nat) (w : World) (hg : w.heap[B]? = some (.cells (dia n b) 24 (0, 0))) :
    Calls Try.prog 43 #[.pointer (some ⟨B, 0, none⟩), .int .i64 (i : Int), .int .i64 (k : Int)] w fun e w' => e = .returned (.tuple #[]) ∧ w'.heap[B]? = some (.cells (dia n (jn b i k)) 24 (0, 0)) ∧ ∀ base, base ≤ B → Below base w w' := by
  have p1 : (0 ≤ (i : Int)) = True := eq_true (by omega)
  have q1 : ((i : Int) < 16) = True := eq_true (by omega)
  have q1' : (i < 16) = True := eq_true hi
  have p2 : (0 ≤ (k : Int)) = True := eq_true (by omega)
  have q2 : ((k : Int) < 16) = True := eq_true (by omega)
  have q2' : (k < 16) = True := eq_true hk
  have w1 : IntKind.u8.wrap (i : Int) = (i : Int) := by unfold IntKind.wrap; simp [IntKind.bits, IntKind.signed]; omega
  have w2 : IntKind.u8.wrap (k : Int) = (k : Int) := by unfold IntKind.wrap; simp [IntKind.bits, IntKind.signed]; omega
  obtain ⟨u1, e1⟩ : ∃ u1, w.cell? ⟨B, 1 + i, none⟩ = some u1 := by
    rw [cell_of_row _ _ _ _ _ _ hg]
    exact ⟨_, Array.getElem?_eq_getElem (by rw [dia_size]; omega)⟩
  have z1 : w.frozen? ⟨B, 1 + i, none⟩ = false := frozen_of_row _ _ _ _ _ hg
  have hg2 := heap_setCell_same w B (1 + i) _ _ (.int .u8 (k : Int)) hg
  obtain ⟨u2, e2⟩ : ∃ u2, (w.setCell ⟨B, 1 + i, none⟩ (.int .u8 (k : Int))).cell? ⟨B, 1 + k, none⟩ = some u2 := by
    rw [cell_of_row _ _ _ _ _ _ hg2]
    exact ⟨_, Array.getElem?_eq_getElem (by rw [Array.size_setIfInBounds, dia_size]; omega)⟩
  have z2 : (w.setCell ⟨B, 1 + i, none⟩ (.int .u8 (k : Int))).frozen? ⟨B, 1 + k, none⟩ = false := frozen_of_row _ _ _ _ _ hg2
  have hg3 := heap_setCell_same _ B (1 + k) _ _ (.int .u8 (i : Int)) hg2
  rw [dia_jn] at hg3
  have HG3 := Aside0.mk hg3
  clear hg hg2 hg3 hb hi hk
  go_enter Try.func43, Try.ntmps43
  go_wp2
  go_region
  refine bodyPost_end (results_none rfl _ _ _) rfl ⟨rfl, HG3.out, fun base hb => below_drew1 (((Below.refl base w).setCell hb _).setCell hb _)⟩
end Go.Proofs.Ytdmipfmipjpegaa.Hand
