/- Contracts of spec.l01One and of what follows it. No condition. -/
import Derived.Test.YtdmipfmipjpegaaHandDia
namespace Go.Proofs.Ytdmipfmipjpegaa.Hand
open Go.RowKit Go.Proofs.YtdmipfmipjpegaaW.PrintWords Go.Proofs.YtdmipfmipjpegaaW.PrintLast
set_option linter.unusedVariables false
set_option linter.unusedSimpArgs false

theorem below_setRow {base : Nat} {w W : World} {g : Nat} {cs : Array Value} (h : Below base w W) (hg : base ≤ g) : Below base w (W.setRow g cs) := ⟨h.os, h.tape, h.output, by rw [setRow_size]; exact h.size, fun i hi => (setRow_other W g i cs (by omega)).trans (h.block i hi)⟩
/-- The bytes of the unit, after i joins. -/
def oneB (n : Nat) : Nat → List Int
  | 0 => List.replicate 16 0
  | i + 1 => jn (oneB n i) i (n + i)
theorem oneB_len (n : Nat) : ∀ i, (oneB n i).length = 16
  | 0 => rfl
  | i + 1 => by rw [oneB, jn_len, oneB_len n i]
set_option maxHeartbeats 8000000 in
theorem one_calls (n : Nat) (hn : n ≤ 8) (w : World) :
    Calls Try.prog 27 #[.int .i64 (n : Int)] w fun e w' => e = .returned (.agg (dia n (oneB n n))) ∧ Below w.heap.size w w' := by
  have HN := Aside0.mk hn
  clear hn
  go_enter Try.func27, Try.ntmps27
  go_wp2
  go_loopg [4] (n + 1) (fun kq v4 w' => ∃ (i : Nat), v4 = .int .i64 (i : Int) ∧ Aside0 (kq + i = n + 1) ∧ Aside0 (i ≤ n) ∧ Aside0 (w'.heap[w.heap.size + 1]? = some (.cells (dia n (oneB n i)) 24 (0, 0))) ∧ Aside0 (w'.heap[w.heap.size]? = some (.cells (dia 0 (List.replicate 16 0)) 24 (0, 0))) ∧ Aside0 (Below w.heap.size w w'))
  case atStart => exact ⟨0, rfl, ⟨rfl⟩, ⟨Nat.zero_le _⟩, ⟨heap_alloc2_new _ _ _⟩, ⟨heap_alloc2_old _ _ _⟩, ⟨((Below.refl _ w).alloc (Nat.le_refl _) _).alloc (by simp) _⟩⟩
  case round =>
    obtain ⟨i, rfl, E1, E2, HG, HR, HB⟩ := hrel
    cases gk with
    | zero => exact absurd E1.out (by have := E2.out; omega)
    | succ k1 =>
      have hz : (Try.prog.info? 24).map (·.size) = some (dia (n : Int) (oneB n i)).size := by rw [dia_size, oneB_len]; exact sizeDia
      have HZ := Aside0.mk hz
      clear hz
      by_cases d1 : i < n
      · have d1b : decide ((i : Int) < (n : Int)) = true := decide_eq_true (by omega)
        have d1b' : decide (i < n) = true := decide_eq_true d1
        have HD1 := Aside0.mk d1
        clear d1
        go_wp2_with (refine wpList_load_row rfl 24 _ rfl (w.heap.size + 1) rfl 24 (dia n (oneB n i)) (0, 0) _ HG.out Try.underlying24 rfl HZ.out ?_)
        have HJ := Aside0.mk (fun W => join_calls n (oneB n i) (oneB_len n i) i (n + i) (by have := HN.out; have := HD1.out; omega) (by have := HN.out; have := HD1.out; omega) W)
        have hw : wrap64 ((n : Int) + (i : Int)) = ((n + i : Nat) : Int) := by have := HN.out; have := HD1.out; unfold wrap64; omega
        rw [← hw] at HJ
        clear hw
        with_reducible refine (HJ.out _).mono ?_
        clear HJ
        rintro e w1 ⟨rfl, hb⟩
        have hB : w.heap.size + 1 < wr.heap.size := by
          by_cases hh : w.heap.size + 1 < wr.heap.size
          · exact hh
          · have := HG.out; rw [Array.getElem?_eq_none (by omega)] at this; cases this
        have HG1 := Aside0.mk ((hb.block (w.heap.size + 1) hB).trans HG.out)
        have HR1 := Aside0.mk ((hb.block w.heap.size (by omega)).trans HR.out)
        have HB1 := Aside0.mk (below_step HB.out hb)
        have hz2 : (Try.prog.info? 24).map (·.size) = some (dia (n : Int) (jn (oneB n i) i (n + i))).size := by rw [dia_size, jn_len, oneB_len]; exact sizeDia
        have HZ2 := Aside0.mk hz2
        have HS2 := Aside0.mk (show (dia (n : Int) (oneB n i)).size = (dia (n : Int) (jn (oneB n i) i (n + i))).size by rw [dia_size, dia_size, jn_len])
        clear hb hB hz2 HG HR HB HZ
        go_wp2_with (refine wpList_store_row rfl 24 _ _ rfl (w.heap.size + 1) (dia n (jn (oneB n i) i (n + i))) rfl rfl 24 (dia n (oneB n i)) HG1.out HZ2.out HS2.out (dia_one _ _) ?_)
        go_roundg k1
        case measure => have := E1.out; omega
        case rel => exact ⟨i + 1, (congrArg (Value.int .i64) (show _ = ((i + 1 : Nat) : Int) by have := HN.out; have := HD1.out; unfold wrap64; omega)), ⟨by have := E1.out; omega⟩, ⟨by have := HD1.out; omega⟩, ⟨setRow_heap _ _ _ _ _ _ HG1.out⟩, ⟨(setRow_other _ _ _ _ (by omega)).trans HR1.out⟩, ⟨below_setRow HB1.out (by omega)⟩⟩
      · have d1b : decide ((i : Int) < (n : Int)) = false := decide_eq_false (by omega)
        have d1b' : decide (i < n) = false := decide_eq_false d1
        have ei : i = n := by have := E2.out; omega
        clear d1
        have HZ0 := Aside0.mk (show (dia 0 (List.replicate 16 0)).size = (dia (n : Int) (oneB n i)).size by rw [dia_size, dia_size, oneB_len]; rfl)
        go_wp2_with (first | (refine wpList_load_row rfl 24 _ rfl (w.heap.size + 1) rfl 24 (dia n (oneB n i)) (0, 0) _ HG.out Try.underlying24 rfl HZ.out ?_) | (refine wpList_store_row rfl 24 _ _ rfl w.heap.size (dia n (oneB n i)) rfl rfl 24 (dia 0 (List.replicate 16 0)) HR.out HZ.out HZ0.out (dia_one _ _) ?_))
        refine bodyPost_ret (results_cell_row rfl _ _ w.heap.size 24 _ (0, 0) _ rfl (setRow_heap _ _ _ _ _ _ HR.out) Try.underlying24 rfl HZ.out) rfl ⟨by rw [ei], below_setRow HB.out (Nat.le_refl _)⟩
end Go.Proofs.Ytdmipfmipjpegaa.Hand
