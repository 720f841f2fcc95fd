/- The contract of impl.joined. No condition. -/
import Derived.Test.YtdmipfmipjpegaaHandReadP
import Derived.Deep.QuietTactic
namespace Go.Proofs.Ytdmipfmipjpegaa.Hand
open Go.RowKit Go.Proofs.YtdmipfmipjpegaaW.PrintWords Go.Proofs.YtdmipfmipjpegaaW.PrintLast Go.Proofs.YtdmipfmipjpegaaW.PrintMore
set_option linter.unusedVariables false
set_option linter.unusedSimpArgs false

theorem dia_set1 (n : Int) (b : List Int) (i : Nat) (v : Int) : (dia n b).setIfInBounds (1 + i) (.int .u8 v) = dia n (b.set i v) := by
  unfold dia
  rw [List.setIfInBounds_toArray, Nat.add_comm 1 i, List.set_cons_succ, List.map_set]
set_option maxHeartbeats 8000000 in
theorem joined_calls (n : Nat) (h1 : 1 ≤ n) (h8 : n ≤ 8) (A : Option Addr) (c : Nat) (l : List Int) (p : List Nat) (hl : l.length = 2 * n) (hrd : ∀ j, j < 2 * n → rd l (j : Int) = ((p.getD j 0 : Nat) : Int)) (hp : ∀ j, p.getD j 0 < 2 * n) (w : World)
    (hr : Kd.C (Kd.int .i64) w A l.length l) (hc : l.length ≤ c) :
    Calls Try.prog 46 #[.int .i64 (n : Int), .slice A l.length c] w fun e w' => e = .returned (.agg (dia n (jB n p (2 * n)))) ∧ Below w.heap.size w w' := by
  have HN := Aside0.mk h8
  have HL := Aside0.mk hl
  have HP := Aside0.mk hp
  have HRD := Aside0.mk hrd
  have HR := Aside0.mk hr
  have HC := Aside0.mk hc
  clear h1 h8 hrd hp hr hc hl
  go_enter Try.func46, Try.ntmps46
  go_wp2
  go_loopg [6, 7, 12] (2 * n + 1) (fun kq v6 v7 v12 w' => ∃ (i : Int) (iN : Nat), v12 = .int .i64 i ∧ Aside0 (i = (iN : Int)) ∧ Aside0 (kq + iN = 2 * n + 1) ∧ Aside0 (iN ≤ 2 * n) ∧ Aside0 (w'.heap[w.heap.size]? = some (.cells (dia 0 (List.replicate 16 0)) 24 (0, 0))) ∧ Aside0 (w'.heap[w.heap.size + 1]? = some (.cells (dia n (jB n p iN)) 24 (0, 0))) ∧ Aside0 (Below w.heap.size w w'))
  case atStart =>
    exact ⟨0, 0, rfl, ⟨rfl⟩, ⟨rfl⟩, ⟨Nat.zero_le _⟩, ⟨heap_alloc2_old _ _ _⟩, ⟨heap_alloc2_new _ _ _⟩, ⟨((Below.refl _ w).alloc (Nat.le_refl _) _).alloc (by simp) _⟩⟩
  case round =>
    obtain ⟨i, iN, rfl, EI, E1, E2, HO_2, HO_4, HB⟩ := hrel
    cases gk with
    | zero => exact absurd E1.out (by have := E2.out; omega)
    | succ k1 =>
      by_cases d1 : i < (l.length : Int)
      · have d1b : decide (i < (l.length : Int)) = true := decide_eq_true d1
        have d3 : 0 ≤ i := by rw [EI.out]; omega
        obtain ⟨ad16, e16, hx16⟩ := Kd.at_int HR.out i d3 d1
        cases e16
        have HIN := Aside0.mk (show iN < 2 * n by have := HL.out; have := EI.out; omega)
        replace hx16 := (HB.out.cell (World.block_lt_of_cell? w _ hx16)).trans hx16
        have hv := HRD.out iN HIN.out
        rw [EI.out, hv, ← EI.out] at hx16
        have p20 := eq_true d3
        have q20 := eq_true d1
        clear d1 d3 hv
        generalize hpj : p.getD iN 0 = pj at hx16
        have HPJ := Aside0.mk hpj
        have HPL := Aside0.mk (show pj < 2 * n by rw [← hpj]; exact HP.out iN)
        clear hpj
        have H1 := Aside0.mk (fun W => gPlace_calls n iN HN.out HIN.out W)
        have H2 := Aside0.mk (fun W => gPlace_calls n pj HN.out HPL.out W)
        rw [← EI.out] at H1
        go_wp2_with fail
        refine (H1.out _).mono ?_
        rintro e wr ⟨rfl, rfl⟩
        go_wp2_with fail
        refine (H2.out _).mono ?_
        rintro e wr ⟨rfl, rfl⟩
        have HGX := Aside0.mk (pl_lt HIN.out)
        have HGY := Aside0.mk (pl_lt HPL.out)
        have HNX := Aside0.mk (show jB n p (iN + 1) = (jB n p iN).set (pl n iN) ((pl n pj : Nat) : Int) by rw [jB, HPJ.out])
        generalize hx : pl n iN = x at HGX HNX
        generalize hy : pl n pj = y at HGY HNX
        clear hx hy H1 H2
        have p1 : (0 ≤ (x : Int)) = True := eq_true (by omega)
        have q1 : ((x : Int) < 16) = True := eq_true (by have := HGX.out; have := HN.out; omega)
        have q1' : (x < 16) = True := eq_true (by have := HGX.out; have := HN.out; omega)
        have w2 : IntKind.u8.wrap (y : Int) = (y : Int) := by have := HGY.out; have := HN.out; unfold IntKind.wrap; simp [IntKind.bits, IntKind.signed]; omega
        have hg := HO_4.out
        obtain ⟨u1, e1⟩ : ∃ u1, wr.cell? ⟨w.heap.size + 1, 1 + x, none⟩ = some u1 := by
          rw [cell_of_row _ _ _ _ _ _ hg]
          exact ⟨_, Array.getElem?_eq_getElem (by rw [dia_size, jB_len]; have := HGX.out; have := HN.out; omega)⟩
        have z1 : wr.frozen? ⟨w.heap.size + 1, 1 + x, none⟩ = false := frozen_of_row _ _ _ _ _ hg
        have hg2 := heap_setCell_same wr (w.heap.size + 1) (1 + x) _ _ (.int .u8 (y : Int)) hg
        rw [dia_set1, ← HNX.out] at hg2
        have HG2 := Aside0.mk hg2
        have HR2 := Aside0.mk ((heap_setCell_other wr ⟨w.heap.size + 1, 1 + x, none⟩ w.heap.size (.int .u8 (y : Int)) (by simp)).trans HO_2.out)
        have HB2 := Aside0.mk (HB.out.setCell (p := ⟨w.heap.size + 1, 1 + x, none⟩) (by simp) (.int .u8 (y : Int)))
        clear hg hg2 HO_4 HO_2 HB
        go_wp2
        go_roundg k1
        case measure => have := E1.out; omega
        case rel => exact ⟨_, iN + 1, rfl, ⟨by rw [EI.out]; have := HN.out; have := HIN.out; first | omega | (unfold wrap64; omega)⟩, ⟨by have := E1.out; omega⟩, ⟨by have := HIN.out; omega⟩, HR2, HG2, HB2⟩
      · have d1b : decide (i < (l.length : Int)) = false := decide_eq_false d1
        have hin : iN = 2 * n := by have := E2.out; have := EI.out; have := HL.out; omega
        subst hin
        clear d1
        have HZ := Aside0.mk (show (Try.prog.info? 24).map (·.size) = some (dia (n : Int) (jB n p (2 * n))).size by rw [dia_size, jB_len]; exact sizeDia)
        have HZ0 := Aside0.mk (show (dia 0 (List.replicate 16 0)).size = (dia (n : Int) (jB n p (2 * n))).size by rw [dia_size, dia_size, jB_len]; rfl)
        go_wp2_with (first | (refine wpList_load_row rfl 24 _ rfl (w.heap.size + 1) rfl 24 (dia n (jB n p (2 * n))) (0, 0) _ HO_4.out Try.underlying24 rfl HZ.out ?_) | (refine wpList_store_row rfl 24 _ _ rfl w.heap.size (dia n (jB n p (2 * n))) rfl rfl 24 (dia 0 (List.replicate 16 0)) HO_2.out HZ.out HZ0.out (dia_one _ _) ?_))
        refine bodyPost_ret (results_cell_row rfl _ _ w.heap.size 24 _ (0, 0) _ rfl (setRow_heap _ _ _ _ _ _ HO_2.out) Try.underlying24 rfl HZ.out) rfl ⟨rfl, below_setRow HB.out (Nat.le_refl _)⟩
end Go.Proofs.Ytdmipfmipjpegaa.Hand
