/- The contracts of impl.named at the method part, of spec.l07Is and of impl.IsPartition. No condition. -/
import Derived.Test.YtkpjmphglnnmiaaHandUnitLaw
import Derived.Deep.RegionHeld3
import Derived.Deep.QuietTactic
import Derived.BigQuiet
namespace Go.Proofs.Ytkpjmphglnnmiaa.Hand
open Go.RowKit Go.Proofs.YtkpjmphglnnmiaaW.PrintWords Go.Proofs.YtkpjmphglnnmiaaW.PrintLast Go.Maps
set_option linter.unusedVariables false
set_option linter.unusedSimpArgs false

set_option maxHeartbeats 8000000 in
set_option maxRecDepth 100000 in
theorem named_part (n : Nat) (hn : n ≤ 4) (lab : Nat → Int) (hl : ∀ i, (Lit.int .i64 (lab i)).wf = true) (q : Addr) (w : World)
    (hof : ∀ (i : Nat), i < 2 * n → ∀ w', Below w.heap.size w w' → Calls Try.prog 22 #[.pointer (some q), .int .i64 (i : Int)] w' fun e w2 => e = .returned (.int .i64 (lab i)) ∧ w2 = w') :
    Calls Try.prog 20 #[.int .i64 (n : Int), .func (.func 22) #[.pointer (some q)] #[]] w fun e w' => e = .returned (.agg (par n (nmB lab (2 * n)))) ∧ Below w.heap.size w w' := by
  have HN := Aside0.mk hn
  have HOF := Aside0.mk hof
  have HL := Aside0.mk hl
  have hmm := @run_makeMap Try.prog
  clear hn hof hl
  go_enter Try.func20, Try.ntmps20
  go_wp2
  have hw2 : wrap64 (2 * (n : Int)) = ((2 * n : Nat) : Int) := by have := HN.out; unfold wrap64; omega
  rw [hw2]
  obtain ⟨m, hm⟩ : ∃ m, 2 * n = m := ⟨_, rfl⟩
  rw [hm]
  have HMM := Aside0.mk hm.symm
  have HM := Aside0.mk (show m ≤ 8 by have := HN.out; omega)
  rw [hm] at HOF
  clear hw2 hm
  go_loopg [15] m (fun dq v15 w' => ∃ (i : Nat) (D : DataW Unit), v15 = .int .i64 (i : Int) ∧ Aside0 (i + dq = m) ∧ Aside0 (Tells D (nmS lab i)) ∧ Aside0 (w'.ownsMap Try.prog 3 (plainElem Try.prog 5) (w.heap.size + 1) i D) ∧ Aside0 (w'.heap[w.heap.size + 1 + 1]? = some (.cells (par n (nmB lab i)) 26 (0, 0))) ∧ Aside0 (w'.heap[w.heap.size]? = some (.cells (par 0 (List.replicate 8 0)) 26 (0, 0))) ∧ Aside0 (Below w.heap.size w w'))
  case atStart =>
    refine ⟨0, .map [], rfl, ⟨by omega⟩, ⟨Tells.nil⟩, ⟨?_⟩, ⟨?_⟩, ⟨?_⟩, ⟨?_⟩⟩
    · refine ownsMap_move (w := (w.alloc (.cells (par 0 (List.replicate 8 0)) 26)).alloc (.map #[] 0)) ?_ (heap_alloc_old _ _ (by simp))
      have := World.ownsMap_made (H := Unit) (w.alloc (.cells (par 0 (List.replicate 8 0)) 26)) Try.prog 3 (plainElem Try.prog 5)
      simpa using this
    · have hz : ((w.alloc (.cells (par 0 (List.replicate 8 0)) 26)).alloc (.map #[] 0)).heap.size = w.heap.size + 1 + 1 := by simp
      rw [← hz]
      exact heap_alloc_new _ _
    · refine (heap_alloc_old _ _ (by simp; omega)).trans ((heap_alloc_old _ _ (by simp)).trans (heap_alloc_new w _))
    · exact (((Below.refl _ w).alloc (Nat.le_refl _) _).alloc (by simp) _).alloc (by simp; omega) _
  case round =>
    obtain ⟨i, D, rfl, HI, HT, HW, HG, HR, HB⟩ := hrel
    cases gk with
    | zero =>
      have hi := HI.out
      have c1 : decide ((i : Int) < (m : Int)) = false := decide_eq_false (by omega)
      have c2 : decide (i < m) = false := decide_eq_false (by omega)
      have him : i = m := by omega
      have HIM := Aside0.mk him
      have HZ := Aside0.mk (show (Try.prog.info? 26).map (·.size) = some (par (n : Int) (nmB lab i)).size by rw [par_size, nmB_len]; exact sizePar)
      have HZ0 := Aside0.mk (show (par 0 (List.replicate 8 0)).size = (par (n : Int) (nmB lab i)).size by rw [par_size, par_size, nmB_len]; rfl)
      clear him hmm
      go_wp2_with (first | (refine wpList_load_row rfl 26 _ rfl (w.heap.size + 1 + 1) rfl 26 (par n (nmB lab i)) (0, 0) _ HG.out Try.underlying26 rfl HZ.out ?_) | (refine wpList_store_row rfl 26 _ _ rfl w.heap.size (par n (nmB lab i)) rfl rfl 26 (par 0 (List.replicate 8 0)) HR.out HZ.out HZ0.out (par_one _ _) ?_))
      refine bodyPost_ret (results_cell_row rfl _ _ w.heap.size 26 _ (0, 0) _ rfl (setRow_heap _ _ _ _ _ _ HR.out) Try.underlying26 rfl HZ.out) rfl ⟨by rw [HIM.out, HMM.out], below_setRow HB.out (Nat.le_refl _)⟩
    | succ dq =>
      have hi := HI.out
      have hi8 : i < 8 := by have := HM.out; omega
      have c1 : decide ((i : Int) < (m : Int)) = true := decide_eq_true (by omega)
      have c2 : decide (i < m) = true := decide_eq_true (by omega)
      have p1 := eq_true (show (0 : Int) ≤ (i : Int) by omega)
      have p2 := eq_true (show (i : Int) < 8 by omega)
      have HK : Aside0 (keyOf Try.prog 3 (.int .i64 (lab i)) = some (.int .i64 (lab i))) := ⟨keyOf_int_mk Try.underlying3 (HL.out i)⟩
      have hbl : i < (nmB lab i).length := by rw [nmB_len]; exact hi8
      have zc : wr.cell? ⟨w.heap.size + 1 + 1, 1 + i, none⟩ = some (.int .u8 ((nmB lab i).getD i 0)) := by rw [cell_of_row _ _ _ _ _ _ HG.out]; exact par_at _ _ i hbl
      have zf : wr.frozen? ⟨w.heap.size + 1 + 1, 1 + i, none⟩ = false := frozen_of_row _ _ _ _ _ HG.out
      have hwi : wrap64 ((i : Int) + 1) = ((i + 1 : Nat) : Int) := by unfold wrap64; omega
      have HWI := Aside0.mk hwi
      clear hwi
      go_wp2_with fail
      refine (HOF.out i (by omega) _ HB.out).mono ?_
      rintro e wr ⟨rfl, rfl⟩
      by_cases hS : lab i ∈ nmS lab i
      · have hh : Maps.has D (.int .i64 (lab i)) = true := by rw [HT.out.has]; exact decide_eq_true hS
        have hv := HT.out.key (lab i) hS
        have HX := Aside0.mk (show nmS lab (i + 1) = nmS lab i by rw [nmS, if_pos hS])
        go_wp2_with (at_lookup; refine wpList_lookup_own_ok_int _ rfl _ _ 48 rfl 3 5 .u8 lawK Try.underlying48 Try.underlying5 (zeroB _) (w.heap.size + 1) i D rfl HW.out _ _ rfl HK.out ?_; intro c hat hwc; rw [hh]; rw [hv] at hat; obtain rfl : ((nmS lab i).idxOf (lab i) : Int) = c := (by injection hat with hat; injection hat))
        have HGN := Aside0.mk (show (wr.setCell ⟨w.heap.size + 1 + 1, 1 + i, none⟩ (.int .u8 ((nmS lab i).idxOf (lab i) : Int))).heap[w.heap.size + 1 + 1]? = some (.cells (par n (nmB lab (i + 1))) 26 (0, 0)) by
          rw [heap_setCell_same wr (w.heap.size + 1 + 1) (1 + i) _ _ _ HG.out, par_set]; rfl)
        have HRN := Aside0.mk ((heap_setCell_other wr ⟨w.heap.size + 1 + 1, 1 + i, none⟩ w.heap.size (.int .u8 ((nmS lab i).idxOf (lab i) : Int)) (by show w.heap.size ≠ w.heap.size + 1 + 1; omega)).trans HR.out)
        have HWN := Aside0.mk ((ownsMap_move HW.out (heap_setCell_other wr ⟨w.heap.size + 1 + 1, 1 + i, none⟩ (w.heap.size + 1) (.int .u8 ((nmS lab i).idxOf (lab i) : Int)) (by show w.heap.size + 1 ≠ w.heap.size + 1 + 1; omega))).mono (Nat.le_succ i))
        have HBN := Aside0.mk (HB.out.setCell (p := ⟨w.heap.size + 1 + 1, 1 + i, none⟩) (by show w.heap.size ≤ w.heap.size + 1 + 1; omega) (.int .u8 ((nmS lab i).idxOf (lab i) : Int)))
        have HTN := Aside0.mk (show Tells D (nmS lab (i + 1)) by rw [HX.out]; exact HT.out)
        go_roundg dq
        case measure => omega
        case rel => exact ⟨i + 1, D, (by first | rfl | exact congrArg _ HWI.out), ⟨by omega⟩, HTN, HWN, HGN, HRN, HBN⟩
      · have hh : Maps.has D (.int .i64 (lab i)) = false := by rw [HT.out.has]; exact decide_eq_false hS
        have hzz : Maps.size D = (nmS lab i).length := HT.out.size
        have HX := Aside0.mk (show nmS lab (i + 1) = nmS lab i ++ [lab i] by rw [nmS, if_neg hS])
        have HID := Aside0.mk (show (nmS lab i).idxOf (lab i) = (nmS lab i).length from List.idxOf_eq_length hS)
        have HNS := Aside0.mk hS
        have HSL := Aside0.mk (show (nmS lab i).length ≤ 8 by have := nmS_len lab i; omega)
        have hw8 := u8_small HSL.out
        have hw9 : ((nmS lab i).length : Int) % 256 = ((nmS lab i).length : Int) := by have := HSL.out; omega
        clear hS
        go_wp2_with (first
          | (at_lookup; refine wpList_lookup_own_ok_int _ rfl _ _ 48 rfl 3 5 .u8 lawK Try.underlying48 Try.underlying5 (zeroB _) (w.heap.size + 1) i D rfl HW.out _ _ rfl HK.out ?_; intro c hat hwc; rw [hh]; clear hat hwc)
          | (at_len; refine wpList_len_own _ rfl _ 48 rfl 3 5 Try.underlying48 _ (w.heap.size + 1) i D rfl HW.out ?_; rw [hzz]))
        refine (HOF.out i (by omega) _ HB.out).mono ?_
        rintro e wr ⟨rfl, rfl⟩
        clear hmm hzz hh zc zf
        go_wp2_with (at_mapUpdate; refine wpList_mapUpdate_own _ rfl _ _ _ 48 rfl 3 5 lawK Try.underlying48 _ (w.heap.size + 1) i D rfl HW.out (by unfold maxLen; omega) _ _ _ rfl rfl HK.out _ [] (plainElem_int Try.underlying5 (u8_wf HSL.out)) ?_; intro w1 hown1 hgrow1; have HL2 := Aside0.mk (show w.heap.size + 1 + 1 < wr.heap.size from (Array.getElem?_eq_some_iff.1 HG.out).1); have HG1 := Aside0.mk ((hgrow1.block (w.heap.size + 1 + 1) HL2.out (by intro e; injection e with e; omega)).trans HG.out); have HR1 := Aside0.mk ((hgrow1.block w.heap.size (by have := HL2.out; omega) (by intro e; injection e with e; omega)).trans HR.out); have HW1 := Aside0.mk hown1; have HB1 := Aside0.mk (HB.out.grown hgrow1 HB.out.size (fun j hj => by cases hj; omega)); have zc : w1.cell? ⟨w.heap.size + 1 + 1, 1 + i, none⟩ = some (.int .u8 ((nmB lab i).getD i 0)) := (by rw [cell_of_row _ _ _ _ _ _ HG1.out]; exact par_at _ _ i hbl); have zf : w1.frozen? ⟨w.heap.size + 1 + 1, 1 + i, none⟩ = false := frozen_of_row _ _ _ _ _ HG1.out; clear hown1 hgrow1)
        have HGN := Aside0.mk (show (w1.setCell ⟨w.heap.size + 1 + 1, 1 + i, none⟩ (.int .u8 ((nmS lab i).length : Int))).heap[w.heap.size + 1 + 1]? = some (.cells (par n (nmB lab (i + 1))) 26 (0, 0)) by
          rw [heap_setCell_same w1 (w.heap.size + 1 + 1) (1 + i) _ _ _ HG1.out, par_set, nmB, HID.out])
        have HRN := Aside0.mk ((heap_setCell_other w1 ⟨w.heap.size + 1 + 1, 1 + i, none⟩ w.heap.size (.int .u8 ((nmS lab i).length : Int)) (by show w.heap.size ≠ w.heap.size + 1 + 1; omega)).trans HR1.out)
        have HWN := Aside0.mk (ownsMap_move HW1.out (heap_setCell_other w1 ⟨w.heap.size + 1 + 1, 1 + i, none⟩ (w.heap.size + 1) (.int .u8 ((nmS lab i).length : Int)) (by show w.heap.size + 1 ≠ w.heap.size + 1 + 1; omega)))
        have HBN := Aside0.mk (HB1.out.setCell (p := ⟨w.heap.size + 1 + 1, 1 + i, none⟩) (by show w.heap.size ≤ w.heap.size + 1 + 1; omega) (.int .u8 ((nmS lab i).length : Int)))
        have HTN := Aside0.mk (show Tells (D.put (.int .i64 (lab i)) (.lit (.int .u8 ((nmS lab i).length : Int)))) (nmS lab (i + 1)) by rw [HX.out]; exact HT.out.put (HL.out i) HNS.out)
        go_roundg dq
        case measure => omega
        case rel => exact ⟨i + 1, _, (by first | rfl | exact congrArg _ HWI.out), ⟨by omega⟩, HTN, HWN, HGN, HRN, HBN⟩
/-- Is this a partition, as the reference asks: from place i on. -/
def isQ (n : Int) (b : List Int) : Nat → Nat → Int → Bool
  | 0, _, _ => true
  | d + 1, i, nx => if 2 * n ≤ (i : Int) then (if b.getD i 0 = 0 then isQ n b d (i + 1) nx else false)
    else if nx < b.getD i 0 then false else if b.getD i 0 = nx then isQ n b d (i + 1) (nx + 1) else isQ n b d (i + 1) nx
set_option maxHeartbeats 8000000 in
set_option maxRecDepth 100000 in
theorem part_calls (n : Int) (b : List Int) (hb : b.length = 8) (i g : Nat) (hi : i < 8) (hby : ∀ x ∈ b, 0 ≤ x ∧ x ≤ 255) (w : World) (hg : w.heap[g]? = some (.cells (par n b) 26 (0, 0))) :
    Calls Try.prog 22 #[.pointer (some ⟨g, 0, none⟩), .int .i64 (i : Int)] w fun e w' => e = .returned (.int .i64 (b.getD i 0)) ∧ w' = w := by
  have p1 := eq_true (show (0 : Int) ≤ (i : Int) by omega)
  have p2 := eq_true (show (i : Int) < 8 by omega)
  have z1 : w.cell? ⟨g, 1 + i, none⟩ = some (.int .u8 (b.getD i 0)) := by rw [cell_of_row _ _ _ _ _ _ hg]; exact par_at _ _ i (by omega)
  obtain ⟨x, hx⟩ : ∃ x, b.getD i 0 = x := ⟨_, rfl⟩
  have hxr : 0 ≤ x ∧ x ≤ 255 := by
    rw [← hx, List.getD_eq_getElem?_getD, List.getElem?_eq_getElem (by omega)]
    exact hby _ (List.getElem_mem _)
  rw [hx] at z1 ⊢
  obtain ⟨hx0, hx1⟩ := hxr
  have hw1 : wrap64 x = x := by unfold wrap64; omega
  have HG := Aside0.mk hg
  clear hb hi hg hx hby
  go_enter Try.func22, Try.ntmps22
  go_wp2
  go_ret
  exact ⟨by first | rfl | (rw [hw1]; done) | (simp only [hw1]; done), rfl⟩

theorem rd_range {b : List Int} (hb : b.length = 8) (hby : ∀ x ∈ b, 0 ≤ x ∧ x ≤ 255) {i : Nat} (hi : i < 8) : 0 ≤ b.getD i 0 ∧ b.getD i 0 ≤ 255 := by
  rw [List.getD_eq_getElem?_getD, List.getElem?_eq_getElem (by omega)]
  exact hby _ (List.getElem_mem _)
set_option maxHeartbeats 8000000 in
set_option maxRecDepth 100000 in
theorem specIs_in (N : Nat) (h1 : 1 ≤ N) (h4 : N ≤ 4) (b : List Int) (hb : b.length = 8) (hby : ∀ x ∈ b, 0 ≤ x ∧ x ≤ 255) (w : World) :
    Calls Try.prog 17 #[.agg (par N b)] w fun e w' => e = .returned (.bool (isQ N b 8 0 0)) ∧ Below w.heap.size w w' := by
  have HI := Aside0.mk (fun W => l01In_calls N h1 h4 W)
  have HBL := Aside0.mk hb
  have HBY := Aside0.mk hby
  have hw2 : wrap64 (2 * (N : Int)) = ((2 * N : Nat) : Int) := by unfold wrap64; omega
  obtain ⟨m, hm⟩ : ∃ m, 2 * N = m := ⟨_, rfl⟩
  rw [hm] at hw2
  have HM := Aside0.mk (show m ≤ 8 by omega)
  have HMM := Aside0.mk (show 2 * (N : Int) = (m : Int) by omega)
  obtain ⟨C, hC⟩ : ∃ C, par N b = C := ⟨_, rfl⟩
  have HC0 := Aside0.mk (show C[0]? = some (.int .i64 (N : Int)) by rw [← hC]; rfl)
  have HCC := Aside0.mk (show ∀ i, i < 8 → C[1 + i]? = some (.int .u8 (b.getD i 0)) by intro i hi; rw [← hC]; exact par_at _ _ i (by omega))
  rw [hC]
  obtain ⟨R, hR⟩ : ∃ R, isQ N b 8 0 0 = R := ⟨_, rfl⟩
  rw [hR]
  have HR := Aside0.mk hR
  have HW0 := Aside0.mk (heap_alloc_new w (.cells C 26))
  have HB0 := Aside0.mk ((Below.refl w.heap.size w).alloc (Nat.le_refl _) (.cells C 26))
  have z0 : (w.alloc (.cells C 26)).cell? ⟨w.heap.size, 0, none⟩ = some (.int .i64 (N : Int)) := by rw [cell_of_row _ _ _ _ _ _ HW0.out]; exact HC0.out
  clear h1 h4 hb hby hm hC hR
  go_enter Try.func17, Try.ntmps17
  go_wp2_with fail
  refine (HI.out _).mono ?_
  rintro e w0 ⟨rfl, ⟨q, rfl⟩⟩
  obtain ⟨w1, hw1⟩ : ∃ w1, w1 = (w.alloc (.cells C 26)).drewN q := ⟨_, rfl⟩
  have HH := Aside0.mk (show w1.heap[w.heap.size]? = some (.cells C 26 (0, 0)) by rw [hw1]; exact HW0.out)
  have HB := Aside0.mk (show Below w.heap.size w w1 by rw [hw1]; exact pw_below_drewN HB0.out q)
  have z9 : w1.cell? ⟨w.heap.size, 0, none⟩ = some (.int .i64 (N : Int)) := by rw [cell_of_row _ _ _ _ _ _ HH.out]; exact HC0.out
  clear z0
  go_wp2_with fail
  rw [← hw1]
  clear hw1
  go_loopg [3, 4] 8 (fun dq v3 v4 w' => ∃ (i nx : Nat), v3 = .int .u8 (nx : Int) ∧ v4 = .int .i64 (i : Int) ∧ Aside0 (i + dq = 8) ∧ Aside0 (nx ≤ i) ∧ Aside0 (isQ N b dq i nx = R) ∧ w' = w1)
  case atStart => exact ⟨0, 0, rfl, rfl, ⟨by omega⟩, ⟨by omega⟩, HR, rfl⟩
  case round =>
    clear HR
    obtain ⟨i, nx, rfl, rfl, HI, HN, HR, rfl⟩ := hrel
    cases gk with
    | zero =>
      have hi := HI.out
      have c1 : decide ((i : Int) < 8) = false := decide_eq_false (by omega)
      have c2 : decide (i < 8) = false := decide_eq_false (by omega)
      have e : true = R := HR.out
      subst e
      go_wp2
      go_ret
      exact ⟨rfl, HB.out⟩
    | succ dq =>
      have hi := HI.out
      have hi8 : i < 8 := by omega
      have c1 : decide ((i : Int) < 8) = true := decide_eq_true (by omega)
      have c2 : decide (i < 8) = true := decide_eq_true (by omega)
      have p1 := eq_true (show (0 : Int) ≤ (i : Int) by omega)
      have p2 := eq_true (show (i : Int) < 8 by omega)
      have z1 : wr.cell? ⟨w.heap.size, 1 + i, none⟩ = some (.int .u8 (b.getD i 0)) := by rw [cell_of_row _ _ _ _ _ _ HH.out]; exact HCC.out i hi8
      have hxr := rd_range HBL.out HBY.out hi8
      have hr := HR.out
      rw [isQ, HMM.out] at hr
      generalize b.getD i 0 = x at z1 hxr hr
      obtain ⟨hx0, hx1⟩ := hxr
      have hwi : wrap64 ((i : Int) + 1) = ((i + 1 : Nat) : Int) := by unfold wrap64; omega
      have HWI := Aside0.mk hwi
      clear hwi HR
      by_cases hm : m ≤ i
      · rw [if_pos (by omega)] at hr
        have g1 : decide ((m : Int) ≤ (i : Int)) = true := decide_eq_true (by omega)
        have g2 : decide (m ≤ i) = true := decide_eq_true hm
        have g3 : decide ((i : Int) < (m : Int)) = false := decide_eq_false (by omega)
        have g4 : decide (i < m) = false := decide_eq_false (by omega)
        have g5 := eq_true (show (m : Int) ≤ (i : Int) by omega)
        have g6 := eq_false (show ¬ ((i : Int) < (m : Int)) by omega)
        by_cases hx : x = 0
        · rw [if_pos hx] at hr
          have e1 : (x != 0) = false := by rw [bne_eq_false_iff_eq]; exact hx
          have HR := Aside0.mk hr
          clear hr hm hx
          go_wp2
          go_roundg dq
          case measure => omega
          case rel => exact ⟨i + 1, nx, rfl, (by first | rfl | exact congrArg _ HWI.out), ⟨by omega⟩, ⟨by have := HN.out; omega⟩, HR, rfl⟩
        · rw [if_neg hx] at hr
          have e1 : (x != 0) = true := by rw [bne_iff_ne]; exact hx
          subst hr
          clear hm hx
          go_wp2
          go_ret
          exact ⟨rfl, HB.out⟩
      · rw [if_neg (by omega)] at hr
        have g1 : decide ((m : Int) ≤ (i : Int)) = false := decide_eq_false (by omega)
        have g2 : decide (m ≤ i) = false := decide_eq_false hm
        have g3 : decide ((i : Int) < (m : Int)) = true := decide_eq_true (by omega)
        have g4 : decide (i < m) = true := decide_eq_true (by omega)
        have g5 := eq_false (show ¬ ((m : Int) ≤ (i : Int)) by omega)
        have g6 := eq_true (show ((i : Int) < (m : Int)) by omega)
        by_cases hx : (nx : Int) < x
        · rw [if_pos hx] at hr
          have e1 : decide ((nx : Int) < x) = true := decide_eq_true hx
          subst hr
          clear hm
          go_wp2
          go_ret
          exact ⟨rfl, HB.out⟩
        · rw [if_neg hx] at hr
          have e1 : decide ((nx : Int) < x) = false := decide_eq_false hx
          by_cases hx2 : x = (nx : Int)
          · rw [if_pos hx2] at hr
            have e2 : (x == (nx : Int)) = true := by rw [beq_iff_eq]; exact hx2
            have hw8 : IntKind.u8.wrap ((nx : Int) + 1) = ((nx + 1 : Nat) : Int) := by rw [u8_wrap (by omega) (by have := HN.out; omega)]; omega
            have hw9 : ((nx : Int) + 1) % 256 = ((nx + 1 : Nat) : Int) := by have := HN.out; omega
            have HR := Aside0.mk (show isQ N b dq (i + 1) ((nx + 1 : Nat) : Int) = R by rw [show ((nx + 1 : Nat) : Int) = (nx : Int) + 1 by omega]; exact hr)
            have HX2 := Aside0.mk hx2
            clear hr hm hx hx2
            go_wp2
            go_roundg dq
            case measure => omega
            case rel => exact ⟨i + 1, nx + 1, (by first | rfl | (simp; done)), (by first | rfl | exact congrArg _ HWI.out), ⟨by omega⟩, ⟨by have := HN.out; omega⟩, HR, rfl⟩
          · rw [if_neg hx2] at hr
            have e2 : (x == (nx : Int)) = false := by rw [beq_eq_false_iff_ne]; exact hx2
            have HR := Aside0.mk hr
            clear hr hm hx hx2
            go_wp2
            go_roundg dq
            case measure => omega
            case rel => exact ⟨i + 1, nx, rfl, (by first | rfl | exact congrArg _ HWI.out), ⟨by omega⟩, ⟨by have := HN.out; omega⟩, HR, rfl⟩
theorem infoU8 : (Try.prog.info? 5).map (fun i => (i.zero, i.size, i.bytes)) = some (some (.int .u8 0), 1, 1) := by kernel_rfl
theorem cellsU8 : Try.prog.cellsOf 5 = 1 := by kernel_rfl
theorem ite_ok {p : Prop} [Decidable p] (b : Bool) (w : World) : (if p then Result.ok b w else Result.ok false w) = Result.ok (decide p && b) w := by split <;> simp [*]
/-- '==' of two arrays of eight bytes. -/
theorem eqArr (x0 x1 x2 x3 x4 x5 x6 x7 y0 y1 y2 y3 y4 y5 y6 y7 : Int) (ww : World) : Sem.run Try.prog (Op.equalIn 9999 22 (.agg #[.int .u8 x0, .int .u8 x1, .int .u8 x2, .int .u8 x3, .int .u8 x4, .int .u8 x5, .int .u8 x6, .int .u8 x7]) (.agg #[.int .u8 y0, .int .u8 y1, .int .u8 y2, .int .u8 y3, .int .u8 y4, .int .u8 y5, .int .u8 y6, .int .u8 y7])) ww = Result.ok (decide (([x0, x1, x2, x3, x4, x5, x6, x7] : List Int) = [y0, y1, y2, y3, y4, y5, y6, y7])) ww := by
  obtain ⟨i, hi, _⟩ := info_parts infoU8
  rw [run_equalIn_array ww 9998 _ _ Try.underlying22 hi, cellsU8, show List.range 8 = [0, 1, 2, 3, 4, 5, 6, 7] from rfl]
  simp only [List.cons.injEq, and_true]
  simp [Op.eqItems, go_sem, part, Try.underlying5]
  simp only [ite_ok, Bool.and_true]
theorem n_calls (n : Int) (g : Nat) (w : World) (z1 : w.cell? ⟨g, 0, none⟩ = some (.int .i64 n)) :
    Calls Try.prog 21 #[.pointer (some ⟨g, 0, none⟩)] w fun e w' => e = .returned (.int .i64 n) ∧ w' = w := by
  go_enter Try.func21, Try.ntmps21
  go_wp2
  go_ret
  exact ⟨rfl, rfl⟩
theorem part_cell (x : Int) (hx0 : 0 ≤ x) (hx1 : x ≤ 255) (i g : Nat) (hi : i < 8) (w : World) (z1 : w.cell? ⟨g, 1 + i, none⟩ = some (.int .u8 x)) :
    Calls Try.prog 22 #[.pointer (some ⟨g, 0, none⟩), .int .i64 (i : Int)] w fun e w' => e = .returned (.int .i64 x) ∧ w' = w := by
  have p1 := eq_true (show (0 : Int) ≤ (i : Int) by omega)
  have p2 := eq_true (show (i : Int) < 8 by omega)
  have hw1 : wrap64 x = x := by unfold wrap64; omega
  clear hi
  go_enter Try.func22, Try.ntmps22
  go_wp2
  go_ret
  exact ⟨by first | rfl | (rw [hw1]; done) | (simp only [hw1]; done), rfl⟩
theorem byt_wf {x : Int} (h : 0 ≤ x ∧ x ≤ 255) : (Lit.int .i64 x).wf = true := by
  have e1 : IntKind.i64.min = -9223372036854775808 := by decide
  have e2 : IntKind.i64.max = 9223372036854775807 := by decide
  simp only [Lit.wf, e1, e2, Bool.and_eq_true, decide_eq_true_eq]
  omega
/-- The labels of a partition's points. -/
def pl (b : List Int) (i : Nat) : Int := b.getD i 0
theorem pl_range {b : List Int} (hby : ∀ x ∈ b, 0 ≤ x ∧ x ≤ 255) (i : Nat) : 0 ≤ pl b i ∧ pl b i ≤ 255 := by
  unfold pl
  rw [List.getD_eq_getElem?_getD]
  cases he : b[i]? with
  | none => simp
  | some x => exact hby x (List.mem_of_getElem? he)
theorem named_nine (N : Nat) (h4 : N ≤ 4) (x0 x1 x2 x3 x4 x5 x6 x7 : Int) (hby : ∀ x ∈ [x0, x1, x2, x3, x4, x5, x6, x7], 0 ≤ x ∧ x ≤ 255) (g : Nat) (w : World) (c0 : w.cell? ⟨g, 0, none⟩ = some (.int .i64 (N : Int))) (c1 : w.cell? ⟨g, 1, none⟩ = some (.int .u8 x0)) (c2 : w.cell? ⟨g, 2, none⟩ = some (.int .u8 x1)) (c3 : w.cell? ⟨g, 3, none⟩ = some (.int .u8 x2)) (c4 : w.cell? ⟨g, 4, none⟩ = some (.int .u8 x3)) (c5 : w.cell? ⟨g, 5, none⟩ = some (.int .u8 x4)) (c6 : w.cell? ⟨g, 6, none⟩ = some (.int .u8 x5)) (c7 : w.cell? ⟨g, 7, none⟩ = some (.int .u8 x6)) (c8 : w.cell? ⟨g, 8, none⟩ = some (.int .u8 x7)) :
    Calls Try.prog 20 #[.int .i64 (N : Int), .func (.func 22) #[.pointer (some ⟨g, 0, none⟩)] #[]] w fun e w' => e = .returned (.agg (par N (nmB (pl [x0, x1, x2, x3, x4, x5, x6, x7]) (2 * N)))) ∧ Below w.heap.size w w' ∧ w'.cell? ⟨g, 0, none⟩ = some (.int .i64 (N : Int)) ∧ w'.cell? ⟨g, 1, none⟩ = some (.int .u8 x0) ∧ w'.cell? ⟨g, 2, none⟩ = some (.int .u8 x1) ∧ w'.cell? ⟨g, 3, none⟩ = some (.int .u8 x2) ∧ w'.cell? ⟨g, 4, none⟩ = some (.int .u8 x3) ∧ w'.cell? ⟨g, 5, none⟩ = some (.int .u8 x4) ∧ w'.cell? ⟨g, 6, none⟩ = some (.int .u8 x5) ∧ w'.cell? ⟨g, 7, none⟩ = some (.int .u8 x6) ∧ w'.cell? ⟨g, 8, none⟩ = some (.int .u8 x7) := by
  have hg := World.block_lt_of_cell? w _ c0
  refine (named_part N h4 (pl [x0, x1, x2, x3, x4, x5, x6, x7]) (fun i => byt_wf (pl_range hby i)) ⟨g, 0, none⟩ w (fun i hi w' hb => ?_)).mono ?_
  · have hi8 : i < 8 := by omega
    have hc : ∀ k, w'.cell? ⟨g, k, none⟩ = w.cell? ⟨g, k, none⟩ := fun k => hb.cell (p := ⟨g, k, none⟩) hg
    refine part_cell _ (pl_range hby i).1 (pl_range hby i).2 i g hi8 w' ?_
    rw [hc]
    have h : i = 0 ∨ i = 1 ∨ i = 2 ∨ i = 3 ∨ i = 4 ∨ i = 5 ∨ i = 6 ∨ i = 7 := by omega
    rcases h with rfl | rfl | rfl | rfl | rfl | rfl | rfl | rfl
    · exact c1
    · exact c2
    · exact c3
    · exact c4
    · exact c5
    · exact c6
    · exact c7
    · exact c8
  · rintro e w' ⟨he, hb⟩
    have hc : ∀ k, w'.cell? ⟨g, k, none⟩ = w.cell? ⟨g, k, none⟩ := fun k => hb.cell (p := ⟨g, k, none⟩) hg
    exact ⟨he, hb, by rw [hc]; exact c0, by rw [hc]; exact c1, by rw [hc]; exact c2, by rw [hc]; exact c3, by rw [hc]; exact c4, by rw [hc]; exact c5, by rw [hc]; exact c6, by rw [hc]; exact c7, by rw [hc]; exact c8⟩
set_option maxHeartbeats 8000000 in
set_option maxRecDepth 100000 in
theorem implIs_in (N : Nat) (h1 : 1 ≤ N) (h4 : N ≤ 4) (x0 x1 x2 x3 x4 x5 x6 x7 : Int) (hby : ∀ x ∈ [x0, x1, x2, x3, x4, x5, x6, x7], 0 ≤ x ∧ x ≤ 255) (w : World) (r : Bool)
    (hr : decide (([x0, x1, x2, x3, x4, x5, x6, x7] : List Int) = nmB (pl [x0, x1, x2, x3, x4, x5, x6, x7]) (2 * N)) = r) :
    Calls Try.prog 8 #[.agg (par N [x0, x1, x2, x3, x4, x5, x6, x7])] w fun e w' => e = .returned (.bool r) ∧ Below w.heap.size w w' := by
  have HI := Aside0.mk (fun W => implIn_calls N h1 h4 W)
  obtain ⟨y0, y1, y2, y3, y4, y5, y6, y7, hy⟩ := arr8 (nmB (pl [x0, x1, x2, x3, x4, x5, x6, x7]) (2 * N)) (nmB_len _ _)
  rw [hy] at hr
  have HNM := Aside0.mk (fun g W c0 c1 c2 c3 c4 c5 c6 c7 c8 => named_nine N h4 x0 x1 x2 x3 x4 x5 x6 x7 hby g W c0 c1 c2 c3 c4 c5 c6 c7 c8)
  rw [hy] at HNM
  have HR := hr
  have HB := Aside0.mk ((Below.refl w.heap.size w).alloc (Nat.le_refl _) (.cells (par N [x0, x1, x2, x3, x4, x5, x6, x7]) 26))
  have HH := Aside0.mk (heap_alloc_new w (.cells (par N [x0, x1, x2, x3, x4, x5, x6, x7]) 26))
  clear h1 h4 hby hy HR
  have HR := Aside0.mk hr
  clear hr
  go_enter Try.func8, Try.ntmps8
  go_wp2_with fail
  obtain ⟨g, hg⟩ : ∃ g, w.heap.size = g := ⟨_, rfl⟩
  obtain ⟨W, hW⟩ : ∃ W, w.alloc (.cells (par N [x0, x1, x2, x3, x4, x5, x6, x7]) 26) = W := ⟨_, rfl⟩
  rw [hW] at HH HB
  rw [hg] at HH
  have HG := Aside0.mk hg
  have z0 : W.cell? ⟨g, 0, none⟩ = some (.int .i64 (N : Int)) := by rw [cell_of_row _ _ _ _ _ _ HH.out]; rfl
  have z1 : W.cell? ⟨g, 1, none⟩ = some (.int .u8 x0) := by rw [cell_of_row _ _ _ _ _ _ HH.out]; rfl
  have z2 : W.cell? ⟨g, 2, none⟩ = some (.int .u8 x1) := by rw [cell_of_row _ _ _ _ _ _ HH.out]; rfl
  have z3 : W.cell? ⟨g, 3, none⟩ = some (.int .u8 x2) := by rw [cell_of_row _ _ _ _ _ _ HH.out]; rfl
  have z4 : W.cell? ⟨g, 4, none⟩ = some (.int .u8 x3) := by rw [cell_of_row _ _ _ _ _ _ HH.out]; rfl
  have z5 : W.cell? ⟨g, 5, none⟩ = some (.int .u8 x4) := by rw [cell_of_row _ _ _ _ _ _ HH.out]; rfl
  have z6 : W.cell? ⟨g, 6, none⟩ = some (.int .u8 x5) := by rw [cell_of_row _ _ _ _ _ _ HH.out]; rfl
  have z7 : W.cell? ⟨g, 7, none⟩ = some (.int .u8 x6) := by rw [cell_of_row _ _ _ _ _ _ HH.out]; rfl
  have z8 : W.cell? ⟨g, 8, none⟩ = some (.int .u8 x7) := by rw [cell_of_row _ _ _ _ _ _ HH.out]; rfl
  rw [hW, hg]
  clear hW hg
  have HNC := Aside0.mk (show ∀ q : Nat, Calls Try.prog 21 #[.pointer (some ⟨g, 0, none⟩)] (W.drewN q) fun e w' => e = .returned (.int .i64 (N : Int)) ∧ w' = W.drewN q from fun q => n_calls (N : Int) g (W.drewN q) z0)
  have hnd := fun q : Nat => HNM.out g (W.drewN q) z0 z1 z2 z3 z4 z5 z6 z7 z8
  rw [show par (N : Int) [y0, y1, y2, y3, y4, y5, y6, y7] = #[.int .i64 (N : Int), .int .u8 y0, .int .u8 y1, .int .u8 y2, .int .u8 y3, .int .u8 y4, .int .u8 y5, .int .u8 y6, .int .u8 y7] from rfl] at hnd
  have HND := Aside0.mk hnd
  have hea := eqArr x0 x1 x2 x3 x4 x5 x6 x7 y0 y1 y2 y3 y4 y5 y6 y7
  rw [HR.out] at hea
  clear hnd
  cases r
  all_goals
    go_region_held3 (fun w' => w'.cell? ⟨g, 0, none⟩ = some (.int .i64 (N : Int)) ∧ w'.cell? ⟨g, 1, none⟩ = some (.int .u8 x0) ∧ w'.cell? ⟨g, 2, none⟩ = some (.int .u8 x1) ∧ w'.cell? ⟨g, 3, none⟩ = some (.int .u8 x2) ∧ w'.cell? ⟨g, 4, none⟩ = some (.int .u8 x3) ∧ w'.cell? ⟨g, 5, none⟩ = some (.int .u8 x4) ∧ w'.cell? ⟨g, 6, none⟩ = some (.int .u8 x5) ∧ w'.cell? ⟨g, 7, none⟩ = some (.int .u8 x6) ∧ w'.cell? ⟨g, 8, none⟩ = some (.int .u8 x7))
      (first | go_keep | (refine ⟨?_, ?_, ?_, ?_, ?_, ?_, ?_, ?_, ?_⟩ <;> assumption))
      (first
        | (go_simp; go_at_call 19; (with_reducible refine (HI.out _).mono ?_); rintro e w' ⟨rfl, ⟨q, rfl⟩⟩)
        | (go_simp; go_at_call 21; (with_reducible refine (HNC.out _).mono ?_); rintro e w' ⟨rfl, rfl⟩)
        | (go_simp; go_at_call 20; (with_reducible refine (HND.out _).mono ?_); rintro e w' ⟨rfl, hb, d0, d1, d2, d3, d4, d5, d6, d7, d8⟩))
    all_goals (go_wp2; go_ret; exact ⟨rfl, below_step (pw_below_drewN HB.out _) hb⟩)
end Go.Proofs.Ytkpjmphglnnmiaa.Hand
