/- The contract of impl.named: the names of labels in the order of their first places. Condition: said in the theorem. -/
import Derived.Test.YtkpjmphglnnmiaaHandParEq
import Derived.Maps.OwnSet
import Derived.Maps.Keyed
import Derived.Maps.Views
namespace Go.Proofs.Ytkpjmphglnnmiaa.Hand
open Go.RowKit Go.Proofs.YtkpjmphglnnmiaaW.PrintWords Go.Proofs.YtkpjmphglnnmiaaW.PrintLast Go.Maps
set_option linter.unusedVariables false
set_option linter.unusedSimpArgs false

/-- The labels met among the first i places, in order. -/
def nmS (lab : Nat → Int) : Nat → List Int
  | 0 => []
  | i + 1 => if lab i ∈ nmS lab i then nmS lab i else nmS lab i ++ [lab i]
/-- The names of the first i places. -/
def nmB (lab : Nat → Int) : Nat → List Int
  | 0 => List.replicate 8 0
  | i + 1 => (nmB lab i).set i ((nmS lab i).idxOf (lab i) : Int)
theorem nmB_len (lab : Nat → Int) : ∀ i, (nmB lab i).length = 8
  | 0 => rfl
  | i + 1 => by rw [nmB, List.length_set, nmB_len lab i]
theorem nmS_len (lab : Nat → Int) : ∀ i, (nmS lab i).length ≤ i
  | 0 => Nat.le_refl _
  | i + 1 => by
    have := nmS_len lab i
    rw [nmS]
    split
    · omega
    · rw [List.length_append, List.length_singleton]; omega
/-- A map that tells the places of labels in a list. -/
structure Tells (D : DataW Unit) (S : List Int) : Prop where
  tidy : Tidy D
  has : ∀ a : Int, Maps.has D (.int .i64 a) = decide (a ∈ S)
  key : ∀ a : Int, a ∈ S → ∀ z, D.atKey (.int .i64 a) z = .lit (.int .u8 (S.idxOf a : Int))
  size : Maps.size D = S.length
theorem Tells.nil : Tells (.map []) [] := ⟨tidy_empty, fun a => by simp [has_eq], fun a h _ => absurd h (by simp), rfl⟩
theorem Tells.put {D : DataW Unit} {S : List Int} (h : Tells D S) {a : Int} (hw : (Lit.int .i64 a).wf = true) (ha : a ∉ S) : Tells (D.put (.int .i64 a) (.lit (.int .u8 (S.length : Int)))) (S ++ [a]) := by
  have hk : WideAt.IsKeyLit (.int .i64 a) := by first | trivial | exact hw | simp [WideAt.IsKeyLit]
  refine ⟨h.tidy.put hk _, fun b => ?_, fun b hb z => ?_, ?_⟩
  · by_cases e : b = a
    · subst e
      rw [has_put_same h.tidy.isMap hk]; simp
    · rw [has_put_other (fun e2 => e (by injection e2)), h.has b]
      simp [e]
  · by_cases e : b = a
    · subst e
      rw [atKey_put_same h.tidy.isMap hk, List.idxOf_append, if_neg ha]
      simp
    · have hbS : b ∈ S := by
        rcases List.mem_append.1 hb with h1 | h1
        · exact h1
        · exact absurd (List.mem_singleton.1 h1) e
      rw [atKey_put_other (fun e2 => e (by injection e2)), h.key b hbS, List.idxOf_append, if_pos hbS]
  · rw [size_put h.tidy, h.has a, decide_eq_false ha, if_neg (by decide), h.size, List.length_append]; rfl
theorem lawK : Keyed Try.prog 3 := int_keyed Try.underlying3
theorem zeroB (w : World) : (zeroValue 5).run Try.prog w = .ok (.int .u8 0) w := by kernel_rfl
theorem ownsMap_move {H : Type} {w w' : World} {P : Program} {k : TypeId} {R : Value → Option (DataW H × List MemPlace)} {b n : Nat} {D : DataW H} (h : w.ownsMap P k R b n D) (hb : w'.heap[b]? = w.heap[b]?) : w'.ownsMap P k R b n D := by
  obtain ⟨es, clock, h1, h2⟩ := h
  exact ⟨es, clock, hb.trans h1, h2⟩
theorem par_at (n : Int) (b : List Int) (i : Nat) (hi : i < b.length) : (par n b)[1 + i]? = some (.int .u8 (b.getD i 0)) := by
  unfold par
  rw [List.getElem?_toArray, Nat.add_comm 1 i, List.getElem?_cons_succ, List.getElem?_map, List.getD_eq_getElem?_getD, List.getElem?_eq_getElem hi]
  rfl
theorem par_set (n : Int) (b : List Int) (i : Nat) (v : Int) : (par n b).setIfInBounds (1 + i) (.int .u8 v) = par n (b.set i v) := by
  unfold par
  rw [List.setIfInBounds_toArray, Nat.add_comm 1 i, List.set_cons_succ, List.map_set]
theorem u8_small {x : Nat} (h : x ≤ 8) : IntKind.u8.wrap (x : Int) = (x : Int) := by unfold IntKind.wrap; simp [IntKind.bits, IntKind.signed]; omega
theorem u8_wf {x : Nat} (h : x ≤ 8) : (Lit.int .u8 (x : Int)).wf = true := by simp [Lit.wf, IntKind.min, IntKind.max, IntKind.signed, IntKind.bits] <;> omega
set_option maxHeartbeats 8000000 in
set_option maxRecDepth 100000 in
theorem named_unit (n : Nat) (hn : n ≤ 4) (lab : Nat → Int) (hl : ∀ i, (Lit.int .i64 (lab i)).wf = true) (q : Addr) (w : World)
    (hof : ∀ (i : Nat), i < 2 * n → ∀ w', Below w.heap.size w w' → Calls Try.prog 25 #[.int .i64 (i : Int), .pointer (some q)] w' fun e w2 => e = .returned (.int .i64 (lab i)) ∧ w2 = w') :
    Calls Try.prog 20 #[.int .i64 (n : Int), .func (.func 25) #[] #[.pointer (some q)]] w fun e w' => e = .returned (.agg (par n (nmB lab (2 * n)))) ∧ Below w.heap.size w w' := by
  have HN := Aside0.mk hn
  have HOF := Aside0.mk hof
  have HL := Aside0.mk hl
  have hmm := @run_makeMap Try.prog
  clear hn hof hl
  go_enter Try.func20, Try.ntmps20
  go_wp2
  have hw2 : wrap64 (2 * (n : Int)) = ((2 * n : Nat) : Int) := by have := HN.out; unfold wrap64; omega
  rw [hw2]
  obtain ⟨m, hm⟩ : ∃ m, 2 * n = m := ⟨_, rfl⟩
  rw [hm]
  have HMM := Aside0.mk hm.symm
  have HM := Aside0.mk (show m ≤ 8 by have := HN.out; omega)
  rw [hm] at HOF
  clear hw2 hm
  go_loopg [15] m (fun dq v15 w' => ∃ (i : Nat) (D : DataW Unit), v15 = .int .i64 (i : Int) ∧ Aside0 (i + dq = m) ∧ Aside0 (Tells D (nmS lab i)) ∧ Aside0 (w'.ownsMap Try.prog 3 (plainElem Try.prog 5) (w.heap.size + 1) i D) ∧ Aside0 (w'.heap[w.heap.size + 1 + 1]? = some (.cells (par n (nmB lab i)) 26 (0, 0))) ∧ Aside0 (w'.heap[w.heap.size]? = some (.cells (par 0 (List.replicate 8 0)) 26 (0, 0))) ∧ Aside0 (Below w.heap.size w w'))
  case atStart =>
    refine ⟨0, .map [], rfl, ⟨by omega⟩, ⟨Tells.nil⟩, ⟨?_⟩, ⟨?_⟩, ⟨?_⟩, ⟨?_⟩⟩
    · refine ownsMap_move (w := (w.alloc (.cells (par 0 (List.replicate 8 0)) 26)).alloc (.map #[] 0)) ?_ (heap_alloc_old _ _ (by simp))
      have := World.ownsMap_made (H := Unit) (w.alloc (.cells (par 0 (List.replicate 8 0)) 26)) Try.prog 3 (plainElem Try.prog 5)
      simpa using this
    · have hz : ((w.alloc (.cells (par 0 (List.replicate 8 0)) 26)).alloc (.map #[] 0)).heap.size = w.heap.size + 1 + 1 := by simp
      rw [← hz]
      exact heap_alloc_new _ _
    · refine (heap_alloc_old _ _ (by simp; omega)).trans ((heap_alloc_old _ _ (by simp)).trans (heap_alloc_new w _))
    · exact (((Below.refl _ w).alloc (Nat.le_refl _) _).alloc (by simp) _).alloc (by simp; omega) _
  case round =>
    obtain ⟨i, D, rfl, HI, HT, HW, HG, HR, HB⟩ := hrel
    cases gk with
    | zero =>
      have hi := HI.out
      have c1 : decide ((i : Int) < (m : Int)) = false := decide_eq_false (by omega)
      have c2 : decide (i < m) = false := decide_eq_false (by omega)
      have him : i = m := by omega
      have HIM := Aside0.mk him
      have HZ := Aside0.mk (show (Try.prog.info? 26).map (·.size) = some (par (n : Int) (nmB lab i)).size by rw [par_size, nmB_len]; exact sizePar)
      have HZ0 := Aside0.mk (show (par 0 (List.replicate 8 0)).size = (par (n : Int) (nmB lab i)).size by rw [par_size, par_size, nmB_len]; rfl)
      clear him hmm
      go_wp2_with (first | (refine wpList_load_row rfl 26 _ rfl (w.heap.size + 1 + 1) rfl 26 (par n (nmB lab i)) (0, 0) _ HG.out Try.underlying26 rfl HZ.out ?_) | (refine wpList_store_row rfl 26 _ _ rfl w.heap.size (par n (nmB lab i)) rfl rfl 26 (par 0 (List.replicate 8 0)) HR.out HZ.out HZ0.out (par_one _ _) ?_))
      refine bodyPost_ret (results_cell_row rfl _ _ w.heap.size 26 _ (0, 0) _ rfl (setRow_heap _ _ _ _ _ _ HR.out) Try.underlying26 rfl HZ.out) rfl ⟨by rw [HIM.out, HMM.out], below_setRow HB.out (Nat.le_refl _)⟩
    | succ dq =>
      have hi := HI.out
      have hi8 : i < 8 := by have := HM.out; omega
      have c1 : decide ((i : Int) < (m : Int)) = true := decide_eq_true (by omega)
      have c2 : decide (i < m) = true := decide_eq_true (by omega)
      have p1 := eq_true (show (0 : Int) ≤ (i : Int) by omega)
      have p2 := eq_true (show (i : Int) < 8 by omega)
      have HK : Aside0 (keyOf Try.prog 3 (.int .i64 (lab i)) = some (.int .i64 (lab i))) := ⟨keyOf_int_mk Try.underlying3 (HL.out i)⟩
      have hbl : i < (nmB lab i).length := by rw [nmB_len]; exact hi8
      have zc : wr.cell? ⟨w.heap.size + 1 + 1, 1 + i, none⟩ = some (.int .u8 ((nmB lab i).getD i 0)) := by rw [cell_of_row _ _ _ _ _ _ HG.out]; exact par_at _ _ i hbl
      have zf : wr.frozen? ⟨w.heap.size + 1 + 1, 1 + i, none⟩ = false := frozen_of_row _ _ _ _ _ HG.out
      have hwi : wrap64 ((i : Int) + 1) = ((i + 1 : Nat) : Int) := by unfold wrap64; omega
      have HWI := Aside0.mk hwi
      clear hwi
      go_wp2_with fail
      refine (HOF.out i (by omega) _ HB.out).mono ?_
      rintro e wr ⟨rfl, rfl⟩
      by_cases hS : lab i ∈ nmS lab i
      · have hh : Maps.has D (.int .i64 (lab i)) = true := by rw [HT.out.has]; exact decide_eq_true hS
        have hv := HT.out.key (lab i) hS
        have HX := Aside0.mk (show nmS lab (i + 1) = nmS lab i by rw [nmS, if_pos hS])
        go_wp2_with (at_lookup; refine wpList_lookup_own_ok_int _ rfl _ _ 48 rfl 3 5 .u8 lawK Try.underlying48 Try.underlying5 (zeroB _) (w.heap.size + 1) i D rfl HW.out _ _ rfl HK.out ?_; intro c hat hwc; rw [hh]; rw [hv] at hat; obtain rfl : ((nmS lab i).idxOf (lab i) : Int) = c := (by injection hat with hat; injection hat))
        have HGN := Aside0.mk (show (wr.setCell ⟨w.heap.size + 1 + 1, 1 + i, none⟩ (.int .u8 ((nmS lab i).idxOf (lab i) : Int))).heap[w.heap.size + 1 + 1]? = some (.cells (par n (nmB lab (i + 1))) 26 (0, 0)) by
          rw [heap_setCell_same wr (w.heap.size + 1 + 1) (1 + i) _ _ _ HG.out, par_set]; rfl)
        have HRN := Aside0.mk ((heap_setCell_other wr ⟨w.heap.size + 1 + 1, 1 + i, none⟩ w.heap.size (.int .u8 ((nmS lab i).idxOf (lab i) : Int)) (by show w.heap.size ≠ w.heap.size + 1 + 1; omega)).trans HR.out)
        have HWN := Aside0.mk ((ownsMap_move HW.out (heap_setCell_other wr ⟨w.heap.size + 1 + 1, 1 + i, none⟩ (w.heap.size + 1) (.int .u8 ((nmS lab i).idxOf (lab i) : Int)) (by show w.heap.size + 1 ≠ w.heap.size + 1 + 1; omega))).mono (Nat.le_succ i))
        have HBN := Aside0.mk (HB.out.setCell (p := ⟨w.heap.size + 1 + 1, 1 + i, none⟩) (by show w.heap.size ≤ w.heap.size + 1 + 1; omega) (.int .u8 ((nmS lab i).idxOf (lab i) : Int)))
        have HTN := Aside0.mk (show Tells D (nmS lab (i + 1)) by rw [HX.out]; exact HT.out)
        go_roundg dq
        case measure => omega
        case rel => exact ⟨i + 1, D, (by first | rfl | exact congrArg _ HWI.out), ⟨by omega⟩, HTN, HWN, HGN, HRN, HBN⟩
      · have hh : Maps.has D (.int .i64 (lab i)) = false := by rw [HT.out.has]; exact decide_eq_false hS
        have hzz : Maps.size D = (nmS lab i).length := HT.out.size
        have HX := Aside0.mk (show nmS lab (i + 1) = nmS lab i ++ [lab i] by rw [nmS, if_neg hS])
        have HID := Aside0.mk (show (nmS lab i).idxOf (lab i) = (nmS lab i).length from List.idxOf_eq_length hS)
        have HNS := Aside0.mk hS
        have HSL := Aside0.mk (show (nmS lab i).length ≤ 8 by have := nmS_len lab i; omega)
        have hw8 := u8_small HSL.out
        have hw9 : ((nmS lab i).length : Int) % 256 = ((nmS lab i).length : Int) := by have := HSL.out; omega
        clear hS
        go_wp2_with (first
          | (at_lookup; refine wpList_lookup_own_ok_int _ rfl _ _ 48 rfl 3 5 .u8 lawK Try.underlying48 Try.underlying5 (zeroB _) (w.heap.size + 1) i D rfl HW.out _ _ rfl HK.out ?_; intro c hat hwc; rw [hh]; clear hat hwc)
          | (at_len; refine wpList_len_own _ rfl _ 48 rfl 3 5 Try.underlying48 _ (w.heap.size + 1) i D rfl HW.out ?_; rw [hzz]))
        refine (HOF.out i (by omega) _ HB.out).mono ?_
        rintro e wr ⟨rfl, rfl⟩
        clear hmm hzz hh zc zf
        go_wp2_with (at_mapUpdate; refine wpList_mapUpdate_own _ rfl _ _ _ 48 rfl 3 5 lawK Try.underlying48 _ (w.heap.size + 1) i D rfl HW.out (by unfold maxLen; omega) _ _ _ rfl rfl HK.out _ [] (plainElem_int Try.underlying5 (u8_wf HSL.out)) ?_; intro w1 hown1 hgrow1; have HL2 := Aside0.mk (show w.heap.size + 1 + 1 < wr.heap.size from (Array.getElem?_eq_some_iff.1 HG.out).1); have HG1 := Aside0.mk ((hgrow1.block (w.heap.size + 1 + 1) HL2.out (by intro e; injection e with e; omega)).trans HG.out); have HR1 := Aside0.mk ((hgrow1.block w.heap.size (by have := HL2.out; omega) (by intro e; injection e with e; omega)).trans HR.out); have HW1 := Aside0.mk hown1; have HB1 := Aside0.mk (HB.out.grown hgrow1 HB.out.size (fun j hj => by cases hj; omega)); have zc : w1.cell? ⟨w.heap.size + 1 + 1, 1 + i, none⟩ = some (.int .u8 ((nmB lab i).getD i 0)) := (by rw [cell_of_row _ _ _ _ _ _ HG1.out]; exact par_at _ _ i hbl); have zf : w1.frozen? ⟨w.heap.size + 1 + 1, 1 + i, none⟩ = false := frozen_of_row _ _ _ _ _ HG1.out; clear hown1 hgrow1)
        have HGN := Aside0.mk (show (w1.setCell ⟨w.heap.size + 1 + 1, 1 + i, none⟩ (.int .u8 ((nmS lab i).length : Int))).heap[w.heap.size + 1 + 1]? = some (.cells (par n (nmB lab (i + 1))) 26 (0, 0)) by
          rw [heap_setCell_same w1 (w.heap.size + 1 + 1) (1 + i) _ _ _ HG1.out, par_set, nmB, HID.out])
        have HRN := Aside0.mk ((heap_setCell_other w1 ⟨w.heap.size + 1 + 1, 1 + i, none⟩ w.heap.size (.int .u8 ((nmS lab i).length : Int)) (by show w.heap.size ≠ w.heap.size + 1 + 1; omega)).trans HR1.out)
        have HWN := Aside0.mk (ownsMap_move HW1.out (heap_setCell_other w1 ⟨w.heap.size + 1 + 1, 1 + i, none⟩ (w.heap.size + 1) (.int .u8 ((nmS lab i).length : Int)) (by show w.heap.size + 1 ≠ w.heap.size + 1 + 1; omega)))
        have HBN := Aside0.mk (HB1.out.setCell (p := ⟨w.heap.size + 1 + 1, 1 + i, none⟩) (by show w.heap.size ≤ w.heap.size + 1 + 1; omega) (.int .u8 ((nmS lab i).length : Int)))
        have HTN := Aside0.mk (show Tells (D.put (.int .i64 (lab i)) (.lit (.int .u8 ((nmS lab i).length : Int)))) (nmS lab (i + 1)) by rw [HX.out]; exact HT.out.put (HL.out i) HNS.out)
        go_roundg dq
        case measure => omega
        case rel => exact ⟨i + 1, _, (by first | rfl | exact congrArg _ HWI.out), ⟨by omega⟩, HTN, HWN, HGN, HRN, HBN⟩
end Go.Proofs.Ytkpjmphglnnmiaa.Hand
