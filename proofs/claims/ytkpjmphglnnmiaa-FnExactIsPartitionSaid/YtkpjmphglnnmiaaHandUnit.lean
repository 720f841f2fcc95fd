/- The contracts of spec.l07One and of both UnitPartition, and the walk of the law. No condition. -/
import Derived.Test.YtkpjmphglnnmiaaHandTold
import Derived.Deep.AppendLies
import Derived.Maps.AppendAt
namespace Go.Proofs.Ytkpjmphglnnmiaa.Hand
open Go.RowKit Go.Proofs.YtkpjmphglnnmiaaW.PrintWords Go.Proofs.YtkpjmphglnnmiaaW.PrintLast Go.Proofs.YtkpjmphglnnmiaaW.PrintMore
set_option linter.unusedVariables false
set_option linter.unusedSimpArgs false

theorem infoI64 : (Try.prog.info? 2).map (fun i => (i.zero, i.size, i.bytes)) = some (some (.int .i64 0), 1, 8) := by kernel_rfl
/-- The labels of the unit's first m places. -/
def lb (n m : Nat) : List Int := (List.range m).map fun i => ((i % n : Nat) : Int)
theorem lb_len (n m : Nat) : (lb n m).length = m := by simp [lb]
theorem lb_succ (n m : Nat) : lb n (m + 1) = lb n m ++ [((m % n : Nat) : Int)] := by unfold lb; rw [List.range_succ, List.map_append]; rfl
theorem td_len (lab : List Int) : ∀ (d i : Nat) (b : List Int) (cnt : Nat), b.length = 8 → (td lab d i b cnt).length = 8
  | 0, _, b, _, h => h
  | d + 1, i, b, cnt, h => by rw [td]; exact td_len lab d _ _ _ (by rw [List.length_set]; exact h)
set_option maxHeartbeats 8000000 in
set_option maxRecDepth 100000 in
theorem one_calls (n : Nat) (h1 : 1 ≤ n) (hn : n ≤ 4) (w : World) :
    Calls Try.prog 24 #[.int .i64 (n : Int)] w fun e w' => e = .returned (.agg (par n (td (lb n (2 * n)) (2 * n) 0 (List.replicate 8 0) 0))) ∧ Below w.heap.size w w' := by
  have HN := Aside0.mk hn
  have HN1 := Aside0.mk h1
  obtain ⟨m, hm⟩ : ∃ m, 2 * n = m := ⟨_, rfl⟩
  have hw2 : wrap64 (2 * (n : Int)) = (m : Int) := by unfold wrap64; omega
  have HM := Aside0.mk (show m ≤ 8 by omega)
  have HMM := Aside0.mk hm
  rw [hm]
  have pz : ((n : Int) == 0) = false := by rw [beq_eq_false_iff_ne]; omega
  have pz2 : ((n : Int) = 0) = False := eq_false (by omega)
  have n0 : (0 : Int) ≤ (n : Int) := by omega
  have pz3 : (n == 0) = false := by rw [beq_eq_false_iff_ne]; omega
  have pz4 : (n = 0) = False := eq_false (by omega)
  clear hn h1 hm
  go_enter Try.func24, Try.ntmps24
  go_wp2_with ((with_reducible refine gate_dst (N := 5) rfl ?_); refine Kd.R_lit (Kd.int .i64) _ 2 ?hg (N := 5) ?hd (xs := ([] : List Int)) (inner := []) (ok := fun _ => True) (okp := fun _ => True) ?hr ?hp (fun _ hk => hk) trivial (Below.refl _ _) (Nat.le_refl _) (by simp) ?_; (case hd => rfl); (case hg => rfl); (case hr => first | (go_simp; done) | (go_simp; rfl)); (case hp => exact (Reps.none _ _)); intro v139 w6 ho7 hb hg_ hnew_; clear hg_ hnew_; have HO := Aside0.mk ho7; have HB6 := Aside0.mk hb; clear ho7 hb)
  have HZ := Aside0.mk (show w6.heap[w.heap.size]? = some (.cells (par 0 (List.replicate 8 0)) 26 (0, 0)) from (HB6.out.block w.heap.size (by simp)).trans (heap_alloc_new w _))
  have HB := Aside0.mk (show Below w.heap.size w w6 from below_step ((Below.refl _ w).alloc (Nat.le_refl _) _) HB6.out)
  have HO2 := Aside0.mk (Kd.R_lower HO.out (show w.heap.size ≤ (w.alloc (.cells (par 0 (List.replicate 8 0)) 26)).heap.size by simp))
  clear HO HB6
  go_loopg [3, 4] m (fun dq v3 v4 w' => ∃ (i : Nat), v4 = .int .i64 (i : Int) ∧ Aside0 (i + dq = m) ∧ Aside0 (Kd.R (Kd.int .i64) 2 w' w.heap.size (fun k => k ≠ w.heap.size) v3 (lb n i)) ∧ Aside0 (w'.heap[w.heap.size]? = some (.cells (par 0 (List.replicate 8 0)) 26 (0, 0))) ∧ Aside0 (Below w.heap.size w w'))
  case atStart => exact ⟨0, rfl, ⟨by omega⟩, ⟨Kd.R_mono (Kd.R_types HO2.out HZ.out (by decide)) (fun _ h => h.2)⟩, HZ, HB⟩
  case round =>
    clear HO2 HZ HB
    obtain ⟨i, rfl, HI, HO, HZ, HB⟩ := hrel
    cases gk with
    | zero =>
      have hi := HI.out
      have c1 : decide ((i : Int) < (m : Int)) = false := decide_eq_false (by omega)
      have c2 : decide (i < m) = false := decide_eq_false (by omega)
      have him : i = m := by omega
      have ho := HO.out
      rw [him] at ho
      obtain ⟨g, cap, hv, hb, hlt, _⟩ := Kd.R_form ho (by rw [lb_len]; have := HN1.out; have := HMM.out; omega)
      subst hv
      have HT := Aside0.mk (told_calls n HN.out (lb n m) g cap wr (by rw [lb_len, HMM.out]) hlt (fun j hj => by
        have := (Kd.R_celln (0 : Int) ho (j : Int) (by omega) (by rw [lb_len]; have := HMM.out; omega)).1
        rw [Int.toNat_natCast] at this
        exact this))
      rw [HMM.out] at HT
      have HSZ := Aside0.mk (show w.heap.size < wr.heap.size from (Array.getElem?_eq_some_iff.1 HZ.out).1)
      clear ho hb hlt him HO
      go_wp2_with fail
      refine HT.out.mono ?_
      rintro e w1 ⟨rfl, hb1⟩
      have HZ1 := Aside0.mk ((hb1.block w.heap.size HSZ.out).trans HZ.out)
      have HB1 := Aside0.mk (below_step HB.out hb1)
      clear hb1 HT
      obtain ⟨bb, hbb⟩ : ∃ bb, td (lb n m) m 0 (List.replicate 8 0) 0 = bb := ⟨_, rfl⟩
      rw [hbb]
      have HLL := Aside0.mk (show bb.length = 8 by rw [← hbb]; exact td_len _ _ _ _ _ rfl)
      have HI2 := Aside0.mk (show (Try.prog.info? 26).map (·.size) = some (par (n : Int) bb).size by rw [par_size, HLL.out]; exact sizePar)
      have HI0 := Aside0.mk (show (par 0 (List.replicate 8 0)).size = (par (n : Int) bb).size by rw [par_size, par_size, HLL.out]; rfl)
      have HBE := Aside0.mk hbb
      clear hbb
      go_wp2_with (refine wpList_store_row rfl 26 _ _ rfl w.heap.size (par n bb) rfl rfl 26 (par 0 (List.replicate 8 0)) HZ1.out HI2.out HI0.out (par_one _ _) ?_)
      refine bodyPost_ret (results_cell_row rfl _ _ w.heap.size 26 _ (0, 0) _ rfl (setRow_heap _ _ _ _ _ _ HZ1.out) Try.underlying26 rfl HI2.out) rfl ⟨by rw [HBE.out], below_setRow HB1.out (Nat.le_refl _)⟩
    | succ dq =>
      have hi := HI.out
      have c1 : decide ((i : Int) < (m : Int)) = true := decide_eq_true (by omega)
      have c2 : decide (i < m) = true := decide_eq_true (by omega)
      have p1 : (0 : Int) ≤ (i : Int) := by omega
      obtain ⟨x, hx⟩ : ∃ x, ((i % n : Nat) : Int) = x := ⟨_, rfl⟩
      have ex : (i : Int) % (n : Int) = x := by rw [← hx]; exact (Int.natCast_emod i n).symm ▸ rfl
      have ex2 : Int.tmod (i : Int) (n : Int) = x := by rw [Int.tmod_eq_emod_of_nonneg (by omega)]; exact ex
      have HX := Aside0.mk hx
      have HLN := Aside0.mk (show ((lb n i).length + 1) * 8 ≤ 140737488355328 by rw [lb_len]; have := HM.out; omega)
      have hwi : wrap64 ((i : Int) + 1) = ((i + 1 : Nat) : Int) := by have := HM.out; unfold wrap64; omega
      have HWI := Aside0.mk hwi
      clear hwi hx
      go_wp2_with ((with_reducible refine gate_builtin (b := .append) (xs := #[.tmp 12, .tmp 16]) rfl ?_); at_builtin; refine Kd.R_append (Kd.int .i64) (w0 := w) w.heap.size rfl (.tmp 12) (.tmp 16) 51 2 (.int .i64 0) 8 rfl Try.underlying51 infoI64 rfl (by decide) (by omega) u3 (lb n i) x [.int .i64 x] (fun k => k ≠ w.heap.size) (fun _ => False) rfl rfl rfl (fun _ hk => hk.elim) (fun k hk => by have h_ := (Array.getElem?_eq_some_iff.1 HZ.out).1; omega) HO.out HB.out (below_size HB.out) HLN.out ?_; intro v155 w10 ho hb hg hat; rw [← HX.out, ← lb_succ] at ho; have HZ2 := Aside0.mk ((hg.block w.heap.size (Array.getElem?_eq_some_iff.1 HZ.out).1 (fun e => HO.out.1 _ e.symm rfl)).trans HZ.out); have n0_ := Aside0.mk (hb); have n1_ := Aside0.mk (ho); clear HB; clear HO; clear HZ; have HB := n0_; have HO := n1_; have HZ := HZ2; clear n0_ n1_ HZ2; clear ho hb hg hat)
      go_roundg dq
      case measure => omega
      case rel => exact ⟨i + 1, (by first | rfl | exact congrArg _ HWI.out), ⟨by omega⟩, HO, HZ, HB⟩
end Go.Proofs.Ytkpjmphglnnmiaa.Hand
