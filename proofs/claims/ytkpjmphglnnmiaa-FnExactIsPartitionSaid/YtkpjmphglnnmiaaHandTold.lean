/- The contracts of spec.l07Told and spec.l07One. Condition: said in the theorems. -/
import Derived.Test.YtkpjmphglnnmiaaHandNamed
import Derived.Deep.QuietTactic
import Derived.BigQuiet
namespace Go.Proofs.Ytkpjmphglnnmiaa.Hand
open Go.RowKit Go.Proofs.YtkpjmphglnnmiaaW.PrintWords Go.Proofs.YtkpjmphglnnmiaaW.PrintLast
set_option linter.unusedVariables false
set_option linter.unusedSimpArgs false

/-- The name of the place i: that of the first place with its label from k on, or the next name. -/
def tdK (lab b : List Int) (i cnt : Nat) : Nat → Nat → Int
  | 0, _ => (cnt : Int)
  | d + 1, k => if lab.getD k 0 = lab.getD i 0 then b.getD k 0 else tdK lab b i cnt d (k + 1)
def td (lab : List Int) : Nat → Nat → List Int → Nat → List Int
  | 0, _, b, _ => b
  | d + 1, i, b, cnt => td lab d (i + 1) (b.set i (tdK lab b i cnt i 0)) (if tdK lab b i cnt i 0 = (cnt : Int) then cnt + 1 else cnt)
/-- Bytes of names. -/
def Sm (b : List Int) : Prop := b.length = 8 ∧ ∀ x ∈ b, 0 ≤ x ∧ x ≤ 8
theorem Sm.at {b : List Int} (h : Sm b) (k : Nat) : 0 ≤ b.getD k 0 ∧ b.getD k 0 ≤ 8 := by
  rw [List.getD_eq_getElem?_getD]
  cases he : b[k]? with
  | none => simp
  | some x => exact h.2 x (List.mem_of_getElem? he)
theorem Sm.set {b : List Int} (h : Sm b) (i : Nat) {x : Int} (h0 : 0 ≤ x) (h8 : x ≤ 8) : Sm (b.set i x) := by
  refine ⟨by rw [List.length_set]; exact h.1, fun y hy => ?_⟩
  rcases List.mem_or_eq_of_mem_set hy with h1 | rfl
  · exact h.2 y h1
  · exact ⟨h0, h8⟩
theorem Sm.tdK {b : List Int} (h : Sm b) (lab : List Int) (i cnt : Nat) (hc : cnt ≤ 8) : ∀ d k, 0 ≤ tdK lab b i cnt d k ∧ tdK lab b i cnt d k ≤ 8
  | 0, k => by rw [Hand.tdK]; omega
  | d + 1, k => by
    rw [Hand.tdK]
    split
    · exact h.at k
    · exact Sm.tdK h lab i cnt hc d (k + 1)
theorem u8_wrap {x : Int} (h0 : 0 ≤ x) (h : x ≤ 9) : IntKind.u8.wrap x = x := by unfold IntKind.wrap; simp [IntKind.bits, IntKind.signed]; omega
set_option maxHeartbeats 8000000 in
set_option maxRecDepth 100000 in
theorem told_calls (n : Nat) (hn : n ≤ 4) (lab : List Int) (g cap : Nat) (w : World) (hl : lab.length = 2 * n) (hg : g < w.heap.size) (hc : ∀ j, j < 2 * n → w.cell? ⟨g, j, none⟩ = some (.int .i64 (lab.getD j 0))) :
    Calls Try.prog 30 #[.int .i64 (n : Int), .slice (some ⟨g, 0, none⟩) lab.length cap] w fun e w' => e = .returned (.agg (par n (td lab (2 * n) 0 (List.replicate 8 0) 0))) ∧ Below w.heap.size w w' := by
  obtain ⟨m, hm⟩ : ∃ m, 2 * n = m := ⟨_, rfl⟩
  rw [hm] at hl hc
  rw [hl, hm]
  have HM := Aside0.mk (show m ≤ 8 by omega)
  have HMM := Aside0.mk hm
  have HC := Aside0.mk hc
  have HG := Aside0.mk hg
  have hw2 : wrap64 (2 * (n : Int)) = (m : Int) := by unfold wrap64; omega
  obtain ⟨R, hR⟩ : ∃ R, td lab m 0 (List.replicate 8 0) 0 = R := ⟨_, rfl⟩
  rw [hR]
  have HR := Aside0.mk hR
  clear hn hl hg hc hm hR
  go_enter Try.func30, Try.ntmps30
  go_wp2
  go_loopg [6, 7] m (fun dq v6 v7 w' => ∃ (i cnt : Nat) (b : List Int), v6 = .int .u8 (cnt : Int) ∧ v7 = .int .i64 (i : Int) ∧ Aside0 (i + dq = m) ∧ Aside0 (cnt ≤ i) ∧ Aside0 (Sm b) ∧ Aside0 (td lab dq i b cnt = R) ∧ Aside0 (w'.heap[w.heap.size + 1]? = some (.cells (par n b) 26 (0, 0))) ∧ Aside0 (w'.heap[w.heap.size]? = some (.cells (par 0 (List.replicate 8 0)) 26 (0, 0))) ∧ Aside0 (Below w.heap.size w w'))
  case atStart => exact ⟨0, 0, List.replicate 8 0, rfl, rfl, ⟨by omega⟩, ⟨by omega⟩, ⟨rfl, fun x hx => by rw [List.eq_of_mem_replicate hx]; omega⟩, HR, ⟨heap_alloc2_new _ _ _⟩, ⟨heap_alloc2_old _ _ _⟩, ⟨((Below.refl _ w).alloc (Nat.le_refl _) _).alloc (by simp) _⟩⟩
  case round =>
    clear HR
    obtain ⟨i, cnt, b, rfl, rfl, HI, HN, HS, HR, HP, HZ, HB⟩ := hrel
    cases gk with
    | zero =>
      have hi := HI.out
      have c1 : decide ((i : Int) < (m : Int)) = false := decide_eq_false (by omega)
      have c2 : decide (i < m) = false := decide_eq_false (by omega)
      have e : b = R := HR.out
      subst e
      have HZ1 := Aside0.mk (show (Try.prog.info? 26).map (·.size) = some (par (n : Int) b).size by rw [par_size, HS.out.1]; exact sizePar)
      have HZ0 := Aside0.mk (show (par 0 (List.replicate 8 0)).size = (par (n : Int) b).size by rw [par_size, par_size, HS.out.1]; rfl)
      clear HR
      go_wp2_with (first | (refine wpList_load_row rfl 26 _ rfl (w.heap.size + 1) rfl 26 (par n b) (0, 0) _ HP.out Try.underlying26 rfl HZ1.out ?_) | (refine wpList_store_row rfl 26 _ _ rfl w.heap.size (par n b) rfl rfl 26 (par 0 (List.replicate 8 0)) HZ.out HZ1.out HZ0.out (par_one _ _) ?_))
      refine bodyPost_ret (results_cell_row rfl _ _ w.heap.size 26 _ (0, 0) _ rfl (setRow_heap _ _ _ _ _ _ HZ.out) Try.underlying26 rfl HZ1.out) rfl ⟨rfl, below_setRow HB.out (Nat.le_refl _)⟩
    | succ dq =>
      have hi := HI.out
      have hi8 : i < 8 := by have := HM.out; omega
      have c1 : decide ((i : Int) < (m : Int)) = true := decide_eq_true (by omega)
      have c2 : decide (i < m) = true := decide_eq_true (by omega)
      have p1 := eq_true (show (0 : Int) ≤ (i : Int) by omega)
      have p2 := eq_true (show (i : Int) < (m : Int) by omega)
      have p3 := eq_true (show (i : Int) < 8 by omega)
      have hr := HR.out
      rw [td] at hr
      obtain ⟨u, hu⟩ : ∃ u, tdK lab b i cnt i 0 = u := ⟨_, rfl⟩
      have HU := Aside0.mk hu
      have HUR := Aside0.mk (show 0 ≤ u ∧ u ≤ 8 by rw [← hu]; exact Sm.tdK HS.out lab i cnt (by have := HN.out; omega) i 0)
      rw [hu] at hr
      have HRN := Aside0.mk hr
      have hwi : wrap64 ((i : Int) + 1) = ((i + 1 : Nat) : Int) := by unfold wrap64; omega
      have HWI := Aside0.mk hwi
      clear hr hu HR hwi
      go_wp2_with fail
      obtain ⟨wo, hwo⟩ : ∃ wo, wr = wo := ⟨_, rfl⟩
      rw [hwo] at HP HZ HB
      go_loopg [8, 9] i (fun eq v8 v9 w' => ∃ (k q : Nat), v8 = .int .u8 (cnt : Int) ∧ v9 = .int .i64 (k : Int) ∧ Aside0 (k + eq = i) ∧ Aside0 (tdK lab b i cnt eq k = u) ∧ w' = wo.drewN q)
      case atStart => exact ⟨0, 0, rfl, rfl, ⟨by omega⟩, HU, hwo⟩
      case round =>
        clear HU
        obtain ⟨k, q, rfl, rfl, HK, HU, rfl⟩ := hrel
        have HPQ := Aside0.mk (show (wo.drewN q).heap[w.heap.size + 1]? = some (.cells (par n b) 26 (0, 0)) from HP.out)
        have HZQ := Aside0.mk (show (wo.drewN q).heap[w.heap.size]? = some (.cells (par 0 (List.replicate 8 0)) 26 (0, 0)) from HZ.out)
        have HBQ := Aside0.mk (pw_below_drewN HB.out q)
        obtain ⟨wn, hwn⟩ : ∃ wn, wo.drewN q = wn := ⟨_, rfl⟩
        rw [hwn] at HPQ HZQ HBQ ⊢
        have HWN := Aside0.mk hwn
        clear hwn
        cases gk with
        | zero =>
          have hk := HK.out
          have d1 : decide ((k : Int) < (i : Int)) = false := decide_eq_false (by omega)
          have d2 : decide (k < i) = false := decide_eq_false (by omega)
          have e : (cnt : Int) = u := HU.out
          subst e
          have hbl : i < b.length := by rw [HS.out.1]; exact hi8
          have zc : wn.cell? ⟨w.heap.size + 1, 1 + i, none⟩ = some (.int .u8 (b.getD i 0)) := by rw [cell_of_row _ _ _ _ _ _ HPQ.out]; exact par_at _ _ i hbl
          have zf : wn.frozen? ⟨w.heap.size + 1, 1 + i, none⟩ = false := frozen_of_row _ _ _ _ _ HPQ.out
          have HGN := Aside0.mk (show (wn.setCell ⟨w.heap.size + 1, 1 + i, none⟩ (.int .u8 (cnt : Int))).heap[w.heap.size + 1]? = some (.cells (par n (b.set i (cnt : Int))) 26 (0, 0)) by
            rw [heap_setCell_same wn (w.heap.size + 1) (1 + i) _ _ _ HPQ.out, par_set])
          have HZN := Aside0.mk ((heap_setCell_other wn ⟨w.heap.size + 1, 1 + i, none⟩ w.heap.size (.int .u8 (cnt : Int)) (by show w.heap.size ≠ w.heap.size + 1; omega)).trans HZQ.out)
          have HBN := Aside0.mk (HBQ.out.setCell (p := ⟨w.heap.size + 1, 1 + i, none⟩) (by show w.heap.size ≤ w.heap.size + 1; omega) (.int .u8 (cnt : Int)))
          have HSN := Aside0.mk (HS.out.set i HUR.out.1 HUR.out.2)
          have e1 : ((cnt : Int) == (cnt : Int)) = true := by first | exact beq_self_eq_true _ | exact beq_iff_eq.2 huc
          have hw8 : IntKind.u8.wrap ((cnt : Int) + 1) = ((cnt + 1 : Nat) : Int) := by rw [u8_wrap (by omega) (by have := HN.out; omega)]; omega
          have hw9 : ((cnt : Int) + 1) % 256 = ((cnt + 1 : Nat) : Int) := by have := HN.out; omega
          have hrn := HRN.out
          rw [if_pos (by first | rfl | exact huc)] at hrn
          have HRR := Aside0.mk hrn
          clear hrn
          go_wp2_with fail
          go_roundg dq
          case measure => omega
          case rel => exact ⟨i + 1, cnt + 1, b.set i (cnt : Int), (by first | rfl | (simp; done)), (by first | rfl | exact congrArg _ HWI.out), ⟨by omega⟩, ⟨by have := HN.out; omega⟩, HSN, HRR, HGN, HZN, HBN⟩
        | succ eq =>
          have hk := HK.out
          have d1 : decide ((k : Int) < (i : Int)) = true := decide_eq_true (by omega)
          have d2 : decide (k < i) = true := decide_eq_true (by omega)
          have q1 := eq_true (show (0 : Int) ≤ (k : Int) by omega)
          have q2 := eq_true (show (k : Int) < (m : Int) by omega)
          have q3 := eq_true (show (k : Int) < 8 by omega)
          have z1 : wn.cell? ⟨g, k, none⟩ = some (.int .i64 (lab.getD k 0)) := (HBQ.out.cell (p := ⟨g, k, none⟩) HG.out).trans (HC.out k (by omega))
          have z2 : wn.cell? ⟨g, i, none⟩ = some (.int .i64 (lab.getD i 0)) := (HBQ.out.cell (p := ⟨g, i, none⟩) HG.out).trans (HC.out i (by omega))
          have hwk : wrap64 ((k : Int) + 1) = ((k + 1 : Nat) : Int) := by unfold wrap64; omega
          have HWK := Aside0.mk hwk
          clear hwk
          have hu := HU.out
          rw [tdK] at hu
          generalize lab.getD k 0 = xk at z1 hu
          generalize lab.getD i 0 = xi at z2 hu
          by_cases hx : xk = xi
          · rw [if_pos hx] at hu
            have hx1 : (xk == xi) = true := by rw [beq_iff_eq]; exact hx
            have zk : wn.cell? ⟨w.heap.size + 1, 1 + k, none⟩ = some (.int .u8 u) := by rw [cell_of_row _ _ _ _ _ _ HPQ.out, ← hu]; exact par_at _ _ k (by rw [HS.out.1]; omega)
            clear hu HU hx
            go_wp2_with fail
            go_quiet (fail)
            obtain ⟨wq, hwq⟩ : ∃ wq, wn.drewN nq = wq := ⟨_, rfl⟩
            rw [hwq]
            have HPR := Aside0.mk (show wq.heap[w.heap.size + 1]? = some (.cells (par n b) 26 (0, 0)) by rw [← hwq]; exact HPQ.out)
            have HZR := Aside0.mk (show wq.heap[w.heap.size]? = some (.cells (par 0 (List.replicate 8 0)) 26 (0, 0)) by rw [← hwq]; exact HZQ.out)
            have HBR := Aside0.mk (show Below w.heap.size w wq by rw [← hwq]; exact pw_below_drewN HBQ.out nq)
            have zk2 : wq.cell? ⟨w.heap.size + 1, 1 + k, none⟩ = some (.int .u8 u) := by rw [← hwq]; exact zk
            clear zk z1 z2 HPQ HZQ HBQ hwq
            have HPQ := HPR
            have HZQ := HZR
            have HBQ := HBR
            clear HPR HZR HBR
            have hbl : i < b.length := by rw [HS.out.1]; exact hi8
            have zc : wq.cell? ⟨w.heap.size + 1, 1 + i, none⟩ = some (.int .u8 (b.getD i 0)) := by rw [cell_of_row _ _ _ _ _ _ HPQ.out]; exact par_at _ _ i hbl
            have zf : wq.frozen? ⟨w.heap.size + 1, 1 + i, none⟩ = false := frozen_of_row _ _ _ _ _ HPQ.out
            have HGN := Aside0.mk (show (wq.setCell ⟨w.heap.size + 1, 1 + i, none⟩ (.int .u8 u)).heap[w.heap.size + 1]? = some (.cells (par n (b.set i u)) 26 (0, 0)) by
              rw [heap_setCell_same wq (w.heap.size + 1) (1 + i) _ _ _ HPQ.out, par_set])
            have HZN := Aside0.mk ((heap_setCell_other wq ⟨w.heap.size + 1, 1 + i, none⟩ w.heap.size (.int .u8 u) (by show w.heap.size ≠ w.heap.size + 1; omega)).trans HZQ.out)
            have HBN := Aside0.mk (HBQ.out.setCell (p := ⟨w.heap.size + 1, 1 + i, none⟩) (by show w.heap.size ≤ w.heap.size + 1; omega) (.int .u8 u))
            have HSN := Aside0.mk (HS.out.set i HUR.out.1 HUR.out.2)
            by_cases huc : u = (cnt : Int)
            · have e1 : (u == (cnt : Int)) = true := by first | exact beq_self_eq_true _ | exact beq_iff_eq.2 huc
              have hw8 : IntKind.u8.wrap ((cnt : Int) + 1) = ((cnt + 1 : Nat) : Int) := by rw [u8_wrap (by omega) (by have := HN.out; omega)]; omega
              have hw9 : ((cnt : Int) + 1) % 256 = ((cnt + 1 : Nat) : Int) := by have := HN.out; omega
              have hrn := HRN.out
              rw [if_pos (by first | rfl | exact huc)] at hrn
              have HRR := Aside0.mk hrn
              clear hrn
              have HUC := Aside0.mk huc
              clear huc
              go_wp2_with fail
              go_roundg dq
              case measure => omega
              case rel => exact ⟨i + 1, cnt + 1, b.set i u, (by first | rfl | (simp; done)), (by first | rfl | exact congrArg _ HWI.out), ⟨by omega⟩, ⟨by have := HN.out; omega⟩, HSN, HRR, HGN, HZN, HBN⟩
            · have e1 : (u == (cnt : Int)) = false := by rw [beq_eq_false_iff_ne]; exact huc
              have hrn := HRN.out
              rw [if_neg huc] at hrn
              have HRR := Aside0.mk hrn
              clear hrn huc
              go_wp2_with fail
              go_roundg dq
              case measure => omega
              case rel => exact ⟨i + 1, cnt, b.set i u, rfl, (by first | rfl | exact congrArg _ HWI.out), ⟨by omega⟩, ⟨by have := HN.out; omega⟩, HSN, HRR, HGN, HZN, HBN⟩
          · rw [if_neg hx] at hu
            have hx1 : (xk == xi) = false := by rw [beq_eq_false_iff_ne]; exact hx
            have HU2 := Aside0.mk hu
            clear hu HU hx
            go_wp2_with fail
            go_quiet (fail)
            go_wp2_with fail
            go_roundg eq
            case measure => omega
            case rel => exact ⟨k + 1, q + nq, rfl, (by first | rfl | exact congrArg _ HWK.out), ⟨by omega⟩, HU2, (by rw [← HWN.out]; exact World.drewN_drewN _ _ _)⟩
end Go.Proofs.Ytkpjmphglnnmiaa.Hand
