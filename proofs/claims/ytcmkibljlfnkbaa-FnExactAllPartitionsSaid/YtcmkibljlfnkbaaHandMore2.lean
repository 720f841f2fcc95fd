/- The contract of the closure of impl.allPartitions that calls itself. Condition: said in the theorem. -/
import Derived.Test.YtcmkibljlfnkbaaHandMore
namespace Go.Proofs.Ytcmkibljlfnkbaa.Hand
open Go.RowKit Go.Proofs.YtcmkibljlfnkbaaW.PrintWords Go.Proofs.YtcmkibljlfnkbaaW.PrintLast Go.Proofs.YtcmkibljlfnkbaaW.PrintMore
attribute [local go_sem] max2_int min2_int max_two min_two
set_option linter.unusedVariables false
set_option linter.unusedSimpArgs false

theorem St.alloc {N bn bd bm bo base : Nat} {w : World} {v : Value} {xs : List (List Int)} (h : St N bn bd bm bo base w v xs) (o : Obj) : St N bn bd bm bo base (w.alloc o) v xs := by
  have lt : ∀ {g : Nat} {o : Obj}, w.heap[g]? = some o → g < w.heap.size := fun h => (Array.getElem?_eq_some_iff.1 h).1
  exact h.step (Ext.of (Grow.alloc w v o)) ((Below.heap_alloc w o bo (lt h.ho)).trans h.ho) (parR_move h.hr (fun k hk => Below.heap_alloc w o k (Kd.R_lt h.hr k hk)))
theorem St.setB {N bn bd bm bo base : Nat} {w : World} {v : Value} {xs : List (List Int)} (h : St N bn bd bm bo base w v xs) {p : Addr} (u : Value) (h1 : p.block ≠ bn) (h2 : p.block ≠ bd) (h3 : p.block ≠ bm) (h4 : p.block ≠ bo) (h5 : v.ownBlock ≠ some p.block) : St N bn bd bm bo base (w.setCell p u) v xs :=
  ⟨(heap_setCell_other w p bn u (Ne.symm h1)).trans h.hn, (heap_setCell_other w p bd u (Ne.symm h2)).trans h.hd, (heap_setCell_other w p bm u (Ne.symm h3)).trans h.hm, (heap_setCell_other w p bo u (Ne.symm h4)).trans h.ho,
    parR_move h.hr (fun k hk => heap_setCell_other w p k u (fun e => h5 (by rw [hk]; exact congrArg some e))), h.vn, h.vd, h.vm, h.vo, h.on, h.od, h.om, by simp [World.setCell]; exact h.hs⟩
set_option maxHeartbeats 8000000 in
set_option maxRecDepth 100000 in
theorem more_calls (N bn bd bm bo base : Nat) (hN : N ≤ 3) : ∀ (d k nx : Nat) (b : List Int) (v : Value) (xs : List (List Int)) (w : World), k + d = 2 * N → b.length = 8 → nx ≤ k → xs.length + cap7 d ≤ 1000000 → St N bn bd bm bo base w v xs →
    Calls Try.prog 16 #[.agg (par N b), .int .i64 (k : Int), .int .u8 (nx : Int), .pointer (some ⟨bn, 0, none⟩), .pointer (some ⟨bd, 0, none⟩), .pointer (some ⟨bm, 0, none⟩)] w fun e w' => e = .returned (.tuple #[]) ∧ ∃ v', St N bn bd bm bo base w' v' (xs ++ fl d k b nx) ∧ Ext bo w w' v v' := by
  intro d
  induction d with
  | zero =>
    intro k nx b v xs w hk hb hnx hl hst
    have HS := Aside0.mk hst
    have hsa := hst.alloc (.cells (par N b) 33)
    have HSA := Aside0.mk hsa
    have HA := Aside0.mk (show (w.alloc (.cells (par N b) 33)).heap[w.heap.size]? = some (.cells (par N b) 33 (0, 0)) from heap_alloc_new w _)
    have c1 := (box_facts hsa.hn).1
    have c2 := (box_facts hsa.hd).1
    have e1 : ((k : Int) == 2 * (N : Int)) = true := beq_iff_eq.mpr (by omega)
    have hNb : N ≤ 3 := hN
    have hkb : k ≤ 6 := by omega
    have hi8 : (Try.prog.info? 33).map (·.size) = some (par N b).size := by rw [par_size, hb]; exact sizePar
    have HI9 := Aside0.mk hi8
    have HC := Aside0.mk (do_calls N bo base b hb v xs (w.alloc (.cells (par N b) 33)) hsa.ho hsa.vo (by unfold cap7 at hl; omega) hsa.hs hsa.hr)
    clear hst hsa hk hb hnx hl hi8
    go_enter Try.func16, Try.ntmps16
    go_wp2_with (refine wpList_load_row_halt rfl 33 _ rfl w.heap.size rfl 33 (par N b) (0, 0) _ HA.out Try.underlying33 rfl HI9.out ?_)
    intro W5 hW5
    obtain rfl := hW5.eq
    refine Halt.mk ?_
    go_wp2_with fail
    refine HC.out.mono ?_
    rintro e w2 ⟨rfl, v2, ho2, hr2, hx2⟩
    have HX := Aside0.mk (Ext.trans (Ext.of (bo := bo) (Grow.alloc w v (.cells (par N b) 33))) hx2)
    have HS2 := Aside0.mk (HSA.out.step hx2 ho2 hr2)
    clear ho2 hr2 hx2 HC c1 c2
    go_wp2
    refine bodyPost_ret (results_none rfl _ _ _) rfl ?_
    exact ⟨rfl, v2, HS2.out, HX.out⟩
  | succ d ih =>
    intro k nx b v xs w hk hb hnx hl hst
    have HL := Aside0.mk hl
    have HK := Aside0.mk hk
    have HNX := Aside0.mk hnx
    have HB8 := Aside0.mk hb
    have HI := Aside0.mk ih
    have hsa := hst.alloc (.cells (par N b) 33)
    have HSA := Aside0.mk hsa
    have lt : ∀ {g : Nat} {o : Obj}, w.heap[g]? = some o → g < w.heap.size := fun h => (Array.getElem?_eq_some_iff.1 h).1
    have HLT := Aside0.mk (show bn < w.heap.size ∧ bd < w.heap.size ∧ bm < w.heap.size ∧ bo < w.heap.size from ⟨lt hst.hn, lt hst.hd, lt hst.hm, lt hst.ho⟩)
    have e1 : ((k : Int) == 2 * (N : Int)) = false := beq_eq_false_iff_ne.mpr (by omega)
    have hkb : k ≤ 5 := by omega
    have hNb : N ≤ 3 := hN
    have hnb : nx ≤ 5 := by omega
    have HKB := Aside0.mk hkb
    have c1 := (box_facts hsa.hn).1
    have HA0 := Aside0.mk (show (w.alloc (.cells (par N b) 33)).heap[w.heap.size]? = some (.cells (par N b) 33 (0, 0)) from heap_alloc_new w _)
    have HG0 := Aside0.mk (Ext.of (bo := bo) (Grow.alloc w v (.cells (par N b) 33)))
    have HN0 := Aside0.mk (show v.ownBlock ≠ some w.heap.size from fun e => by have := Kd.R_lt hst.hr _ e; omega)
    clear hst hsa hl hk hnx hb ih lt
    obtain ⟨B, hB⟩ : ∃ B, B = w.heap.size := ⟨_, rfl⟩
    rw [← hB] at HA0 HN0 HLT
    go_enter Try.func16, Try.ntmps16
    have HBw := Aside0.mk hB
    clear hB
    go_wp2
    rw [← HBw.out]
    clear c1
    go_loopg [9] (nx + 1) (fun kq v9 w' => ∃ (v0 : Value) (m : Nat) (bc : List Int), v9 = .int .u8 (m : Int) ∧ Aside0 (kq + m = nx + 1) ∧ Aside0 (bc.length = 8) ∧ Aside0 (∀ x : Int, bc.set k x = b.set k x) ∧ Aside0 (w'.heap[B]? = some (.cells (par N bc) 33 (0, 0))) ∧ Aside0 (St N bn bd bm bo base w' v0 (xs ++ flTo d k b nx m)) ∧ Aside0 (Ext bo w w' v v0) ∧ Aside0 (v0.ownBlock ≠ some B))
    case atStart => exact ⟨v, 0, b, rfl, ⟨rfl⟩, HB8, ⟨fun _ => rfl⟩, HA0, ⟨by rw [show flTo d k b nx 0 = [] from rfl, List.append_nil]; exact HSA.out⟩, HG0, HN0⟩
    case round =>
      clear HA0 HSA HG0 HN0
      obtain ⟨v0, m, bc, rfl, E1, HB8', HS, HA, HR, HG, HN⟩ := hrel
      cases gk with
      | zero =>
        have d1b : decide ((m : Int) ≤ (nx : Int)) = false := decide_eq_false (by have := E1.out; omega)
        have d1b' : decide (m ≤ nx) = false := decide_eq_false (by have := E1.out; omega)
        have hm : m = nx + 1 := by have := E1.out; omega
        rw [hm] at HR
        clear hm
        go_wp2
        go_end0
        exact ⟨rfl, v0, HR.out, HG.out⟩
      | succ k1 =>
        have d1b : decide ((m : Int) ≤ (nx : Int)) = true := decide_eq_true (by have := E1.out; omega)
        have d1b' : decide (m ≤ nx) = true := decide_eq_true (by have := E1.out; omega)
        have hmn : m ≤ nx := by have := E1.out; omega
        have hc := HA.out
        have HA1 := Aside0.mk (show (wr.setCell ⟨B, 1 + k, none⟩ (.int .u8 (m : Int))).heap[B]? = some (.cells (par N (b.set k (m : Int))) 33 (0, 0)) by
          rw [heap_setCell_same wr B (1 + k) _ _ _ HA.out, par_row _ _ _ _ (by have := HB8'.out; have := HKB.out; omega), HS.out])
        have hs1 : St N bn bd bm bo base (wr.setCell ⟨B, 1 + k, none⟩ (.int .u8 (m : Int))) v0 (xs ++ flTo d k b nx m) := HR.out.setB (p := ⟨B, 1 + k, none⟩) _ (by have := HLT.out; show B ≠ bn; omega) (by have := HLT.out; show B ≠ bd; omega) (by have := HLT.out; show B ≠ bm; omega) (by have := HLT.out; show B ≠ bo; omega) HN.out
        have HS1 := Aside0.mk hs1
        have c3 := (box_facts hs1.hm).1
        have hk8 := eq_true (show (k : Int) < 8 by have := HKB.out; omega)
        have hk8' := eq_true (show k < 8 by have := HKB.out; omega)
        have hk0 := eq_true (show 0 ≤ (k : Int) by omega)
        have hcell : wr.cell? ⟨B, 1 + k, none⟩ = some (.int .u8 (bc.getD k 0)) := by
          rw [cell_of_row wr B (1 + k) _ _ _ hc]
          unfold par
          rw [List.getElem?_toArray, Nat.add_comm, List.getElem?_cons_succ, List.getElem?_map, List.getD_eq_getElem?_getD, List.getElem?_eq_getElem (by have := HB8'.out; have := HKB.out; omega)]
          rfl
        have hfro : wr.frozen? ⟨B, 1 + k, none⟩ = false := frozen_of_row wr B (1 + k) _ _ hc
        have hm5 : m ≤ 5 := by omega
        have HCNT := Aside0.mk (show (xs ++ flTo d k b nx m).length + cap7 d ≤ 1000000 by
          have h1 := HL.out
          unfold cap7 at h1
          have h2 := flTo_count d k nx b (cap7 d) (fun b' nx' hn' => fl_count d (k + 1) b' nx' (by have := HK.out; have := HNX.out; omega)) m
          have h3 : m * cap7 d ≤ 5 * cap7 d := Nat.mul_le_mul_right _ hm5
          rw [List.length_append]
          omega)
        by_cases cmn : m = nx
        · have m1 := eq_true (show (nx : Int) < (m : Int) + 1 by omega)
          have m2 := eq_true (show (nx : Int) ≤ (m : Int) by omega)
          have m3 := eq_true (show nx < m + 1 by omega)
          have m4 := eq_true (show nx ≤ m by omega)
          have HCM := Aside0.mk cmn
          have hcc := HI.out (k + 1) (nx + 1) (b.set k (m : Int)) v0 (xs ++ flTo d k b nx m) (wr.setCell ⟨B, 1 + k, none⟩ (.int .u8 (m : Int))) (by have := HK.out; omega) (by rw [List.length_set]; exact HB8.out) (by have := HNX.out; omega) HCNT.out HS1.out
          rw [show (((k + 1 : Nat) : Int)) = (k : Int) + 1 by omega, show (((nx + 1 : Nat) : Int)) = (m : Int) + 1 by omega] at hcc
          have HC := Aside0.mk hcc
          have HFL := Aside0.mk (show xs ++ flTo d k b nx (m + 1) = (xs ++ flTo d k b nx m) ++ fl d (k + 1) (b.set k (m : Int)) (nx + 1) by rw [flTo_succ, if_pos HCM.out, List.append_assoc])
          have HGS := Aside0.mk (HG.out.set (p := ⟨B, 1 + k, none⟩) (.inl (by rw [HBw.out]; exact Nat.le_refl _)) (.int .u8 (m : Int)))
          have hi8 : (Try.prog.info? 33).map (·.size) = some (par N (b.set k (m : Int))).size := by rw [par_size, List.length_set, HB8.out]; exact sizePar
          have HI9 := Aside0.mk hi8
          have HBLT := Aside0.mk (show B < wr.heap.size from (Array.getElem?_eq_some_iff.1 HA.out).1)
          clear hi8 hc hmn hs1 hcc cmn
          go_wp2_with (refine wpList_load_row_halt rfl 33 _ rfl B rfl 33 (par N (b.set k (m : Int))) (0, 0) _ HA1.out Try.underlying33 rfl HI9.out ?_)
          intro W5 hW5
          obtain rfl := hW5.eq
          refine Halt.mk ?_
          go_wp2_with fail
          refine HC.out.mono ?_
          rintro e w2 ⟨rfl, v2, hst2, hx2⟩
          have HS2 := Aside0.mk hst2
          have HX2 := Aside0.mk hx2
          have HN2 := Aside0.mk (hx2.ne (B := B) (by have := HBLT.out; simp [World.setCell]; exact this) HN.out)
          have HA2 := Aside0.mk (show w2.heap[B]? = some (.cells (par N (b.set k (m : Int))) 33 (0, 0)) from (hx2.block B (by have := HBLT.out; simp [World.setCell]; exact this) (by have := HLT.out; omega) (Ne.symm HN.out)).trans HA1.out)
          clear hst2 hx2 HC c3
          go_wp2
          go_roundg k1
          case measure => omega
          case rel => exact ⟨v2, m + 1, b.set k (m : Int), congrArg (Value.int .u8) (show (m : Int) + 1 = ((m + 1 : Nat) : Int) by omega), ⟨by have := E1.out; omega⟩, ⟨by rw [List.length_set]; exact HB8.out⟩, ⟨fun x => set_set_same _ _ _ _⟩, HA2, ⟨by rw [HFL.out]; exact HS2.out⟩, ⟨HGS.out.trans HX2.out⟩, HN2⟩
        · have m1 := eq_false (show ¬ (nx : Int) < (m : Int) + 1 by omega)
          have m2 := eq_false (show ¬ (nx : Int) ≤ (m : Int) by omega)
          have m3 := eq_false (show ¬ nx < m + 1 by omega)
          have m4 := eq_false (show ¬ nx ≤ m by omega)
          have HCM := Aside0.mk cmn
          have hcc := HI.out (k + 1) nx (b.set k (m : Int)) v0 (xs ++ flTo d k b nx m) (wr.setCell ⟨B, 1 + k, none⟩ (.int .u8 (m : Int))) (by have := HK.out; omega) (by rw [List.length_set]; exact HB8.out) (by have := HNX.out; omega) HCNT.out HS1.out
          rw [show (((k + 1 : Nat) : Int)) = (k : Int) + 1 by omega] at hcc
          have HC := Aside0.mk hcc
          have HFL := Aside0.mk (show xs ++ flTo d k b nx (m + 1) = (xs ++ flTo d k b nx m) ++ fl d (k + 1) (b.set k (m : Int)) nx by rw [flTo_succ, if_neg HCM.out, List.append_assoc])
          have HGS := Aside0.mk (HG.out.set (p := ⟨B, 1 + k, none⟩) (.inl (by rw [HBw.out]; exact Nat.le_refl _)) (.int .u8 (m : Int)))
          have hi8 : (Try.prog.info? 33).map (·.size) = some (par N (b.set k (m : Int))).size := by rw [par_size, List.length_set, HB8.out]; exact sizePar
          have HI9 := Aside0.mk hi8
          have HBLT := Aside0.mk (show B < wr.heap.size from (Array.getElem?_eq_some_iff.1 HA.out).1)
          clear hi8 hc hmn hs1 hcc cmn
          go_wp2_with (refine wpList_load_row_halt rfl 33 _ rfl B rfl 33 (par N (b.set k (m : Int))) (0, 0) _ HA1.out Try.underlying33 rfl HI9.out ?_)
          intro W5 hW5
          obtain rfl := hW5.eq
          refine Halt.mk ?_
          go_wp2_with fail
          refine HC.out.mono ?_
          rintro e w2 ⟨rfl, v2, hst2, hx2⟩
          have HS2 := Aside0.mk hst2
          have HX2 := Aside0.mk hx2
          have HN2 := Aside0.mk (hx2.ne (B := B) (by have := HBLT.out; simp [World.setCell]; exact this) HN.out)
          have HA2 := Aside0.mk (show w2.heap[B]? = some (.cells (par N (b.set k (m : Int))) 33 (0, 0)) from (hx2.block B (by have := HBLT.out; simp [World.setCell]; exact this) (by have := HLT.out; omega) (Ne.symm HN.out)).trans HA1.out)
          clear hst2 hx2 HC c3
          go_wp2
          go_roundg k1
          case measure => omega
          case rel => exact ⟨v2, m + 1, b.set k (m : Int), congrArg (Value.int .u8) (show (m : Int) + 1 = ((m + 1 : Nat) : Int) by omega), ⟨by have := E1.out; omega⟩, ⟨by rw [List.length_set]; exact HB8.out⟩, ⟨fun x => set_set_same _ _ _ _⟩, HA2, ⟨by rw [HFL.out]; exact HS2.out⟩, ⟨HGS.out.trans HX2.out⟩, HN2⟩
end Go.Proofs.Ytcmkibljlfnkbaa.Hand
