/- impl.allDiagrams and both AllDiagrams. Condition: said in the theorems. -/
import Derived.Test.YtdmipfmipjpegaaHandAllDS
namespace Go.Proofs.Ytdmipfmipjpegaa.Hand
open Go.RowKit Go.Proofs.YtdmipfmipjpegaaW.PrintWords Go.Proofs.YtdmipfmipjpegaaW.PrintLast Go.Proofs.YtdmipfmipjpegaaW.PrintMore
set_option linter.unusedVariables false
set_option linter.unusedSimpArgs false

set_option maxHeartbeats 8000000 in
set_option maxRecDepth 100000 in
theorem allI_calls (N : Nat) (h6 : N ≤ 6) (w : World) :
    Calls Try.prog 41 #[.int .i64 (N : Int)] w fun e w' => ∃ v', e = .returned v' ∧ diaK.R 24 w' w.heap.size (fun _ => True) v' (allD N) ∧ Below w.heap.size w w' := by
  have HC := Aside0.mk (fun W => impl_bracketings.calls (N : Int) (brk (2 * N) 0 ⟨#[]⟩) W (by unfold impl_bracketings.f; rw [if_pos (by omega), Int.toNat_natCast]))
  have HPS := Aside0.mk (brk_pos h6)
  have HFW := Aside0.mk (brk_few h6)
  have HSZ := Aside0.mk (brk_sizes (2 * N) 0 ⟨#[]⟩)
  have hAll : allD N = (brk (2 * N) 0 ⟨#[]⟩).map fun T => ((readR T).1, (readR T).2.1) := rfl
  rw [hAll]
  generalize brk (2 * N) 0 ⟨#[]⟩ = Ts at HC HPS HFW HSZ ⊢
  have h6b : N ≤ 6 := h6
  have HN := Aside0.mk h6
  clear hAll h6
  go_enter Try.func41, Try.ntmps41
  go_wp2_with fail
  obtain ⟨wa, hwa⟩ : ∃ wa, wa = w.alloc (.cells #[] 24) := ⟨_, rfl⟩
  obtain ⟨g0, hg0⟩ : ∃ g0, g0 = w.heap.size := ⟨_, rfl⟩
  have HA := Aside0.mk (show wa.heap[g0]? = some (.cells #[] 24 (0, 0)) by rw [hwa, hg0]; exact heap_alloc_new w _)
  have HBA := Aside0.mk (show Below w.heap.size w wa by rw [hwa]; exact (Below.refl _ w).alloc (Nat.le_refl _) _)
  have HGA := Aside0.mk (show g0 < wa.heap.size by rw [hwa, hg0, size_alloc']; omega)
  have HS1 := Aside0.mk (show w.heap.size ≤ g0 by omega)
  have HLA := Aside0.mk (below_size HBA.out)
  rw [← hwa]
  try rw [← hg0]
  clear hwa
  refine (HC.out _).mono ?_
  rintro e w2 ⟨v1, rfl, hr1, hb1⟩
  obtain ⟨g1, c1, cur1, rfl, hg1, hh1, hk1⟩ := row_str hr1 HPS.out
  have HR0 := Aside0.mk (show diaK.R 24 w2 w.heap.size (fun _ => True) (.slice (some ⟨g0, 0, none⟩) 0 0) [] from diaR_empty ((hb1.block g0 HGA.out).trans HA.out) HS1.out)
  have HH := Aside0.mk hh1
  have HK1 := Aside0.mk hk1
  have HB2 := Aside0.mk (show Below w.heap.size w w2 from below_step HBA.out hb1)
  have HN1 := Aside0.mk (show g1 ≠ g0 by have := HGA.out; omega)
  have HL2 := Aside0.mk (show g1 < w2.heap.size from (Array.getElem?_eq_some_iff.1 hh1).1)
  clear hr1 hb1 hg1 hh1 hk1 HC
  obtain ⟨L, eL⟩ : ∃ L, L = Ts.length := ⟨_, rfl⟩
  have HTS := Aside0.mk (show ∀ i, i < L → ∃ T, Ts[i]? = some T from fun i hi => ⟨_, List.getElem?_eq_getElem (by omega)⟩)
  have HLB := Aside0.mk (show L ≤ 4096 by rw [eL]; exact HFW.out)
  rw [← eL]
  have HEL := Aside0.mk eL
  clear eL
  go_wp2
  have HRD := Aside0.mk (show ∀ (i : Nat) (T : ByteArray), Ts[i]? = some T → ∀ W, Calls Try.prog 37 #[.string T] W fun e w' => e = .returned (.tuple #[.agg (dia (readR T).1 (readR T).2.1), .bool (readR T).2.2]) ∧ Below W.heap.size W w' from fun i T hT W => gread_calls T W)
  go_loopg [3, 12] (L + 1) (fun kq s4 v5 w' => ∃ (i : Nat) (v4 : Value), v4 = s4 ∧ v5 = .int .i64 (i : Int) ∧ Aside0 (kq + i = L + 1) ∧ Aside0 (i ≤ L) ∧ Aside0 (diaK.R 24 w' w.heap.size (fun _ => True) v4 ((Ts.take i).map fun T => ((readR T).1, (readR T).2.1))) ∧ Aside0 (Grow w2 w' (.slice (some ⟨g0, 0, none⟩) 0 0) v4))
  case atStart => subst hg0; exact ⟨0, _, rfl, rfl, ⟨rfl⟩, ⟨by omega⟩, HR0, ⟨Grow.refl _ _⟩⟩
  case round =>
    clear HR0
    obtain ⟨i, v4, rfl, rfl, E1, E2, HR, HG⟩ := hrel
    cases gk with
    | zero => exact absurd E1.out (by have := E2.out; omega)
    | succ k1 =>
      by_cases d1 : i < L
      · have d1b : decide ((i : Int) < (L : Int)) = true := decide_eq_true (by omega)
        have d1b' : decide (i < L) = true := decide_eq_true d1
        have p1 := eq_true (show 0 ≤ (i : Int) by omega)
        have q1 := eq_true (show (i : Int) < (L : Int) by omega)
        have q1' := eq_true d1
        obtain ⟨T, hT⟩ := HTS.out i d1
        have HD1 := Aside0.mk d1
        have HT := Aside0.mk hT
        have hcell : wr.cell? ⟨g1, i, none⟩ = some (.string T) := by
          rw [cell_of_row wr g1 i _ _ (0, 0) ((HG.out.g.block g1 HL2.out (fun e => HN1.out (by simpa [Value.ownBlock] using e))).trans HH.out)]
          simpa using HK1.out i T hT
        have HC := Aside0.mk (HRD.out i T hT)
        have HTK := Aside0.mk (show (Ts.take (i + 1)).map (fun T => ((readR T).1, (readR T).2.1)) = (Ts.take i).map (fun T => ((readR T).1, (readR T).2.1)) ++ [((readR T).1, (readR T).2.1)] by rw [List.take_add_one, hT, List.map_append]; rfl)
        have HXL := Aside0.mk (show ((Ts.take i).map fun T => ((readR T).1, (readR T).2.1)).length = i by rw [List.length_map, List.length_take]; have := HEL.out; omega)
        clear d1 hT
        generalize ((Ts.take i).map fun T => ((readR T).1, (readR T).2.1)) = xs at HR HTK HXL
        have h16 := readR_len T
        generalize readR T = rr at HC HTK h16
        obtain ⟨mm, bb, ok⟩ := rr
        simp only at HC HTK h16
        have HZ := Aside0.mk (show (Try.prog.info? 24).map (·.size) = some (dia mm bb).size by rw [dia_size, h16]; exact sizeDia)
        have HZ0 := Aside0.mk (show (dia 0 (List.replicate 16 0)).size = (dia mm bb).size by rw [dia_size, dia_size, h16]; rfl)
        have HO := Aside0.mk (dia_one mm bb)
        obtain ⟨x0, x1, x2, x3, x4, x5, x6, x7, x8, x9, x10, x11, x12, x13, x14, x15, rfl⟩ := arr16 bb h16
        have HCE := Aside0.mk (show dia mm [x0, x1, x2, x3, x4, x5, x6, x7, x8, x9, x10, x11, x12, x13, x14, x15] = #[.int .i64 mm, .int .u8 x0, .int .u8 x1, .int .u8 x2, .int .u8 x3, .int .u8 x4, .int .u8 x5, .int .u8 x6, .int .u8 x7, .int .u8 x8, .int .u8 x9, .int .u8 x10, .int .u8 x11, .int .u8 x12, .int .u8 x13, .int .u8 x14, .int .u8 x15] from rfl)
        have H16 := Aside0.mk h16
        clear h16
        generalize dia mm [x0, x1, x2, x3, x4, x5, x6, x7, x8, x9, x10, x11, x12, x13, x14, x15] = C at HC HZ HZ0 HO HCE
        go_wp2_with fail
        refine (HC.out _).mono ?_
        rintro e w5 ⟨rfl, hb5⟩
        have HR5 := Aside0.mk (diaR_move (w1 := w5) HR.out (fun k hk => hb5.block k (Kd.R_lt HR.out k hk)))
        have HG5 := Aside0.mk (HG.out.trans (Grow.below hb5 v4))
        clear hb5 HR HG HC hcell
        go_wp2_with (first | (refine wpList_store_row_halt rfl 24 _ _ rfl w5.heap.size C rfl rfl 24 (dia 0 (List.replicate 16 0)) (heap_alloc_new w5 _) HZ.out HZ0.out HO.out ?_))
        intro W hW
        have HK := Aside0.mk (show W.heap[w5.heap.size]? = some (.cells C 24 (0, 0)) by rw [hW.eq]; exact setRow_heap _ _ _ _ _ _ (heap_alloc_new w5 _))
        have HLT5 := Aside0.mk (show ∀ k, v4.ownBlock = some k → k < w5.heap.size from fun k hk => Kd.R_lt HR5.out k hk)
        have HR6 := Aside0.mk (diaR_move (w1 := W) HR5.out (fun k hk => by
          have := HLT5.out k hk
          rw [hW.eq, setRow_other _ _ _ _ (by omega), heap_alloc_old _ _ this]))
        have HG6 := Aside0.mk (show Grow w2 W (.slice (some ⟨g0, 0, none⟩) 0 0) v4 from HG5.out.trans (Grow.row (B := w5.heap.size) v4 (by rw [hW.eq]; exact below_setRow ((Below.refl _ w5).alloc (Nat.le_refl _) _) (Nat.le_refl _))))
        have HS6 := Aside0.mk (show w.heap.size ≤ W.heap.size from Nat.le_trans (below_size HB2.out) HG6.out.g.size)
        clear hW HR5 HG5 HLT5
        refine Halt.mk ?_
        obtain ⟨Av, cv, ev⟩ := Kd.R_slice HR6.out
        subst ev
        have hCE := HCE.out
        subst hCE
        clear HCE
        go_wp2_with (first | (refine wpList_load_row rfl 24 _ rfl w5.heap.size rfl 24 #[.int .i64 mm, .int .u8 x0, .int .u8 x1, .int .u8 x2, .int .u8 x3, .int .u8 x4, .int .u8 x5, .int .u8 x6, .int .u8 x7, .int .u8 x8, .int .u8 x9, .int .u8 x10, .int .u8 x11, .int .u8 x12, .int .u8 x13, .int .u8 x14, .int .u8 x15] (0, 0) _ HK.out Try.underlying24 rfl HZ.out ?_) | ((with_reducible refine gate_builtin (b := .append) (xs := #[.tmp 21, .tmp 23]) rfl ?_); at_builtin; refine Kd.R_append diaK (w0 := W) w.heap.size rfl (.tmp 21) (.tmp 23) 39 24 (.agg (dia 0 (List.replicate 16 0))) 24 rfl Try.underlying39 infoDia rfl (show 0 < 17 by omega) (by omega) (.slice Av xs.length cv) xs (mm, [x0, x1, x2, x3, x4, x5, x6, x7, x8, x9, x10, x11, x12, x13, x14, x15]) [.int .i64 mm, .int .u8 x0, .int .u8 x1, .int .u8 x2, .int .u8 x3, .int .u8 x4, .int .u8 x5, .int .u8 x6, .int .u8 x7, .int .u8 x8, .int .u8 x9, .int .u8 x10, .int .u8 x11, .int .u8 x12, .int .u8 x13, .int .u8 x14, .int .u8 x15] (fun _ => True) (fun _ => False) rfl ?aX ?aP (fun _ hk => hk.elim) (fun _ _ => trivial) ?aO ?aB ?aS ?aL ?_; (case aX => simp [Act.eval, World.setCell]); (case aP => exact ⟨rfl, rfl⟩); (case aB => exact Below.refl _ _); (case aO => exact HR6.out); (case aS => exact HS6.out); (case aL => rw [HXL.out]; have := HD1.out; have := HLB.out; omega); intro v108 w14 ho hb hg hat; have n1_ := Aside0.mk ho; have n2_ := Aside0.mk (HG6.out.trans ⟨hg, hat⟩); clear ho hb hg hat))
        rw [← HTK.out] at n1_
        have hwi : wrap64 ((i : Int) + 1) = ((i + 1 : Nat) : Int) := by have := HD1.out; have := HLB.out; unfold wrap64; omega
        have HWI := Aside0.mk hwi
        clear hwi
        go_wp2_with fail
        go_roundg k1
        case measure => have := E1.out; omega
        case rel => exact ⟨i + 1, v108, rfl, congrArg (Value.int .i64) HWI.out, ⟨by have := E1.out; omega⟩, ⟨by have := HD1.out; omega⟩, n1_, n2_⟩
      · have d1b : decide ((i : Int) < (L : Int)) = false := decide_eq_false (by omega)
        have d1b' : decide (i < L) = false := decide_eq_false d1
        have HE := Aside0.mk (show i = Ts.length by have := HEL.out; have := E2.out; omega)
        clear d1
        go_wp2
        go_ret
        have hr := HR.out
        rw [HE.out, List.take_length] at hr
        exact ⟨_, rfl, hr, ext_below (Ext.of (bo := g0) HG.out) HB2.out (below_size HB2.out) HS1.out (fun k hk => by have h1_ := HS1.out; simp [Value.ownBlock] at hk; omega)⟩
set_option maxHeartbeats 4000000 in
theorem specAll_out (n : Int) (h : ¬(1 ≤ n ∧ n ≤ 6)) (w : World) :
    Calls Try.prog 21 #[.int .i64 n] w fun e w' => e = .returned (.tuple #[.slice none 0 0, .int .i64 2]) ∧ Below w.heap.size w w' := by
  have HIN := Aside0.mk (fun W => sIn_calls n 1 6 false (decide_eq_false h) W)
  clear h
  go_enter Try.func21, Try.ntmps21
  go_wp2_with fail
  refine (HIN.out _).mono ?_
  rintro e w1 ⟨rfl, ⟨q, rfl⟩⟩
  go_wp2
  go_ret2
  exact ⟨rfl, pw_below_drewN (Below.refl _ _) _⟩
set_option maxHeartbeats 4000000 in
theorem specAll_in (N : Nat) (h1 : 1 ≤ N) (h6 : N ≤ 6) (w : World) :
    Calls Try.prog 21 #[.int .i64 (N : Int)] w fun e w' => ∃ v', e = .returned (.tuple #[v', .int .i64 0]) ∧ diaK.R 24 w' w.heap.size (fun _ => True) v' (allD N) ∧ Below w.heap.size w w' := by
  have HIN := Aside0.mk (fun W => sIn_calls (N : Int) 1 6 true (decide_eq_true (by omega)) W)
  have HC := Aside0.mk (fun W => allS_calls N h6 W)
  clear h1 h6
  go_enter Try.func21, Try.ntmps21
  go_wp2_with fail
  refine (HIN.out _).mono ?_
  rintro e w1 ⟨rfl, ⟨q, rfl⟩⟩
  go_wp2_with fail
  refine (HC.out _).mono ?_
  rintro e w2 ⟨v, rfl, hr, hb⟩
  have HR := Aside0.mk hr
  have HB := Aside0.mk hb
  clear hr hb HC HIN
  obtain ⟨Av, cv, ev⟩ := Kd.R_slice HR.out
  subst ev
  go_wp2
  go_ret2
  exact ⟨_, rfl, HR.out, below_step (pw_below_drewN (Below.refl _ _) q) HB.out⟩
set_option maxHeartbeats 4000000 in
theorem implAll_out (n : Int) (h : ¬(1 ≤ n ∧ n ≤ 6)) (w : World) :
    Calls Try.prog 22 #[.int .i64 n] w fun e w' => e = .returned (.tuple #[.slice none 0 0, .int .i64 2]) ∧ Below w.heap.size w w' := by
  have HIN := Aside0.mk (fun W => gIn_calls n 1 6 false (decide_eq_false h) W)
  clear h
  go_enter Try.func22, Try.ntmps22
  go_wp2_with fail
  refine (HIN.out _).mono ?_
  rintro e w1 ⟨rfl, ⟨q, rfl⟩⟩
  go_wp2
  go_ret2
  exact ⟨rfl, pw_below_drewN (Below.refl _ _) _⟩
set_option maxHeartbeats 4000000 in
theorem implAll_in (N : Nat) (h1 : 1 ≤ N) (h6 : N ≤ 6) (w : World) :
    Calls Try.prog 22 #[.int .i64 (N : Int)] w fun e w' => ∃ v', e = .returned (.tuple #[v', .int .i64 0]) ∧ diaK.R 24 w' w.heap.size (fun _ => True) v' (allD N) ∧ Below w.heap.size w w' := by
  have HIN := Aside0.mk (fun W => gIn_calls (N : Int) 1 6 true (decide_eq_true (by omega)) W)
  have HC := Aside0.mk (fun W => allI_calls N h6 W)
  clear h1 h6
  go_enter Try.func22, Try.ntmps22
  go_wp2_with fail
  refine (HIN.out _).mono ?_
  rintro e w1 ⟨rfl, ⟨q, rfl⟩⟩
  go_wp2_with fail
  refine (HC.out _).mono ?_
  rintro e w2 ⟨v, rfl, hr, hb⟩
  have HR := Aside0.mk hr
  have HB := Aside0.mk hb
  clear hr hb HC HIN
  obtain ⟨Av, cv, ev⟩ := Kd.R_slice HR.out
  subst ev
  go_wp2
  go_ret2
  exact ⟨_, rfl, HR.out, below_step (pw_below_drewN (Below.refl _ _) q) HB.out⟩
end Go.Proofs.Ytdmipfmipjpegaa.Hand
