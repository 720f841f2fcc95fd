/- All diagrams, in both texts. Condition: said in the theorems. -/
import Derived.Test.YtdmipfmipjpegaaHandMarkD
import Derived.Test.YtdmipfmipjpegaaHandNumP
import Derived.Laws.EntriesVeiled
namespace Go.Proofs.Ytdmipfmipjpegaa.Hand
open Go.RowKit Go.Proofs.YtdmipfmipjpegaaW.PrintWords Go.Proofs.YtdmipfmipjpegaaW.PrintLast Go.Proofs.YtdmipfmipjpegaaW.PrintMore
set_option linter.unusedVariables false
set_option linter.unusedSimpArgs false

/-- All diagrams of a size. -/
def allD (N : Nat) : List (Int × List Int) := (brk (2 * N) 0 ⟨#[]⟩).map fun T => ((readR T).1, (readR T).2.1)
theorem brk_pos_all : (List.range 7).all (fun n => decide (0 < (brk (2 * n) 0 ⟨#[]⟩).length)) = true := by decide +kernel
theorem brk_pos {n : Nat} (h : n ≤ 6) : 0 < (brk (2 * n) 0 ⟨#[]⟩).length := of_decide_eq_true (List.all_eq_true.1 brk_pos_all n (List.mem_range.2 (by omega)))
theorem brk_few {n : Nat} (h : n ≤ 6) : (brk (2 * n) 0 ⟨#[]⟩).length ≤ 4096 := by
  have h1 := brk_len (2 * n) 0 ⟨#[]⟩
  have h2 : 2 ^ (2 * n) ≤ 2 ^ 12 := Nat.pow_le_pow_right (by omega) (by omega)
  omega
theorem allD_len (N : Nat) : (allD N).length = (brk (2 * N) 0 ⟨#[]⟩).length := List.length_map _
theorem texts_all : (List.range 7).all (fun n => decide (spec_l01Texts.f 40 [] ⟨#[]⟩ 0 (n : Int) = some (brk (2 * n) 0 ⟨#[]⟩))) = true := by decide +kernel
theorem texts_calls (N : Nat) (h6 : N ≤ 6) (W : World) : Calls Try.prog 48 #[.slice none 0 0, .string ⟨#[]⟩, .int .i64 0, .int .i64 (N : Int)] W fun e w' => ∃ v', e = .returned v' ∧ Kd.R Kd.string 9 w' W.heap.size (fun _ => True) v' (brk (2 * N) 0 ⟨#[]⟩) ∧ Below W.heap.size W w' := by
  have hf : spec_l01Texts.f 40 [] ⟨#[]⟩ 0 (N : Int) = some (brk (2 * N) 0 ⟨#[]⟩) := of_decide_eq_true (List.all_eq_true.1 texts_all N (List.mem_range.2 (by omega)))
  refine (spec_l01Texts.calls 40 (fun _ => True) (.slice none 0 0) [] ⟨#[]⟩ 0 (N : Int) _ W W (Below.refl _ _) (Kd.R_nil _ _ _ _ _) hf).mono ?_
  rintro e w' ⟨v', rfl, hr, hb, _⟩
  exact ⟨v', rfl, Kd.R_mono hr (fun _ _ => trivial), hb⟩
theorem Grow.below {w w' : World} (h : Below w.heap.size w w') (v : Value) : Grow w w' v v := ⟨⟨h.os, h.tape, h.output, below_size h, fun i hi _ => h.block i hi⟩, .inl rfl⟩
theorem Grow.row {w w' : World} {B : Nat} (v : Value) (h : Below B w w') (e : B = w.heap.size := by rfl) : Grow w w' v v := by subst e; exact Grow.below h v
/-- A row of texts, cell by cell. -/
theorem row_str {w : World} {base : Nat} {ok : Nat → Prop} {v : Value} {xs : List ByteArray} (h : Kd.R Kd.string 9 w base ok v xs) (hp : 0 < xs.length) :
    ∃ g cap cur, v = .slice (some ⟨g, 0, none⟩) xs.length cap ∧ base ≤ g ∧ w.heap[g]? = some (.cells cur 9 (0, 0)) ∧ ∀ (i : Nat) (T : ByteArray), xs[i]? = some T → cur[i]? = some (Value.string T) := by
  obtain ⟨_, inner, ho, hr⟩ := h
  obtain ⟨hl, ho⟩ := ho
  rcases ho with ⟨rfl, h0⟩ | ⟨g, cap, cur, rfl, hb, hg, hnc, hcm, hcs, ht⟩
  · omega
  · refine ⟨g, cap, cur, rfl, hb, hg, fun i T hi => ?_⟩
    have hM := hr.2 i T hi
    have hc : (inner.drop (i * 1)).take 1 = [.string T] := hM
    rw [Nat.mul_one] at hc
    have hj : ((inner.drop i).take 1)[0]? = some (.string T) := by rw [hc]; rfl
    rw [List.getElem?_take, if_pos (by omega), List.getElem?_drop, ← ht, List.getElem?_take] at hj
    split at hj
    · rw [← Array.getElem?_toList]; exact hj
    · cases hj
set_option maxHeartbeats 8000000 in
set_option maxRecDepth 100000 in
theorem allS_calls (N : Nat) (h6 : N ≤ 6) (w : World) :
    Calls Try.prog 40 #[.int .i64 (N : Int)] w fun e w' => ∃ v', e = .returned v' ∧ diaK.R 24 w' w.heap.size (fun _ => True) v' (allD N) ∧ Below w.heap.size w w' := by
  have HC := Aside0.mk (fun W => texts_calls N h6 W)
  have HPS := Aside0.mk (brk_pos h6)
  have HFW := Aside0.mk (brk_few h6)
  have HSZ := Aside0.mk (brk_sizes (2 * N) 0 ⟨#[]⟩)
  have hAll : allD N = (brk (2 * N) 0 ⟨#[]⟩).map fun T => ((readR T).1, (readR T).2.1) := rfl
  rw [hAll]
  generalize brk (2 * N) 0 ⟨#[]⟩ = Ts at HC HPS HFW HSZ ⊢
  have h6b : N ≤ 6 := h6
  have HN := Aside0.mk h6
  clear hAll h6
  go_enter Try.func40, Try.ntmps40
  go_wp2_with fail
  refine (HC.out _).mono ?_
  rintro e w1 ⟨v1, rfl, hr1, hb1⟩
  obtain ⟨g1, c1, cur1, rfl, hg1, hh1, hk1⟩ := row_str hr1 HPS.out
  have LT1 := Aside0.mk (show g1 < w1.heap.size from (Array.getElem?_eq_some_iff.1 hh1).1)
  obtain ⟨w2, hw2⟩ : ∃ w2, w2 = w1.alloc (.cells #[] 24) := ⟨_, rfl⟩
  have HR0 := Aside0.mk (show diaK.R 24 w2 w.heap.size (fun _ => True) (.slice (some ⟨w1.heap.size, 0, none⟩) 0 0) [] by rw [hw2]; exact diaR_empty (heap_alloc_new w1 _) (below_size hb1))
  have HH := Aside0.mk (show w2.heap[g1]? = some (.cells cur1 9 (0, 0)) by rw [hw2, Below.heap_alloc _ _ _ LT1.out]; exact hh1)
  have HK1 := Aside0.mk hk1
  have HB2 := Aside0.mk (show Below w.heap.size w w2 by rw [hw2]; exact hb1.alloc (below_size hb1) _)
  have HN1 := Aside0.mk (show g1 ≠ w1.heap.size by have := LT1.out; omega)
  have HS1 := Aside0.mk (show w.heap.size ≤ w1.heap.size from below_size hb1)
  have HL2 := Aside0.mk (show g1 < w2.heap.size from (Array.getElem?_eq_some_iff.1 HH.out).1)
  clear hr1 hb1 hg1 hh1 hk1 HC
  obtain ⟨L, eL⟩ : ∃ L, L = Ts.length := ⟨_, rfl⟩
  have HTS := Aside0.mk (show ∀ i, i < L → ∃ T, Ts[i]? = some T from fun i hi => ⟨_, List.getElem?_eq_getElem (by omega)⟩)
  have HLB := Aside0.mk (show L ≤ 4096 by rw [eL]; exact HFW.out)
  rw [← eL]
  have HEL := Aside0.mk eL
  clear eL
  obtain ⟨g0, hg0⟩ : ∃ g0, g0 = w1.heap.size := ⟨_, rfl⟩
  rw [← hg0] at HR0 HN1 HS1
  go_wp2
  rw [← hw2, ← hg0]
  clear hw2 hg0
  have HRD := Aside0.mk (show ∀ i T, Ts[i]? = some T → ∀ W, Calls Try.prog 36 #[.string T] W fun e w' => e = .returned (.tuple #[.agg (dia (readR T).1 (readR T).2.1), .bool (readR T).2.2]) ∧ Below W.heap.size W w' from fun i T hT W => sread_calls T (by rw [HSZ.out T (List.mem_of_getElem? hT)]; show 0 + 2 * N ≤ _; have := HN.out; omega) W)
  go_loopg [4, 5] (L + 1) (fun kq s4 v5 w' => ∃ (i : Nat) (v4 : Value), v4 = s4 ∧ v5 = .int .i64 (i : Int) ∧ Aside0 (kq + i = L + 1) ∧ Aside0 (i ≤ L) ∧ Aside0 (diaK.R 24 w' w.heap.size (fun _ => True) v4 ((Ts.take i).map fun T => ((readR T).1, (readR T).2.1))) ∧ Aside0 (Grow w2 w' (.slice (some ⟨g0, 0, none⟩) 0 0) v4))
  case atStart => exact ⟨0, _, rfl, rfl, ⟨rfl⟩, ⟨by omega⟩, HR0, ⟨Grow.refl _ _⟩⟩
  case round =>
    clear HR0
    obtain ⟨i, v4, rfl, rfl, E1, E2, HR, HG⟩ := hrel
    cases gk with
    | zero => exact absurd E1.out (by have := E2.out; omega)
    | succ k1 =>
      by_cases d1 : i < L
      · have d1b : decide ((i : Int) < (L : Int)) = true := decide_eq_true (by omega)
        have d1b' : decide (i < L) = true := decide_eq_true d1
        have p1 := eq_true (show 0 ≤ (i : Int) by omega)
        have q1 := eq_true (show (i : Int) < (L : Int) by omega)
        have q1' := eq_true d1
        obtain ⟨T, hT⟩ := HTS.out i d1
        have HD1 := Aside0.mk d1
        have HT := Aside0.mk hT
        have hcell : wr.cell? ⟨g1, i, none⟩ = some (.string T) := by
          rw [cell_of_row wr g1 i _ _ (0, 0) ((HG.out.g.block g1 HL2.out (fun e => HN1.out (by simpa [Value.ownBlock] using e))).trans HH.out)]
          simpa using HK1.out i T hT
        have HC := Aside0.mk (HRD.out i T hT)
        have HTK := Aside0.mk (show (Ts.take (i + 1)).map (fun T => ((readR T).1, (readR T).2.1)) = (Ts.take i).map (fun T => ((readR T).1, (readR T).2.1)) ++ [((readR T).1, (readR T).2.1)] by rw [List.take_add_one, hT, List.map_append]; rfl)
        have HXL := Aside0.mk (show ((Ts.take i).map fun T => ((readR T).1, (readR T).2.1)).length = i by rw [List.length_map, List.length_take]; have := HEL.out; omega)
        clear d1 hT
        generalize ((Ts.take i).map fun T => ((readR T).1, (readR T).2.1)) = xs at HR HTK HXL
        have h16 := readR_len T
        generalize readR T = rr at HC HTK h16
        obtain ⟨mm, bb, ok⟩ := rr
        simp only at HC HTK h16
        have HZ := Aside0.mk (show (Try.prog.info? 24).map (·.size) = some (dia mm bb).size by rw [dia_size, h16]; exact sizeDia)
        have HZ0 := Aside0.mk (show (dia 0 (List.replicate 16 0)).size = (dia mm bb).size by rw [dia_size, dia_size, h16]; rfl)
        have HO := Aside0.mk (dia_one mm bb)
        obtain ⟨x0, x1, x2, x3, x4, x5, x6, x7, x8, x9, x10, x11, x12, x13, x14, x15, rfl⟩ := arr16 bb h16
        have HCE := Aside0.mk (show dia mm [x0, x1, x2, x3, x4, x5, x6, x7, x8, x9, x10, x11, x12, x13, x14, x15] = #[.int .i64 mm, .int .u8 x0, .int .u8 x1, .int .u8 x2, .int .u8 x3, .int .u8 x4, .int .u8 x5, .int .u8 x6, .int .u8 x7, .int .u8 x8, .int .u8 x9, .int .u8 x10, .int .u8 x11, .int .u8 x12, .int .u8 x13, .int .u8 x14, .int .u8 x15] from rfl)
        have H16 := Aside0.mk h16
        clear h16
        generalize dia mm [x0, x1, x2, x3, x4, x5, x6, x7, x8, x9, x10, x11, x12, x13, x14, x15] = C at HC HZ HZ0 HO HCE
        go_wp2_with fail
        refine (HC.out _).mono ?_
        rintro e w5 ⟨rfl, hb5⟩
        have HR5 := Aside0.mk (diaR_move (w1 := w5) HR.out (fun k hk => hb5.block k (Kd.R_lt HR.out k hk)))
        have HG5 := Aside0.mk (HG.out.trans (Grow.below hb5 v4))
        clear hb5 HR HG HC hcell
        go_wp2_with (first | (refine wpList_store_row_halt rfl 24 _ _ rfl w5.heap.size C rfl rfl 24 (dia 0 (List.replicate 16 0)) (heap_alloc_new w5 _) HZ.out HZ0.out HO.out ?_))
        intro W hW
        have HK := Aside0.mk (show W.heap[w5.heap.size]? = some (.cells C 24 (0, 0)) by rw [hW.eq]; exact setRow_heap _ _ _ _ _ _ (heap_alloc_new w5 _))
        have HLT5 := Aside0.mk (show ∀ k, v4.ownBlock = some k → k < w5.heap.size from fun k hk => Kd.R_lt HR5.out k hk)
        have HR6 := Aside0.mk (diaR_move (w1 := W) HR5.out (fun k hk => by
          have := HLT5.out k hk
          rw [hW.eq, setRow_other _ _ _ _ (by omega), heap_alloc_old _ _ this]))
        have HG6 := Aside0.mk (show Grow w2 W (.slice (some ⟨g0, 0, none⟩) 0 0) v4 from HG5.out.trans (Grow.row (B := w5.heap.size) v4 (by rw [hW.eq]; exact below_setRow ((Below.refl _ w5).alloc (Nat.le_refl _) _) (Nat.le_refl _))))
        have HS6 := Aside0.mk (show w.heap.size ≤ W.heap.size from Nat.le_trans (below_size HB2.out) HG6.out.g.size)
        clear hW HR5 HG5 HLT5
        refine Halt.mk ?_
        obtain ⟨Av, cv, ev⟩ := Kd.R_slice HR6.out
        subst ev
        have hCE := HCE.out
        subst hCE
        clear HCE
        go_wp2_with (first | (refine wpList_load_row rfl 24 _ rfl w5.heap.size rfl 24 #[.int .i64 mm, .int .u8 x0, .int .u8 x1, .int .u8 x2, .int .u8 x3, .int .u8 x4, .int .u8 x5, .int .u8 x6, .int .u8 x7, .int .u8 x8, .int .u8 x9, .int .u8 x10, .int .u8 x11, .int .u8 x12, .int .u8 x13, .int .u8 x14, .int .u8 x15] (0, 0) _ HK.out Try.underlying24 rfl HZ.out ?_) | ((with_reducible refine gate_builtin (b := .append) (xs := #[.tmp 25, .tmp 27]) rfl ?_); at_builtin; refine Kd.R_append diaK (w0 := W) w.heap.size rfl (.tmp 25) (.tmp 27) 39 24 (.agg (dia 0 (List.replicate 16 0))) 24 rfl Try.underlying39 infoDia rfl (show 0 < 17 by omega) (by omega) (.slice Av xs.length cv) xs (mm, [x0, x1, x2, x3, x4, x5, x6, x7, x8, x9, x10, x11, x12, x13, x14, x15]) [.int .i64 mm, .int .u8 x0, .int .u8 x1, .int .u8 x2, .int .u8 x3, .int .u8 x4, .int .u8 x5, .int .u8 x6, .int .u8 x7, .int .u8 x8, .int .u8 x9, .int .u8 x10, .int .u8 x11, .int .u8 x12, .int .u8 x13, .int .u8 x14, .int .u8 x15] (fun _ => True) (fun _ => False) rfl ?aX ?aP (fun _ hk => hk.elim) (fun _ _ => trivial) ?aO ?aB ?aS ?aL ?_; (case aX => simp [Act.eval, World.setCell]); (case aP => exact ⟨rfl, rfl⟩); (case aB => exact Below.refl _ _); (case aO => exact HR6.out); (case aS => exact HS6.out); (case aL => rw [HXL.out]; have := HD1.out; have := HLB.out; omega); intro v108 w14 ho hb hg hat; have n1_ := Aside0.mk ho; have n2_ := Aside0.mk (HG6.out.trans ⟨hg, hat⟩); clear ho hb hg hat))
        rw [← HTK.out] at n1_
        have hwi : wrap64 ((i : Int) + 1) = ((i + 1 : Nat) : Int) := by have := HD1.out; have := HLB.out; unfold wrap64; omega
        have HWI := Aside0.mk hwi
        clear hwi
        go_wp2_with fail
        go_roundg k1
        case measure => have := E1.out; omega
        case rel => exact ⟨i + 1, v108, rfl, congrArg (Value.int .i64) HWI.out, ⟨by have := E1.out; omega⟩, ⟨by have := HD1.out; omega⟩, n1_, n2_⟩
      · have d1b : decide ((i : Int) < (L : Int)) = false := decide_eq_false (by omega)
        have d1b' : decide (i < L) = false := decide_eq_false d1
        have HE := Aside0.mk (show i = Ts.length by have := HEL.out; have := E2.out; omega)
        clear d1
        go_wp2
        go_ret
        have hr := HR.out
        rw [HE.out, List.take_length] at hr
        exact ⟨_, rfl, hr, ext_below (Ext.of (bo := g0) HG.out) HB2.out (below_size HB2.out) HS1.out (fun k hk => by have h1_ := HS1.out; simp [Value.ownBlock] at hk; omega)⟩
end Go.Proofs.Ytdmipfmipjpegaa.Hand
