/- The contract of spec.l04Arcs: for every text it returns the places with which places are joined, and whether the text is a system, as the plain function 'spec_l04Arcs.f' says; and of spec.l04Is. No condition. -/
import Derived.Test.YtmpdloamgiejhaaProg
import Derived.Below
import Derived.Deep.Draws
import Derived.Deep.AppendLies
import Derived.Maps.AppendAt
import Derived.OwnWalk
import Derived.Laws.BytesArg
import Derived.Laws.MakeOwn
import Derived.Laws.OwnMore
import Derived.Deep.OwnRows
import Derived.Tactics
import Derived.Lib.ConvBytes
import Derived.Laws.Slices
import Derived.WalkKit
import Derived.KernelRfl
import Derived.RowKit3
import Derived.Deep.LoopGhost
import Derived.Deep.QuietTactic
import Derived.BigQuiet
import Derived.WideLaws
import Derived.Laws.Rows
import Derived.Laws.Tables
import Derived.Laws.ResultCell
import Derived.Laws.CopyOwn
import Derived.Test.YtmpdloamgiejhaaWWords
import Derived.Test.YtmpdloamgiejhaaWLast
import Derived.Test.YtmpdloamgiejhaaWMore
namespace Go.Proofs.Ytmpdloamgiejhaa.Hand
open Go.RowKit Go.Proofs.YtmpdloamgiejhaaW.PrintWords Go.Proofs.YtmpdloamgiejhaaW.PrintLast Go.Proofs.YtmpdloamgiejhaaW.PrintMore
set_option linter.unusedVariables false
set_option linter.unusedSimpArgs false

theorem infoI64 : (Try.prog.info? 2).map (fun i => (i.zero, i.size, i.bytes)) = some (some (.int .i64 0), 1, 8) := by kernel_rfl
/-- The cells of a list of numbers. -/
def enc (o : List Int) : List Value := o.map (Value.int .i64)
theorem enc_len (o : List Int) : (enc o).length = o.length := by unfold enc; rw [List.length_map]
theorem enc_one (o : List Int) : (enc o).toArray.all (·.oneCell') = true := by
  unfold enc
  rw [Array.all_eq_true_iff_forall_mem]
  intro v hv
  simp only [List.mem_toArray, List.mem_map] at hv
  obtain ⟨x, _, rfl⟩ := hv
  rfl
/-- Block g is the list o, an array of the type t. -/
def Arr (w : World) (g t : Nat) (o : List Int) : Prop := w.heap[g]? = some (.cells (enc o).toArray t (0, 0))
theorem Arr.cell {w : World} {g t : Nat} {o : List Int} (h : Arr w g t o) (i : Int) (h0 : 0 ≤ i) (h1 : i < (o.length : Int)) : w.cell? ⟨g, i.toNat, none⟩ = some (.int .i64 (rd o i)) := by
  obtain ⟨j, rfl⟩ := Int.eq_ofNat_of_zero_le h0
  rw [Int.toNat_natCast, cell_of_row w g j _ t (0, 0) h]
  unfold enc rd
  rw [Int.toNat_natCast, List.getD_eq_getElem?_getD]
  have : j < o.length := by omega
  simp [List.getElem?_eq_getElem this]
theorem Arr.frozen {w : World} {g t : Nat} {o : List Int} (h : Arr w g t o) (i : Nat) : w.frozen? ⟨g, i, none⟩ = false := frozen_of_row w g i _ t h
theorem Arr.lt {w : World} {g t : Nat} {o : List Int} (h : Arr w g t o) : g < w.heap.size := (Array.getElem?_eq_some_iff.1 h).1
theorem Arr.set {w : World} {g t : Nat} {o : List Int} (h : Arr w g t o) (i : Nat) (v : Int) : Arr (w.setCell ⟨g, i, none⟩ (.int .i64 v)) g t (o.set i v) := by
  unfold Arr at *
  rw [heap_setCell_same w g i _ t _ h]
  congr 2
  unfold enc
  rw [List.map_set]
  simp
theorem Arr.far {w : World} {g t : Nat} {o : List Int} (h : Arr w g t o) {p : Addr} (hp : g ≠ p.block) (v : Value) : Arr (w.setCell p v) g t o := (heap_setCell_other w p g v hp).trans h
theorem Arr.alloc {w : World} {g t : Nat} {o : List Int} (h : Arr w g t o) (ob : Obj) : Arr (w.alloc ob) g t o := (Below.heap_alloc w ob g h.lt).trans h
theorem Arr.drewN {w : World} {g t : Nat} {o : List Int} (h : Arr w g t o) (n : Nat) : Arr (w.drewN n) g t o := h
theorem Arr.grown {w w' : World} {g t : Nat} {o : List Int} {row : Option Nat} (h : Arr w g t o) (hg : w.grownBy w' row) (hne : some g ≠ row) : Arr w' g t o := (hg.block g h.lt hne).trans h
theorem Arr.row {w : World} {g t : Nat} {o : List Int} (h : Arr w g t o) (u : List Int) : Arr (w.setRow g (enc u).toArray) g t u := setRow_heap w g _ _ t _ h
theorem Arr.row_far {w : World} {g t : Nat} {o : List Int} (h : Arr w g t o) {g' : Nat} (hne : g ≠ g') (cs : Array Value) : Arr (w.setRow g' cs) g t o := (setRow_other w g' g cs hne).trans h

def spec_l04Arcs.l0 : Nat → ByteArray → List Int → List Int → Int → Option (List Int × Bool)
  | 0, _, _, _, _ => none
  | k + 1, x0, x4, x5, x6 => if x6 < (x0.size : Int) then (if 0 ≤ x6 then (if (bt x0 x6) = 40 then (if x5.length < 17592186044416 then (spec_l04Arcs.l0 k x0 x4 (x5 ++ [x6]) (wrap64 (x6 + 1))) else (none)) else (if (bt x0 x6) = 41 then (if 0 < x5.length then (if 0 ≤ (wrap64 ((x5.length : Int) - 1)) then (if (wrap64 ((x5.length : Int) - 1)) < (x5.length : Int) then (if 0 ≤ (rd x5 (wrap64 ((x5.length : Int) - 1))) then (if (rd x5 (wrap64 ((x5.length : Int) - 1))) < 8 then (if x6 < 8 then (spec_l04Arcs.l0 k x0 ((x4.set ((rd x5 (wrap64 ((x5.length : Int) - 1))) : Int).toNat x6).set (x6 : Int).toNat (rd x5 (wrap64 ((x5.length : Int) - 1)))) (x5.take ((wrap64 ((x5.length : Int) - 1)) : Int).toNat) (wrap64 (x6 + 1))) else (none)) else (none)) else (none)) else (none)) else (none)) else (some (x4, false))) else (if (bt x0 x6) = 124 then (if 0 < x5.length then (some (x4, false)) else (if x6 < 8 then (spec_l04Arcs.l0 k x0 (x4.set (x6 : Int).toNat x6) x5 (wrap64 (x6 + 1))) else (none))) else (some (x4, false))))) else (none)) else (some (x4, ((x5.length : Int) == 0)))
def spec_l04Arcs.f (k : Nat) (a0 : ByteArray) : Option (List Int × Bool) := if (a0.size : Int) < 1 then some (List.replicate 8 0, false) else if (a0.size : Int) > 8 then some (List.replicate 8 0, false) else spec_l04Arcs.l0 k a0 (List.replicate 8 0) [] 0

theorem Arr.new (w : World) (t : Nat) (o : List Int) (cs : Array Value) (h : cs = (enc o).toArray) : Arr (w.alloc (.cells cs t)) w.heap.size t o := by
  subst h
  exact heap_alloc_new w _
theorem R_empty {w : World} {base g e : Nat} {ok : Nat → Prop} (hg : w.heap[g]? = some (.cells #[] e (0, 0))) (hb : base ≤ g) (hok : ok g) : Kd.R (Kd.int .i64) e w base ok (.slice (some ⟨g, 0, none⟩) 0 0) [] := by
  refine ⟨fun k hk => ?_, [], ?_, Reps.none _ _⟩
  · simp [Value.ownBlock] at hk
    subst hk
    exact hok
  · exact ⟨by simp, .inr ⟨g, 0, #[], rfl, hb, hg, Nat.le_refl _, by unfold maxLen; omega, by simp, by simp⟩⟩
/-- A result of two, the first of them an array in memory. -/
theorem results_arr {P : Program} {fn : Func} {p u : Tmp} {ty : TypeId} (h : fn.results = #[.cell p ty, .tmp u]) (tmps : Array Value) (W : World) (g : Nat) (t : TypeId) (cs : Array Value) {d : TypeDesc}
    (hp : tmps.getD p undef = .pointer (some ⟨g, 0, none⟩)) (hg : W.heap[g]? = some (.cells cs t (0, 0))) (hu : P.underlying ty = some d) (hd : (match d with | .struct _ | .array _ _ => true | _ => false) = true) (hi : (P.info? ty).map (·.size) = some cs.size) :
    (results fn tmps).run P W = .ok (.tuple #[.agg cs, tmps.getD u undef]) W := by
  rw [results_cell_tmp h, hp]
  simp [asAddr, Result.andThen, run_loadVar_row W g t ty cs (0, 0) d hg hu hd hi]
theorem zeros8 : (#[.int .i64 0, .int .i64 0, .int .i64 0, .int .i64 0, .int .i64 0, .int .i64 0, .int .i64 0, .int .i64 0] : Array Value) = (enc (List.replicate 8 0)).toArray := rfl
theorem encSize {o : List Int} {n : Nat} (h : o.length = n) : (enc o).toArray.size = n := by rw [List.size_toArray, enc_len]; exact h

set_option maxHeartbeats 8000000 in
set_option maxRecDepth 100000 in
theorem spec_l04Arcs.calls (k : Nat) (a0 : ByteArray) (r1 : List Int) (r2 : Bool) (w : World) (h : spec_l04Arcs.f k a0 = some (r1, r2)) :
    Calls Try.prog 62 #[.string a0] w fun e w' => e = .returned (.tuple #[.agg (enc r1).toArray, .bool r2]) ∧ Below w.heap.size w w' := by
  have HZ := Aside0.mk (show (Try.prog.info? 76).map (·.size) = some 8 by kernel_rfl)
  unfold spec_l04Arcs.f at h
  by_cases c1 : (a0.size : Int) < 1
  · rw [if_pos c1] at h
    have c1b : decide ((a0.size : Int) < 1) = true := decide_eq_true c1
    clear c1
    simp only [Option.some.injEq, Prod.mk.injEq] at h
    obtain ⟨rfl, rfl⟩ := h
    go_enter Try.func62, Try.ntmps62
    go_wp2
    refine bodyPost_ret (results_arr rfl _ _ w.heap.size 76 (enc (List.replicate 8 0)).toArray rfl ?_ Try.underlying76 rfl HZ.out) rfl ⟨rfl, (((Below.refl _ w).alloc (Nat.le_refl _) _).alloc (by simp) _).alloc (by simp; omega) _⟩
    exact ((Arr.new w 76 (List.replicate 8 0) _ zeros8).alloc _).alloc _
  · rw [if_neg c1] at h
    have c1b : decide ((a0.size : Int) < 1) = false := decide_eq_false c1
    by_cases c2 : (a0.size : Int) > 8
    · rw [if_pos c2] at h
      have c2b : decide (8 < (a0.size : Int)) = true := decide_eq_true c2
      clear c1 c2
      simp only [Option.some.injEq, Prod.mk.injEq] at h
      obtain ⟨rfl, rfl⟩ := h
      go_enter Try.func62, Try.ntmps62
      go_wp2
      refine bodyPost_ret (results_arr rfl _ _ w.heap.size 76 (enc (List.replicate 8 0)).toArray rfl ?_ Try.underlying76 rfl HZ.out) rfl ⟨rfl, (((Below.refl _ w).alloc (Nat.le_refl _) _).alloc (by simp) _).alloc (by simp; omega) _⟩
      exact ((Arr.new w 76 (List.replicate 8 0) _ zeros8).alloc _).alloc _
    · rw [if_neg c2] at h
      have c2b : decide (8 < (a0.size : Int)) = false := decide_eq_false c2
      have HS := Aside0.mk (show a0.size ≤ 8 by omega)
      clear c1 c2
      have H' := Aside0.mk h
      clear h
      go_enter Try.func62, Try.ntmps62
      go_wp2
      go_loopg [5, 6] k (fun kq v5 v6 w' => ∃ (x4_1 x5_1 : List Int) (x6_1 : Int), v6 = .int .i64 x6_1 ∧ Aside0 (spec_l04Arcs.l0 kq a0 x4_1 x5_1 x6_1 = some (r1, r2)) ∧ Aside0 (kq ≤ k) ∧ Aside0 (x4_1.length = 8) ∧ Aside0 (Arr w' w.heap.size 76 (List.replicate 8 0)) ∧ Aside0 (Arr w' (w.heap.size + 1 + 1) 76 x4_1) ∧ Aside0 (Kd.R (Kd.int .i64) 2 w' w.heap.size (fun k_ => k_ ≠ w.heap.size ∧ k_ ≠ w.heap.size + 1 + 1) v5 x5_1) ∧ Aside0 (w.heap.size + 3 ≤ w'.heap.size) ∧ Aside0 (Below w.heap.size w w'))
      case atStart =>
        refine ⟨List.replicate 8 0, [], 0, rfl, H', ⟨Nat.le_refl _⟩, ⟨by simp⟩, ⟨((Arr.new w 76 (List.replicate 8 0) _ zeros8).alloc _).alloc _⟩, ⟨?_⟩, ⟨?_⟩, ⟨by simp⟩, ⟨(((Below.refl _ w).alloc (Nat.le_refl _) _).alloc (by simp) _).alloc (by simp; omega) _⟩⟩
        · have := Arr.new ((w.alloc (.cells #[.int .i64 0, .int .i64 0, .int .i64 0, .int .i64 0, .int .i64 0, .int .i64 0, .int .i64 0, .int .i64 0] 76)).alloc (.cells #[] 2)) 76 (List.replicate 8 0) _ zeros8
          simpa using this
        · refine R_empty ?_ (by omega) (by omega)
          rw [Below.heap_alloc _ _ _ (by simp)]
          have := heap_alloc_new (w.alloc (.cells #[.int .i64 0, .int .i64 0, .int .i64 0, .int .i64 0, .int .i64 0, .int .i64 0, .int .i64 0, .int .i64 0] 76)) (.cells #[] 2)
          simpa using this
      case round =>
        clear H'
        obtain ⟨x4_1, x5_1, x6_1, rfl, HA, HK1, HL4, HO_2, HO_4, HO_5, HZ5, HB⟩ := hrel
        cases gk with
        | zero => exact absurd HA.out (by simp [spec_l04Arcs.l0])
        | succ k1 =>
          have H := HA.out
          clear HA
          simp only [spec_l04Arcs.l0] at H
          by_cases c8 : x6_1 < (a0.size : Int)
          · rw [if_pos c8] at H
            have c8b0 : decide (x6_1 < (a0.size : Int)) = true := decide_eq_true c8
            by_cases c9 : 0 ≤ x6_1
            · rw [if_pos c9] at H
              have c9b0 : decide (0 ≤ x6_1) = true := decide_eq_true c9
              have p11 := eq_true c9
              have q11 := eq_true c8
              have hx11 := bt_at a0 x6_1
              have HC9 := Aside0.mk c9
              clear c9 c8
              by_cases c12 : (bt a0 x6_1) = 40
              · rw [if_pos c12] at H
                have c12b0 : ((bt a0 x6_1) == 40) = true := beq_iff_eq.mpr c12
                have c12b1 : ((bt a0 x6_1) != 40) = false := bne_eq_false_iff_eq.mpr c12
                clear c12
                by_cases c13 : x5_1.length < 17592186044416
                · rw [if_pos c13] at H
                  have LM := Aside0.mk c13
                  clear c13
                  have H' := Aside0.mk H
                  clear H
                  go_wp2_with (first | ((with_reducible refine gate_builtin (b := .append) (xs := #[.tmp 31, .tmp 33]) rfl ?_); at_builtin; refine Kd.R_append (Kd.int .i64) (w0 := w) w.heap.size rfl (.tmp 31) (.tmp 33) 34 2 (.int .i64 0) 8 rfl Try.underlying34 infoI64 rfl (by decide) (by omega) u5 x5_1 x6_1 [.int .i64 x6_1] (fun k_ => k_ ≠ w.heap.size ∧ k_ ≠ w.heap.size + 1 + 1) (fun _ => False) rfl rfl ?aP (fun _ hk => hk.elim) ?aF ?aO ?aB ?aS ?aL ?_; (case aP => exact rfl); (case aB => exact HB.out); (case aF => exact fun k_ hk => by have := HZ5.out; omega); (case aO => exact HO_5.out); (case aS => exact below_size HB.out); (case aL => have := LM.out; omega); intro v108 w14 ho hb hg hat; have n1_ := Aside0.mk ho; have n2_ := Aside0.mk hb; have n3_ := Aside0.mk (HO_2.out.grown hg (fun e_ => (HO_5.out.1 _ e_.symm).1 rfl)); have n4_ := Aside0.mk (HO_4.out.grown hg (fun e_ => (HO_5.out.1 _ e_.symm).2 rfl)); have n5_ := Aside0.mk (show w.heap.size + 3 ≤ w14.heap.size by have := hg.size; have := HZ5.out; omega); clear HO_5 HB HO_2 HO_4 HZ5 ho hb hg hat))
                  go_roundg k1
                  case measure => have := HK1.out; omega
                  case rel => exact ⟨x4_1, x5_1 ++ [x6_1], wrap64 (x6_1 + 1), (by first | rfl | (simp; done) | (simp [*]; done)), H', ⟨by have := HK1.out; omega⟩, HL4, n3_, n4_, n1_, n5_, n2_⟩
                · rw [if_neg c13] at H
                  exact absurd H (by simp)
              · rw [if_neg c12] at H
                have c12b0 : ((bt a0 x6_1) == 40) = false := beq_eq_false_iff_ne.mpr c12
                have c12b1 : ((bt a0 x6_1) != 40) = true := bne_iff_ne.mpr c12
                clear c12
                by_cases c16 : (bt a0 x6_1) = 41
                · rw [if_pos c16] at H
                  have c16b0 : ((bt a0 x6_1) == 41) = true := beq_iff_eq.mpr c16
                  have c16b1 : ((bt a0 x6_1) != 41) = false := bne_eq_false_iff_eq.mpr c16
                  clear c16
                  by_cases c17 : 0 < x5_1.length
                  · rw [if_pos c17] at H
                    have c17b0 : decide (0 < x5_1.length) = true := decide_eq_true c17
                    have c17b1 : ((x5_1.length : Int) == 0) = false := beq_eq_false_iff_ne.mpr (by omega)
                    clear c17
                    obtain ⟨ji19, hji19⟩ : ∃ j_ : Int, (wrap64 ((x5_1.length : Int) - 1)) = j_ := ⟨_, rfl⟩
                    simp only [hji19] at H
                    have hji19w : (IntKind.i64.wrap ((x5_1.length : Int) - 1)) = ji19 := (i64_w _).trans hji19
                    by_cases c20 : 0 ≤ ji19
                    · rw [if_pos c20] at H
                      by_cases c21 : ji19 < (x5_1.length : Int)
                      · rw [if_pos c21] at H
                        by_cases c23 : 0 ≤ rd x5_1 ji19
                        · rw [if_pos c23] at H
                          by_cases c24 : rd x5_1 ji19 < 8
                          · rw [if_pos c24] at H
                            by_cases c25 : x6_1 < 8
                            · rw [if_pos c25] at H
                              have H' := Aside0.mk H
                              clear H
                              obtain ⟨Ao28, co28, eo28⟩ := Kd.R_slice HO_5.out
                              subst eo28
                              obtain ⟨ad110, e110, hx110⟩ := Kd.at_int (Kd.R_reads' HO_5.out).2.2 ji19 c20 c21
                              cases e110
                              obtain ⟨i029, hi029, _, hsz29, _⟩ := info_parts infoI64
                              have hcut29 := cut_to (P := Try.prog) 34 2 .i64 Try.underlying34 hi029 (some ad110) x5_1.length co28 ji19 c20 (by omega) (Kd.R_reads' HO_5.out).2.1
                              have hr29 := Aside0.mk (Kd.R_take (m := ji19.toNat) HO_5.out (by omega))
                              generalize htop : rd x5_1 ji19 = top at hx110 H' c23 c24
                              clear htop
                              have hl4 := HL4.out
                              have hc1 := HO_4.out.cell top c23 (by omega)
                              have hf1 := HO_4.out.frozen top.toNat
                              have s1 := HO_4.out.set top.toNat x6_1
                              have hc2 := s1.cell x6_1 HC9.out (by rw [List.length_set]; omega)
                              have hf2 := s1.frozen x6_1.toNat
                              have s2 := Aside0.mk (s1.set x6_1.toNat top)
                              have n3_ := Aside0.mk ((HO_2.out.far (p := ⟨w.heap.size + 1 + 1, top.toNat, none⟩) (by simp; omega) (.int .i64 x6_1)).far (p := ⟨w.heap.size + 1 + 1, x6_1.toNat, none⟩) (by simp; omega) (.int .i64 top))
                              have n1_ := Aside0.mk (Kd.R_move hr29.out (w1 := (wr.setCell ⟨w.heap.size + 1 + 1, top.toNat, none⟩ (.int .i64 x6_1)).setCell ⟨w.heap.size + 1 + 1, x6_1.toNat, none⟩ (.int .i64 top)) (fun k_ hk => by rw [Below.heap_setCell _ _ _ _ hk.2, Below.heap_setCell _ _ _ _ hk.2]))
                              have n2_ := Aside0.mk ((HB.out.setCell (p := ⟨w.heap.size + 1 + 1, top.toNat, none⟩) (by simp; omega) (.int .i64 x6_1)).setCell (p := ⟨w.heap.size + 1 + 1, x6_1.toNat, none⟩) (by simp; omega) (.int .i64 top))
                              have n5_ := Aside0.mk (show w.heap.size + 3 ≤ ((wr.setCell ⟨w.heap.size + 1 + 1, top.toNat, none⟩ (.int .i64 x6_1)).setCell ⟨w.heap.size + 1 + 1, x6_1.toNat, none⟩ (.int .i64 top)).heap.size by have := HZ5.out; simp [World.setCell]; omega)
                              have hy29 : (x5_1.take ji19.toNat).length = ji19.toNat := by rw [List.length_take]; omega
                              clear HO_4 s1 HO_2 hr29 HO_5 HB hi029 hsz29 hl4 HZ5
                              have p20 := eq_true c20
                              have q20 := eq_true c21
                              have p23 := eq_true c23
                              have q23 := eq_true c24
                              have q25 := eq_true c25
                              clear c20 c21 c23 c24 c25
                              go_wp2
                              go_roundg k1
                              case measure => have := HK1.out; omega
                              case rel =>
                                refine ⟨(x4_1.set top.toNat x6_1).set x6_1.toNat top, x5_1.take ji19.toNat, wrap64 (x6_1 + 1), (by first | rfl | (simp; done) | (simp [*]; done)), H', ⟨by have := HK1.out; omega⟩, ⟨by rw [List.length_set, List.length_set]; exact HL4.out⟩, n3_, s2, n1_, n5_, n2_⟩
                            · rw [if_neg c25] at H
                              exact absurd H (by simp)
                          · rw [if_neg c24] at H
                            exact absurd H (by simp)
                        · rw [if_neg c23] at H
                          exact absurd H (by simp)
                      · rw [if_neg c21] at H
                        exact absurd H (by simp)
                    · rw [if_neg c20] at H
                      exact absurd H (by simp)
                  · rw [if_neg c17] at H
                    have c17b0 : decide (0 < x5_1.length) = false := decide_eq_false c17
                    have c17b1 : ((x5_1.length : Int) == 0) = true := beq_iff_eq.mpr (by omega)
                    clear c17
                    simp only [Option.some.injEq, Prod.mk.injEq] at H
                    obtain ⟨rfl, rfl⟩ := H
                    obtain ⟨Ao34, co34, eo34⟩ := Kd.R_slice HO_5.out
                    subst eo34
                    have hi4 := HZ.out
                    rw [← encSize HL4.out] at hi4
                    go_wp2_with (first | (refine wpList_load_row rfl 76 _ rfl (w.heap.size + 1 + 1) rfl 76 (enc x4_1).toArray (0, 0) _ HO_4.out Try.underlying76 rfl hi4 ?_) | (refine wpList_store_row rfl 76 _ _ rfl w.heap.size (enc x4_1).toArray rfl rfl 76 (enc (List.replicate 8 0)).toArray HO_2.out hi4 (by rw [encSize HL4.out]; rfl) (enc_one _) ?_))
                    refine bodyPost_ret (results_arr rfl _ _ w.heap.size 76 (enc x4_1).toArray rfl (HO_2.out.row x4_1) Try.underlying76 rfl hi4) rfl ⟨?_, ?_⟩
                    · first | rfl | (simp; done)
                    · exact below_setRow HB.out (Nat.le_refl _) _
                · rw [if_neg c16] at H
                  have c16b0 : ((bt a0 x6_1) == 41) = false := beq_eq_false_iff_ne.mpr c16
                  have c16b1 : ((bt a0 x6_1) != 41) = true := bne_iff_ne.mpr c16
                  clear c16
                  by_cases c26 : (bt a0 x6_1) = 124
                  · rw [if_pos c26] at H
                    have c26b0 : ((bt a0 x6_1) == 124) = true := beq_iff_eq.mpr c26
                    clear c26
                    by_cases c27 : 0 < x5_1.length
                    · rw [if_pos c27] at H
                      have c27b0 : decide (0 < x5_1.length) = true := decide_eq_true c27
                      have c27b1 : decide (0 < (x5_1.length : Int)) = true := decide_eq_true (by omega)
                      clear c27
                      simp only [Option.some.injEq, Prod.mk.injEq] at H
                      obtain ⟨rfl, rfl⟩ := H
                      obtain ⟨Ao34, co34, eo34⟩ := Kd.R_slice HO_5.out
                      subst eo34
                      have hi4 := HZ.out
                      rw [← encSize HL4.out] at hi4
                      go_wp2_with (first | (refine wpList_load_row rfl 76 _ rfl (w.heap.size + 1 + 1) rfl 76 (enc x4_1).toArray (0, 0) _ HO_4.out Try.underlying76 rfl hi4 ?_) | (refine wpList_store_row rfl 76 _ _ rfl w.heap.size (enc x4_1).toArray rfl rfl 76 (enc (List.replicate 8 0)).toArray HO_2.out hi4 (by rw [encSize HL4.out]; rfl) (enc_one _) ?_))
                      refine bodyPost_ret (results_arr rfl _ _ w.heap.size 76 (enc x4_1).toArray rfl (HO_2.out.row x4_1) Try.underlying76 rfl hi4) rfl ⟨?_, ?_⟩
                      · first | rfl | (simp; done)
                      · exact below_setRow HB.out (Nat.le_refl _) _
                    · rw [if_neg c27] at H
                      have c27b0 : decide (0 < x5_1.length) = false := decide_eq_false c27
                      have c27b1 : decide (0 < (x5_1.length : Int)) = false := decide_eq_false (by omega)
                      clear c27
                      by_cases c28 : x6_1 < 8
                      · rw [if_pos c28] at H
                        have H' := Aside0.mk H
                        clear H
                        obtain ⟨Ao28, co28, eo28⟩ := Kd.R_slice HO_5.out
                        subst eo28
                        have hl4 := HL4.out
                        have hc1 := HO_4.out.cell x6_1 HC9.out (by omega)
                        have hf1 := HO_4.out.frozen x6_1.toNat
                        have s1 := Aside0.mk (HO_4.out.set x6_1.toNat x6_1)
                        have n3_ := Aside0.mk (HO_2.out.far (p := ⟨w.heap.size + 1 + 1, x6_1.toNat, none⟩) (by simp; omega) (.int .i64 x6_1))
                        have n1_ := Aside0.mk (Kd.R_move HO_5.out (w1 := wr.setCell ⟨w.heap.size + 1 + 1, x6_1.toNat, none⟩ (.int .i64 x6_1)) (fun k_ hk => by rw [Below.heap_setCell _ _ _ _ hk.2]))
                        have n2_ := Aside0.mk (HB.out.setCell (p := ⟨w.heap.size + 1 + 1, x6_1.toNat, none⟩) (by simp; omega) (.int .i64 x6_1))
                        have n5_ := Aside0.mk (show w.heap.size + 3 ≤ (wr.setCell ⟨w.heap.size + 1 + 1, x6_1.toNat, none⟩ (.int .i64 x6_1)).heap.size by have := HZ5.out; simp [World.setCell]; omega)
                        clear HO_4 HO_2 HO_5 HB hl4 HZ5
                        have q25 := eq_true c28
                        clear c28
                        go_wp2
                        go_roundg k1
                        case measure => have := HK1.out; omega
                        case rel =>
                          refine ⟨x4_1.set x6_1.toNat x6_1, x5_1, wrap64 (x6_1 + 1), (by first | rfl | (simp; done) | (simp [*]; done)), H', ⟨by have := HK1.out; omega⟩, ⟨by rw [List.length_set]; exact HL4.out⟩, n3_, s1, n1_, n5_, n2_⟩
                      · rw [if_neg c28] at H
                        exact absurd H (by simp)
                  · rw [if_neg c26] at H
                    have c26b0 : ((bt a0 x6_1) == 124) = false := beq_eq_false_iff_ne.mpr c26
                    clear c26
                    simp only [Option.some.injEq, Prod.mk.injEq] at H
                    obtain ⟨rfl, rfl⟩ := H
                    obtain ⟨Ao34, co34, eo34⟩ := Kd.R_slice HO_5.out
                    subst eo34
                    have hi4 := HZ.out
                    rw [← encSize HL4.out] at hi4
                    go_wp2_with (first | (refine wpList_load_row rfl 76 _ rfl (w.heap.size + 1 + 1) rfl 76 (enc x4_1).toArray (0, 0) _ HO_4.out Try.underlying76 rfl hi4 ?_) | (refine wpList_store_row rfl 76 _ _ rfl w.heap.size (enc x4_1).toArray rfl rfl 76 (enc (List.replicate 8 0)).toArray HO_2.out hi4 (by rw [encSize HL4.out]; rfl) (enc_one _) ?_))
                    refine bodyPost_ret (results_arr rfl _ _ w.heap.size 76 (enc x4_1).toArray rfl (HO_2.out.row x4_1) Try.underlying76 rfl hi4) rfl ⟨?_, ?_⟩
                    · first | rfl | (simp; done)
                    · exact below_setRow HB.out (Nat.le_refl _) _
            · rw [if_neg c9] at H
              exact absurd H (by simp)
          · rw [if_neg c8] at H
            have c8b0 : decide (x6_1 < (a0.size : Int)) = false := decide_eq_false c8
            clear c8
            simp only [Option.some.injEq, Prod.mk.injEq] at H
            obtain ⟨rfl, rfl⟩ := H
            obtain ⟨Ao34, co34, eo34⟩ := Kd.R_slice HO_5.out
            subst eo34
            have hi4 := HZ.out
            rw [← encSize HL4.out] at hi4
            go_wp2_with (first | (refine wpList_load_row rfl 76 _ rfl (w.heap.size + 1 + 1) rfl 76 (enc x4_1).toArray (0, 0) _ HO_4.out Try.underlying76 rfl hi4 ?_) | (refine wpList_store_row rfl 76 _ _ rfl w.heap.size (enc x4_1).toArray rfl rfl 76 (enc (List.replicate 8 0)).toArray HO_2.out hi4 (by rw [encSize HL4.out]; rfl) (enc_one _) ?_))
            refine bodyPost_ret (results_arr rfl _ _ w.heap.size 76 (enc x4_1).toArray rfl (HO_2.out.row x4_1) Try.underlying76 rfl hi4) rfl ⟨?_, ?_⟩
            · first | rfl | (simp; done)
            · exact below_setRow HB.out (Nat.le_refl _) _
theorem spec_l04Arcs.len_l : ∀ (k : Nat) (s : ByteArray) (o st : List Int) (i : Int) (r : List Int × Bool), o.length = 8 → spec_l04Arcs.l0 k s o st i = some r → r.1.length = 8 := by
  intro k
  induction k with
  | zero => intro s o st i r ho h; simp [spec_l04Arcs.l0] at h
  | succ k ih =>
    intro s o st i r ho h
    simp only [spec_l04Arcs.l0] at h
    repeat' (split at h)
    all_goals first
      | exact ih _ _ _ _ _ ho h
      | exact ih _ _ _ _ _ (by rw [List.length_set, List.length_set]; exact ho) h
      | exact ih _ _ _ _ _ (by rw [List.length_set]; exact ho) h
      | (cases h; exact ho)
      | cases h
theorem spec_l04Arcs.len {k : Nat} {s : ByteArray} {r : List Int × Bool} (h : spec_l04Arcs.f k s = some r) : r.1.length = 8 := by
  unfold spec_l04Arcs.f at h
  repeat' (split at h)
  · cases h; rfl
  · cases h; rfl
  · exact spec_l04Arcs.len_l k s _ _ _ _ (by simp) h
/-- spec.l04Is in plain words. -/
def spec_l04Is.f (k : Nat) (a0 : ByteArray) : Option Bool := (spec_l04Arcs.f k a0).bind fun b => some b.2
theorem spec_l04Arcs.mono_l : ∀ k, ∀ y0 y1 y2 y3, LeO (spec_l04Arcs.l0 k y0 y1 y2 y3) (spec_l04Arcs.l0 (k + 1) y0 y1 y2 y3)
  | 0 => fun _ _ _ _ r h => by simp [spec_l04Arcs.l0] at h
  | k + 1 => by
    have ih0 := spec_l04Arcs.mono_l k
    intro y0 y1 y2 y3
    unfold spec_l04Arcs.l0
    repeat' first
      | (with_reducible exact ih0 _ _ _ _)
      | (with_reducible exact LeO.refl _)
      | (with_reducible exact LeO.none _)
      | (with_reducible refine LeO.ite ?_ ?_)
      | exact ih0 _ _ _ _
      | exact LeO.none _
      | refine LeO.ite ?_ ?_
theorem spec_l04Arcs.mono (a0 : ByteArray) (k : Nat) : LeO (spec_l04Arcs.f k a0) (spec_l04Arcs.f (k + 1) a0) := by
  unfold spec_l04Arcs.f
  exact LeO.ite (LeO.refl _) (LeO.ite (LeO.refl _) (spec_l04Arcs.mono_l k _ _ _ _))
theorem spec_l04Is.mono : ∀ a0 k, LeO (spec_l04Is.f k a0) (spec_l04Is.f (k + 1) a0) := fun a0 k => LeO.bind (spec_l04Arcs.mono a0 k) (fun _ => LeO.refl _)
set_option maxHeartbeats 2000000 in
theorem spec_l04Is.calls (k : Nat) (a0 : ByteArray) (r : Bool) (w : World) (h : spec_l04Is.f k a0 = some r) :
    Calls Try.prog 60 #[.string a0] w fun e w' => e = .returned (.bool r) ∧ Below w.heap.size w w' := by
  unfold spec_l04Is.f at h
  obtain ⟨⟨r1, r2⟩, h1, h2⟩ := Option.bind_eq_some_iff.1 h
  obtain rfl := Option.some.inj h2
  have HL := Aside0.mk (spec_l04Arcs.len h1)
  have HCALL := Aside0.mk (spec_l04Arcs.calls k a0 r1 r2 w h1)
  clear h h1 h2
  go_enter Try.func60, Try.ntmps60
  go_wp2_with fail
  refine HCALL.out.mono ?_
  rintro e w' ⟨rfl, hb⟩
  clear HCALL
  have hi : (Try.prog.info? 76).map (·.size) = some (enc r1).toArray.size := by rw [encSize HL.out]; kernel_rfl
  have HI := Aside0.mk hi
  clear hi
  go_wp2_with (refine wpList_store_row rfl 76 _ _ rfl w'.heap.size (enc r1).toArray rfl rfl 76 (enc (List.replicate 8 0)).toArray (Arr.new w' 76 (List.replicate 8 0) _ zeros8) HI.out (by rw [encSize HL.out]; rfl) (enc_one _) ?_)
  go_ret
  exact ⟨rfl, below_setRow (below_alloc hb _) (below_size hb) _⟩
end Go.Proofs.Ytmpdloamgiejhaa.Hand
