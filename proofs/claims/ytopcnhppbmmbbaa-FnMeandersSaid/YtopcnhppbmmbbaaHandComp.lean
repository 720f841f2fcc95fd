/- The contract of spec.l08Components: the number of the components of two texts, as the plain function 'spec_l08Components.f' tells it. No condition. -/
import Derived.Test.YtopcnhppbmmbbaaHandWalk
import Derived.Laws.Tables
import Derived.Laws.EntriesVeiled
namespace Go.Proofs.Ytopcnhppbmmbbaa.Hand
open Go.RowKit Go.Proofs.YtopcnhppbmmbbaaW.PrintWords Go.Proofs.YtopcnhppbmmbbaaW.PrintLast Go.Proofs.YtopcnhppbmmbbaaW.PrintMore
set_option linter.unusedVariables false
set_option linter.unusedSimpArgs false

def encB (o : List Bool) : List Value := o.map Value.bool
def rdb (o : List Bool) (i : Int) : Bool := o.getD i.toNat false
def ArrB (w : World) (g t : Nat) (o : List Bool) : Prop := w.heap[g]? = some (.cells (encB o).toArray t (0, 0))
theorem ArrB.cell {w : World} {g t : Nat} {o : List Bool} (h : ArrB w g t o) (i : Int) (h0 : 0 ≤ i) (h1 : i < (o.length : Int)) : w.cell? ⟨g, i.toNat, none⟩ = some (.bool (rdb o i)) := by
  obtain ⟨j, rfl⟩ := Int.eq_ofNat_of_zero_le h0
  rw [Int.toNat_natCast, cell_of_row w g j _ t (0, 0) h]
  unfold encB rdb
  rw [Int.toNat_natCast, List.getD_eq_getElem?_getD]
  have : j < o.length := by omega
  simp [List.getElem?_eq_getElem this]
theorem ArrB.frozen {w : World} {g t : Nat} {o : List Bool} (h : ArrB w g t o) (i : Nat) : w.frozen? ⟨g, i, none⟩ = false := frozen_of_row w g i _ t h
theorem ArrB.lt {w : World} {g t : Nat} {o : List Bool} (h : ArrB w g t o) : g < w.heap.size := (Array.getElem?_eq_some_iff.1 h).1
theorem ArrB.set {w : World} {g t : Nat} {o : List Bool} (h : ArrB w g t o) (i : Nat) (v : Bool) : ArrB (w.setCell ⟨g, i, none⟩ (.bool v)) g t (o.set i v) := by
  unfold ArrB at *
  rw [heap_setCell_same w g i _ t _ h]
  congr 2
  unfold encB
  rw [List.map_set]
  simp
theorem ArrB.below {w w' : World} {g t : Nat} {o : List Bool} (h : ArrB w g t o) (hb : Below w.heap.size w w') : ArrB w' g t o := (hb.block g h.lt).trans h
theorem Arr.below {w w' : World} {g t : Nat} {o : List Int} (h : Arr w g t o) (hb : Below w.heap.size w w') : Arr w' g t o := (hb.block g h.lt).trans h
theorem ArrB.new (w : World) (t : Nat) (o : List Bool) (cs : Array Value) (h : cs = (encB o).toArray) : ArrB (w.alloc (.cells cs t)) w.heap.size t o := by
  subst h
  exact heap_alloc_new w _
theorem falses12 : (#[.bool false, .bool false, .bool false, .bool false, .bool false, .bool false, .bool false, .bool false, .bool false, .bool false, .bool false, .bool false] : Array Value) = (encB (List.replicate 12 false)).toArray := rfl
/-- All places of a list are marked. -/
def markAll : List Bool → List Int → Option (List Bool)
  | met, [] => some met
  | met, x :: xs => if 0 ≤ x then (if x < 12 then markAll (met.set x.toNat true) xs else none) else none
def spec_l08Components.l0 : Nat → Nat → List Int → List Int → List Bool → Nat → Nat → Option Nat
  | 0, _, _, _, _, _, _ => none
  | k + 1, n, o1, o2, met, out, i => if i < n then (if i < 12 then (if rdb met i = true then spec_l08Components.l0 k n o1 o2 met out (i + 1) else (if out ≤ 1000000 then ((spec_l08Walk.f k o1 o2 i).bind fun l => if l.length ≤ 1000000 then ((markAll met l).bind fun met' => spec_l08Components.l0 k n o1 o2 met' (out + 1) (i + 1)) else none) else none)) else none) else some out
/-- spec.l08Components in plain words. -/
def spec_l08Components.f (k : Nat) (a0 a1 : ByteArray) : Option Int := (spec_l08Arcs.f k a0).bind fun A => (spec_l08Arcs.f k a1).bind fun B => (spec_l08Components.l0 k a0.size A.1 B.1 (List.replicate 12 false) 0 0).bind fun n => some (n : Int)
theorem spec_l08Walk.mono_l : ∀ k, ∀ y0 y1 y2 y3 y4 y5, LeO (spec_l08Walk.l0 k y0 y1 y2 y3 y4 y5) (spec_l08Walk.l0 (k + 1) y0 y1 y2 y3 y4 y5)
  | 0 => fun _ _ _ _ _ _ r h => by simp [spec_l08Walk.l0] at h
  | k + 1 => by
    have ih0 := spec_l08Walk.mono_l k
    intro y0 y1 y2 y3 y4 y5
    unfold spec_l08Walk.l0
    repeat' first
      | (with_reducible exact ih0 _ _ _ _ _ _)
      | (with_reducible exact LeO.refl _)
      | (with_reducible exact LeO.none _)
      | (with_reducible refine LeO.ite ?_ ?_)
      | exact ih0 _ _ _ _ _ _
theorem spec_l08Walk.mono (o1 o2 : List Int) (i : Int) (k : Nat) : LeO (spec_l08Walk.f k o1 o2 i) (spec_l08Walk.f (k + 1) o1 o2 i) := by
  unfold spec_l08Walk.f
  exact LeO.ite (LeO.ite (spec_l08Walk.mono_l k _ _ _ _ _ _) (LeO.refl _)) (LeO.refl _)
theorem spec_l08Components.mono_l : ∀ k, ∀ y0 y1 y2 y3 y4 y5, LeO (spec_l08Components.l0 k y0 y1 y2 y3 y4 y5) (spec_l08Components.l0 (k + 1) y0 y1 y2 y3 y4 y5)
  | 0 => fun _ _ _ _ _ _ r h => by simp [spec_l08Components.l0] at h
  | k + 1 => by
    have ih0 := spec_l08Components.mono_l k
    intro y0 y1 y2 y3 y4 y5
    unfold spec_l08Components.l0
    repeat' first
      | (with_reducible exact ih0 _ _ _ _ _ _)
      | (with_reducible exact spec_l08Walk.mono _ _ _ _)
      | (with_reducible exact LeO.refl _)
      | (with_reducible exact LeO.none _)
      | (with_reducible refine LeO.ite ?_ ?_)
      | (with_reducible refine LeO.bind ?_ (fun _ => ?_))
      | exact ih0 _ _ _ _ _ _
theorem spec_l08Components.mono (a0 a1 : ByteArray) (k : Nat) : LeO (spec_l08Components.f k a0 a1) (spec_l08Components.f (k + 1) a0 a1) := by
  unfold spec_l08Components.f
  exact LeO.bind (spec_l08Arcs.mono a0 k) (fun _ => LeO.bind (spec_l08Arcs.mono a1 k) (fun _ => LeO.bind (spec_l08Components.mono_l k _ _ _ _ _ _) (fun _ => LeO.refl _)))
set_option maxHeartbeats 8000000 in
set_option maxRecDepth 100000 in
theorem spec_l08Components.calls (k : Nat) (a0 a1 : ByteArray) (r : Int) (w : World) (h : spec_l08Components.f k a0 a1 = some r) :
    Calls Try.prog 26 #[.string a0, .string a1] w fun e w' => e = .returned (.int .i64 r) ∧ Below w.heap.size w w' := by
  unfold spec_l08Components.f at h
  obtain ⟨⟨o1, b1⟩, h1, h⟩ := Option.bind_eq_some_iff.1 h
  obtain ⟨⟨o2, b2⟩, h2, h⟩ := Option.bind_eq_some_iff.1 h
  obtain ⟨n, h3, h⟩ := Option.bind_eq_some_iff.1 h
  obtain rfl := Option.some.inj h
  have HL1 := Aside0.mk (spec_l08Arcs.len h1)
  have HL2 := Aside0.mk (spec_l08Arcs.len h2)
  have HC1 := Aside0.mk (spec_l08Arcs.calls k a0 o1 b1 w h1)
  have HC2 := Aside0.mk (fun W => spec_l08Arcs.calls k a1 o2 b2 W h2)
  have H' := Aside0.mk h3
  clear h h1 h2 h3
  go_enter Try.func26, Try.ntmps26
  go_wp2_with fail
  refine HC1.out.mono ?_
  rintro e w1 ⟨rfl, hb1⟩
  have HI1 := Aside0.mk (show (Try.prog.info? 49).map (·.size) = some (enc o1).toArray.size by rw [encSize HL1.out]; kernel_rfl)
  have HI2 := Aside0.mk (show (Try.prog.info? 49).map (·.size) = some (enc o2).toArray.size by rw [encSize HL2.out]; kernel_rfl)
  have HB1 := Aside0.mk hb1
  clear HC1 hb1
  go_wp2_with (refine wpList_store_row rfl 49 _ _ rfl w1.heap.size (enc o1).toArray rfl rfl 49 (enc (List.replicate 12 0)).toArray (Arr.new w1 49 (List.replicate 12 0) _ zeros12) HI1.out (by rw [encSize HL1.out]; rfl) (enc_one _) ?_)
  refine (HC2.out _).mono ?_
  rintro e w2 ⟨rfl, hb2⟩
  have a1 := ((Arr.new w1 49 (List.replicate 12 0) _ zeros12).row o1).below hb2
  have hb3 := (below_setRow (below_alloc HB1.out (.cells (enc (List.replicate 12 0)).toArray 49)) (below_size HB1.out) (enc o1).toArray).trans (hb2.mono (by rw [size_setRow]; have := below_size HB1.out; simp; omega))
  have hlt : w1.heap.size < w2.heap.size := a1.lt
  have HA1 := Aside0.mk a1
  have HB2 := Aside0.mk hb3
  have HLT := Aside0.mk hlt
  clear HC2 hb2 a1 hb3 hlt
  go_wp2_with (refine wpList_store_row rfl 49 _ _ rfl w2.heap.size (enc o2).toArray rfl rfl 49 (enc (List.replicate 12 0)).toArray (Arr.new w2 49 (List.replicate 12 0) _ zeros12) HI2.out (by rw [encSize HL2.out]; rfl) (enc_one _) ?_)
  have z1 := Aside0.mk (((HA1.out.alloc (.cells #[.int .i64 0, .int .i64 0, .int .i64 0, .int .i64 0, .int .i64 0, .int .i64 0, .int .i64 0, .int .i64 0, .int .i64 0, .int .i64 0, .int .i64 0, .int .i64 0] 49)).row_far (by have := HLT.out; omega : w1.heap.size ≠ w2.heap.size) (enc o2).toArray).alloc (.cells #[.bool false, .bool false, .bool false, .bool false, .bool false, .bool false, .bool false, .bool false, .bool false, .bool false, .bool false, .bool false] 62))
  have z2 := Aside0.mk (((Arr.new w2 49 (List.replicate 12 0) #[.int .i64 0, .int .i64 0, .int .i64 0, .int .i64 0, .int .i64 0, .int .i64 0, .int .i64 0, .int .i64 0, .int .i64 0, .int .i64 0, .int .i64 0, .int .i64 0] zeros12).row o2).alloc (.cells #[.bool false, .bool false, .bool false, .bool false, .bool false, .bool false, .bool false, .bool false, .bool false, .bool false, .bool false, .bool false] 62))
  have z3 : ArrB (((w2.alloc (.cells #[.int .i64 0, .int .i64 0, .int .i64 0, .int .i64 0, .int .i64 0, .int .i64 0, .int .i64 0, .int .i64 0, .int .i64 0, .int .i64 0, .int .i64 0, .int .i64 0] 49)).setRow w2.heap.size (enc o2).toArray).alloc (.cells #[.bool false, .bool false, .bool false, .bool false, .bool false, .bool false, .bool false, .bool false, .bool false, .bool false, .bool false, .bool false] 62)) (w2.heap.size + 1) 62 (List.replicate 12 false) := by
    have := ArrB.new ((w2.alloc (.cells #[.int .i64 0, .int .i64 0, .int .i64 0, .int .i64 0, .int .i64 0, .int .i64 0, .int .i64 0, .int .i64 0, .int .i64 0, .int .i64 0, .int .i64 0, .int .i64 0] 49)).setRow w2.heap.size (enc o2).toArray) 62 (List.replicate 12 false) #[.bool false, .bool false, .bool false, .bool false, .bool false, .bool false, .bool false, .bool false, .bool false, .bool false, .bool false, .bool false] falses12
    simpa using this
  have z4 := Aside0.mk (below_alloc (below_setRow (below_alloc HB2.out (.cells #[.int .i64 0, .int .i64 0, .int .i64 0, .int .i64 0, .int .i64 0, .int .i64 0, .int .i64 0, .int .i64 0, .int .i64 0, .int .i64 0, .int .i64 0, .int .i64 0] 49)) (below_size HB2.out) (enc o2).toArray) (.cells #[.bool false, .bool false, .bool false, .bool false, .bool false, .bool false, .bool false, .bool false, .bool false, .bool false, .bool false, .bool false] 62))
  have z5 : w2.heap.size + 2 ≤ (((w2.alloc (.cells #[.int .i64 0, .int .i64 0, .int .i64 0, .int .i64 0, .int .i64 0, .int .i64 0, .int .i64 0, .int .i64 0, .int .i64 0, .int .i64 0, .int .i64 0, .int .i64 0] 49)).setRow w2.heap.size (enc o2).toArray).alloc (.cells #[.bool false, .bool false, .bool false, .bool false, .bool false, .bool false, .bool false, .bool false, .bool false, .bool false, .bool false, .bool false] 62)).heap.size := by simp
  have Z3 := Aside0.mk z3
  have Z5 := Aside0.mk z5
  have HW2 := Aside0.mk (below_size HB2.out)
  have HW1 := Aside0.mk (below_size HB1.out)
  clear z3 z5 HA1 HB2 HB1
  go_loopg [10, 11] k (fun kq v10 v11 w' => ∃ (met : List Bool) (out i : Nat), v10 = .int .i64 (out : Int) ∧ v11 = .int .i64 (i : Int) ∧ Aside0 (spec_l08Components.l0 kq a0.size o1 o2 met out i = some n) ∧ Aside0 (kq ≤ k) ∧ Aside0 (met.length = 12) ∧ Aside0 (Arr w' w1.heap.size 49 o1) ∧ Aside0 (Arr w' w2.heap.size 49 o2) ∧ Aside0 (ArrB w' (w2.heap.size + 1) 62 met) ∧ Aside0 (w2.heap.size + 2 ≤ w'.heap.size) ∧ Aside0 (Below w.heap.size w w'))
  case atStart => exact ⟨List.replicate 12 false, 0, 0, rfl, rfl, H', ⟨Nat.le_refl _⟩, ⟨by simp⟩, z1, z2, Z3, Z5, z4⟩
  case round =>
    clear H' z1 z2 Z3 Z5 z4
    obtain ⟨met, out, i, rfl, rfl, HA, HK1, HM, HO1, HO2, HO3, HZ, HB⟩ := hrel
    cases gk with
    | zero => exact absurd HA.out (by simp [spec_l08Components.l0])
    | succ k1 =>
      have H := HA.out
      clear HA
      simp only [spec_l08Components.l0] at H
      by_cases c1 : i < a0.size
      · rw [if_pos c1] at H
        have c1b : decide ((i : Int) < (a0.size : Int)) = true := decide_eq_true (by omega)
        have c1b' : decide (i < a0.size) = true := decide_eq_true (by omega)
        clear c1
        by_cases c2 : i < 12
        · rw [if_pos c2] at H
          have q2 : ((i : Int) < 12) = True := eq_true (by omega)
          have p2 : (0 ≤ (i : Int)) = True := eq_true (by omega)
          have hcell := HO3.out.cell (i : Int) (by omega) (by have := HM.out; omega)
          rw [Int.toNat_natCast] at hcell
          have C2 := Aside0.mk c2
          by_cases c3 : rdb met (i : Int) = true
          · rw [if_pos c3] at H
            rw [c3] at hcell
            have H' := Aside0.mk H
            clear H c3
            go_wp2
            go_roundg k1
            case measure => have := HK1.out; omega
            case rel => exact ⟨met, out, i + 1, rfl, by (try simp only [Int.natCast_add]); rfl, H', ⟨by have := HK1.out; omega⟩, HM, HO1, HO2, HO3, HZ, HB⟩
          · rw [if_neg c3] at H
            rw [Bool.not_eq_true] at c3
            rw [c3] at hcell
            clear c3
            by_cases c4 : out ≤ 1000000
            · rw [if_pos c4] at H
              obtain ⟨l, hw, H⟩ := Option.bind_eq_some_iff.1 H
              by_cases c5 : l.length ≤ 1000000
              · rw [if_pos c5] at H
                obtain ⟨met', hm, H⟩ := Option.bind_eq_some_iff.1 H
                have H' := Aside0.mk H
                have HMA := Aside0.mk hm
                have HC5 := Aside0.mk c5
                have HCW := Aside0.mk (spec_l08Walk.calls k1 o1 o2 (i : Int) l wr HL1.out HL2.out hw)
                clear H hm hw c5 c2
                go_wp2_with (first | (refine wpList_load_row rfl 49 _ rfl w1.heap.size rfl 49 (enc o1).toArray (0, 0) _ HO1.out Try.underlying49 rfl HI1.out ?_) | (refine wpList_load_row rfl 49 _ rfl w2.heap.size rfl 49 (enc o2).toArray (0, 0) _ HO2.out Try.underlying49 rfl HI2.out ?_))
                refine HCW.out.mono ?_
                rintro e w3 ⟨v0, rfl, hr, hb⟩
                have n1_ := Aside0.mk (HO1.out.below hb)
                have n2_ := Aside0.mk (HO2.out.below hb)
                have n3_ := Aside0.mk (HO3.out.below hb)
                have n4_ := Aside0.mk (Nat.le_trans HZ.out hb.size)
                have n5_ := Aside0.mk (HB.out.trans (hb.mono (below_size HB.out)))
                have n6_ := Aside0.mk (Kd.R_mono (ok' := fun k_ => w2.heap.size + 2 ≤ k_) (Kd.R_bound (Kd.R_lower (base' := w2.heap.size + 2) hr HZ.out)) (fun k_ hk => hk.2.1))
                obtain ⟨Ao, co, eo⟩ := Kd.R_slice n6_.out
                subst eo
                clear HCW hr hb HO1 HO2 HO3 HZ HB hcell p2 q2 c1b c1b'
                go_wp2
                go_loopg [13] (l.length + 1) (fun kq v13 w' => ∃ (j : Nat) (mj : List Bool), v13 = .int .i64 (j : Int) ∧ Aside0 (kq + j = l.length + 1) ∧ Aside0 (j ≤ l.length) ∧ Aside0 (markAll mj (l.drop j) = some met') ∧ Aside0 (mj.length = 12) ∧ Aside0 (Arr w' w1.heap.size 49 o1) ∧ Aside0 (Arr w' w2.heap.size 49 o2) ∧ Aside0 (ArrB w' (w2.heap.size + 1) 62 mj) ∧ Aside0 (w2.heap.size + 2 ≤ w'.heap.size) ∧ Aside0 (Below w.heap.size w w') ∧ Aside0 (Kd.R (Kd.int .i64) 2 w' (w2.heap.size + 2) (fun k_ => w2.heap.size + 2 ≤ k_) (.slice Ao l.length co) l))
                case atStart => exact ⟨0, met, rfl, ⟨rfl⟩, ⟨by omega⟩, HMA, HM, n1_, n2_, n3_, n4_, n5_, n6_⟩
                case round =>
                  clear HMA n1_ n2_ n3_ n4_ n5_ n6_ HM
                  obtain ⟨j, mj, rfl, E1, E2, E3, EM, F1, F2, F3, FZ, FB, FR⟩ := hrel
                  by_cases d1 : j < l.length
                  · have d1b : decide ((j : Int) < (l.length : Int)) = true := decide_eq_true (by omega)
                    have d1b' : decide (j < l.length) = true := decide_eq_true d1
                    have e3 := E3.out
                    have ev : rd l (j : Int) = l[j] := by
                      unfold rd
                      rw [Int.toNat_natCast, List.getD_eq_getElem?_getD]
                      simp [d1]
                    rw [List.drop_eq_getElem_cons d1, ← ev] at e3
                    simp only [markAll] at e3
                    obtain ⟨ad, ea, hx⟩ := Kd.at_int (Kd.R_reads' FR.out).2.2 (j : Int) (by omega) (by omega)
                    cases ea
                    rw [Int.toNat_natCast] at hx
                    generalize rd l (j : Int) = x at e3 hx
                    clear ev
                    by_cases d2 : 0 ≤ x
                    · rw [if_pos d2] at e3
                      by_cases d3 : x < 12
                      · rw [if_pos d3] at e3
                        have E3' := Aside0.mk e3
                        have hc1 := F3.out.cell x d2 (by have := EM.out; omega)
                        have hf1 := F3.out.frozen x.toNat
                        have s1 := Aside0.mk (F3.out.set x.toNat true)
                        have m1 := Aside0.mk (F1.out.far (p := ⟨w2.heap.size + 1, x.toNat, none⟩) (by have := HLT.out; simp; omega) (.bool true))
                        have m2 := Aside0.mk (F2.out.far (p := ⟨w2.heap.size + 1, x.toNat, none⟩) (by simp) (.bool true))
                        have m3 := Aside0.mk (Kd.R_move FR.out (w1 := wr.setCell ⟨w2.heap.size + 1, x.toNat, none⟩ (.bool true)) (fun k_ hk => Below.heap_setCell _ _ _ _ (by simp; omega)))
                        have m4 := Aside0.mk (FB.out.setCell (p := ⟨w2.heap.size + 1, x.toNat, none⟩) (by have := HW2.out; simp; omega) (.bool true))
                        have m5 := Aside0.mk (show w2.heap.size + 2 ≤ (wr.setCell ⟨w2.heap.size + 1, x.toNat, none⟩ (.bool true)).heap.size by have := FZ.out; simp [World.setCell]; omega)
                        have pj : (0 ≤ (j : Int)) = True := eq_true (by omega)
                        have qj : ((j : Int) < (l.length : Int)) = True := eq_true (by omega)
                        have qj' : (j < l.length) = True := eq_true d1
                        have p2 := eq_true d2
                        have q2 := eq_true d3
                        have HJ : j ≤ 1000000 := by have := HC5.out; omega
                        have HD1 := Aside0.mk d1
                        clear e3 E3 F1 F2 F3 FZ FB FR d2 d3 d1
                        cases gk with
                        | zero => exact absurd E1.out (by have := E2.out; omega)
                        | succ k2 =>
                          go_wp2
                          go_roundg k2
                          case measure => have := E1.out; omega
                          case rel => exact ⟨j + 1, mj.set x.toNat true, by (try simp only [Int.natCast_add]); rfl, ⟨by have := E1.out; omega⟩, ⟨by have := HD1.out; omega⟩, E3', ⟨by rw [List.length_set]; exact EM.out⟩, m1, m2, s1, m5, m4, m3⟩
                      · rw [if_neg d3] at e3
                        cases e3
                    · rw [if_neg d2] at e3
                      cases e3
                  · have d1b : decide ((j : Int) < (l.length : Int)) = false := decide_eq_false (by omega)
                    have d1b' : decide (j < l.length) = false := decide_eq_false d1
                    have e3 := E3.out
                    rw [List.drop_eq_nil_of_le (by omega)] at e3
                    simp only [markAll, Option.some.injEq] at e3
                    subst e3
                    clear d1
                    have c2 := C2.out
                    go_wp2
                    go_roundg k1
                    case measure => have := HK1.out; omega
                    case rel => exact ⟨mj, out + 1, i + 1, by (try simp only [Int.natCast_add]); rfl, by (try simp only [Int.natCast_add]); rfl, H', ⟨by have := HK1.out; omega⟩, EM, F1, F2, F3, FZ, FB⟩
              · rw [if_neg c5] at H
                cases H
            · rw [if_neg c4] at H
              cases H
        · rw [if_neg c2] at H
          cases H
      · rw [if_neg c1] at H
        have c1b : decide ((i : Int) < (a0.size : Int)) = false := decide_eq_false (by omega)
        have c1b' : decide (i < a0.size) = false := decide_eq_false (by omega)
        clear c1
        obtain rfl := Option.some.inj H
        clear H
        go_wp2
        go_ret
        exact ⟨rfl, HB.out⟩
end Go.Proofs.Ytopcnhppbmmbbaa.Hand
