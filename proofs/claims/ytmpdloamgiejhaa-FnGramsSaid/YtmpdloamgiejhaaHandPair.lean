/- The contract of spec.l04Pair, for two texts whose arcs lie within eight places. Condition: said in the theorem. -/
import Derived.Test.YtmpdloamgiejhaaHandAllE
import Derived.Test.YtmpdloamgiejhaaHandHalt
namespace Go.Proofs.Ytmpdloamgiejhaa.Hand
open Go.RowKit Go.Proofs.YtmpdloamgiejhaaW.PrintWords Go.Proofs.YtmpdloamgiejhaaW.PrintLast Go.Proofs.YtmpdloamgiejhaaW.PrintMore
set_option linter.unusedVariables false
set_option linter.unusedSimpArgs false

def encB (o : List Bool) : List Value := o.map Value.bool
def ArrB (w : World) (g t : Nat) (o : List Bool) : Prop := w.heap[g]? = some (.cells (encB o).toArray t (0, 0))
theorem ArrB.cell {w : World} {g t : Nat} {o : List Bool} (h : ArrB w g t o) (i : Nat) (h1 : i < o.length) : w.cell? ⟨g, i, none⟩ = some (.bool (o.getD i false)) := by
  rw [cell_of_row w g i _ t (0, 0) h]
  unfold encB
  rw [List.getD_eq_getElem?_getD]
  simp [List.getElem?_eq_getElem h1]
theorem ArrB.frozen {w : World} {g t : Nat} {o : List Bool} (h : ArrB w g t o) (i : Nat) : w.frozen? ⟨g, i, none⟩ = false := frozen_of_row w g i _ t h
theorem ArrB.set {w : World} {g t : Nat} {o : List Bool} (h : ArrB w g t o) (i : Nat) (v : Bool) : ArrB (w.setCell ⟨g, i, none⟩ (.bool v)) g t (o.set i v) := by
  unfold ArrB at *
  rw [heap_setCell_same w g i _ t _ h]
  congr 2
  unfold encB
  rw [List.map_set]
  simp
theorem Arr.celln {w : World} {g t : Nat} {o : List Int} (h : Arr w g t o) (i : Nat) (h1 : i < o.length) : w.cell? ⟨g, i, none⟩ = some (.int .i64 (o.getD i 0)) := by
  have := h.cell (i : Int) (by omega) (by omega)
  rw [Int.toNat_natCast] at this
  exact this
/-- The place with which a place is joined. -/
def nx (o : List Int) (i : Nat) : Nat := (o.getD i 0).toNat
/-- Arcs of eight places. -/
structure Arc8 (o : List Int) : Prop where
  len : o.length = 8
  rng : ∀ j, j < 8 → 0 ≤ o.getD j 0 ∧ o.getD j 0 < 8
theorem Arc8.nx_lt {o : List Int} (h : Arc8 o) {i : Nat} (hi : i < 8) : nx o i < 8 := by
  have := h.rng i hi
  unfold nx
  omega
theorem Arc8.nx_eq {o : List Int} (h : Arc8 o) {i : Nat} (hi : i < 8) : o.getD i 0 = ((nx o i : Nat) : Int) := by
  have := h.rng i hi
  unfold nx
  omega
/-- Along a line from an open place: what is met, and whether it ends behind a step of the upper half. -/
def pl0 : Nat → List Int → List Int → List Bool → Nat → Bool → Option (List Bool × Bool)
  | 0, _, _, _, _, _ => none
  | k + 1, o1, o2, m, x, up =>
    if (if up then nx o1 x else nx o2 x) = x then some (m.set x true, up)
    else pl0 k o1 o2 ((m.set x true).set (if up then nx o1 x else nx o2 x) true) (if up then nx o1 x else nx o2 x) (!up)
def pl1 : Nat → Nat → List Int → List Int → List Bool → Bool → Nat → Option (List Bool × Bool)
  | 0, _, _, _, _, _, _ => none
  | k + 1, n, o1, o2, m, g, i => if i < n then (if m.getD i false = true then pl1 k n o1 o2 m g (i + 1) else (if nx o1 i = i then (pl0 k o1 o2 m i false).bind fun r => pl1 k n o1 o2 r.1 (g && !r.2) (i + 1) else pl1 k n o1 o2 m g (i + 1))) else some (m, g)
def pl4 : Nat → List Int → List Int → List Bool → Nat → Option (List Bool)
  | 0, _, _, _, _ => none
  | k + 1, o1, o2, m, x => if m.getD x false = true then some m else pl4 k o1 o2 ((m.set x true).set (nx o1 x) true) (nx o2 (nx o1 x))
def pl3 : Nat → Nat → List Int → List Int → List Bool → Nat → Nat → Option Nat
  | 0, _, _, _, _, _, _ => none
  | k + 1, n, o1, o2, m, l, i => if i < n then (if m.getD i false = true then pl3 k n o1 o2 m l (i + 1) else (pl4 k o1 o2 m i).bind fun m' => pl3 k n o1 o2 m' (l + 1) (i + 1)) else some l
/-- The sides, from one on. -/
def pl2 (k n : Nat) (o1 o2 : List Int) : Nat → List Bool → Bool → Option (Bool × Nat)
  | 0, m, g => (pl1 k n o1 o2 m g 0).bind fun r => (pl1 k n o2 o1 r.1 r.2 0).bind fun r2 => (pl3 k n o1 o2 r2.1 0 0).bind fun l => some (r2.2, l)
  | 1, m, g => (pl1 k n o2 o1 m g 0).bind fun r2 => (pl3 k n o1 o2 r2.1 0 0).bind fun l => some (r2.2, l)
  | _ + 2, m, g => (pl3 k n o1 o2 m 0 0).bind fun l => some (g, l)
theorem pl0_mono {k k' : Nat} (h : k ≤ k') {o1 o2 : List Int} {m : List Bool} {x : Nat} {up : Bool} {r : List Bool × Bool} (he : pl0 k o1 o2 m x up = some r) : pl0 k' o1 o2 m x up = some r := by
  induction k generalizing k' m x up with
  | zero => simp [pl0] at he
  | succ k ih =>
    obtain ⟨k', rfl⟩ : ∃ j, k' = j + 1 := ⟨k' - 1, by omega⟩
    simp only [pl0] at he ⊢
    generalize (if up then nx o1 x else nx o2 x) = y at he ⊢
    by_cases c : y = x
    · rw [if_pos c] at he ⊢
      exact he
    · rw [if_neg c] at he ⊢
      exact ih (by omega) he
theorem pl4_mono {k k' : Nat} (h : k ≤ k') {o1 o2 : List Int} {m : List Bool} {x : Nat} {r : List Bool} (he : pl4 k o1 o2 m x = some r) : pl4 k' o1 o2 m x = some r := by
  induction k generalizing k' m x with
  | zero => simp [pl4] at he
  | succ k ih =>
    obtain ⟨k', rfl⟩ : ∃ j, k' = j + 1 := ⟨k' - 1, by omega⟩
    simp only [pl4] at he ⊢
    by_cases c : m.getD x false = true
    · rw [if_pos c] at he ⊢
      exact he
    · rw [if_neg c] at he ⊢
      exact ih (by omega) he
theorem falses8 : (#[.bool false, .bool false, .bool false, .bool false, .bool false, .bool false, .bool false, .bool false] : Array Value) = (encB (List.replicate 8 false)).toArray := rfl
theorem ArrB.new (w : World) (t : Nat) (o : List Bool) (cs : Array Value) (h : cs = (encB o).toArray) : ArrB (w.alloc (.cells cs t)) w.heap.size t o := by
  subst h
  exact heap_alloc_new w _
theorem ArrB.lt {w : World} {g t : Nat} {o : List Bool} (h : ArrB w g t o) : g < w.heap.size := (Array.getElem?_eq_some_iff.1 h).1
theorem pl2_step (k n : Nat) (o1 o2 : List Int) (s : Nat) (hs : s < 2) (m : List Bool) (g : Bool) : pl2 k n o1 o2 s m g = (pl1 k n (if s = 1 then o2 else o1) (if s = 1 then o1 else o2) m g 0).bind fun r => pl2 k n o1 o2 (s + 1) r.1 r.2 := by
  match s, hs with
  | 0, _ => rfl
  | 1, _ => rfl
set_option maxHeartbeats 8000000 in
set_option maxRecDepth 100000 in
theorem spair_calls (k : Nat) (a0 a1 : ByteArray) (o1 o2 : List Int) (b1 b2 : Bool) (ka : Nat) (h1 : spec_l04Arcs.f ka a0 = some (o1, b1)) (h2 : spec_l04Arcs.f ka a1 = some (o2, b2)) (ho1 : Arc8 o1) (ho2 : Arc8 o2) (hs : a0.size ≤ 8)
    (r : Bool) (l : Nat) (h : pl2 k a0.size o1 o2 0 (List.replicate 8 false) true = some (r, l)) (w : World) :
    Calls Try.prog 44 #[.string a0, .string a1] w fun e w' => e = .returned (.tuple #[.bool r, .int .i64 (l : Int)]) ∧ Below w.heap.size w w' := by
  have HC1 := Aside0.mk (fun W => spec_l04Arcs.calls ka a0 o1 b1 W h1)
  have HC2 := Aside0.mk (fun W => spec_l04Arcs.calls ka a1 o2 b2 W h2)
  have HO1A := Aside0.mk ho1
  have HO2A := Aside0.mk ho2
  have HSZ := Aside0.mk hs
  have HH := Aside0.mk h
  have HI1 := Aside0.mk (show (Try.prog.info? 76).map (·.size) = some (enc o1).toArray.size by rw [encSize ho1.len]; kernel_rfl)
  have HI2 := Aside0.mk (show (Try.prog.info? 76).map (·.size) = some (enc o2).toArray.size by rw [encSize ho2.len]; kernel_rfl)
  have HZ1 := Aside0.mk (show (enc (List.replicate 8 0)).toArray.size = (enc o1).toArray.size by rw [encSize ho1.len]; rfl)
  have HZ2 := Aside0.mk (show (enc (List.replicate 8 0)).toArray.size = (enc o2).toArray.size by rw [encSize ho2.len]; rfl)
  clear h h1 h2 ho1 ho2 hs
  go_enter Try.func44, Try.ntmps44
  go_wp2_with fail
  refine (HC1.out _).mono ?_
  rintro e w1 ⟨rfl, hb1⟩
  have HB1 := Aside0.mk hb1
  clear hb1
  go_wp2_with (refine wpList_store_row_halt rfl 76 _ _ rfl w1.heap.size (enc o1).toArray rfl rfl 76 (enc (List.replicate 8 0)).toArray (Arr.new w1 76 (List.replicate 8 0) _ zeros8) HI1.out HZ1.out (enc_one _) ?_)
  intro W1 hW1
  have HA1 := Aside0.mk (show Arr W1 w1.heap.size 76 o1 by rw [hW1.eq]; exact (Arr.new w1 76 (List.replicate 8 0) _ zeros8).row o1)
  have HB2 := Aside0.mk (show Below w.heap.size w W1 by rw [hW1.eq]; exact below_setRow (below_alloc HB1.out _) (below_size HB1.out) _)
  have HG1 := Aside0.mk (below_size HB1.out)
  clear hW1 HB1
  refine Halt.mk ?_
  go_wp2_with fail
  refine (HC2.out _).mono ?_
  rintro e w2 ⟨rfl, hb2⟩
  have HA2 := Aside0.mk (show Arr w2 w1.heap.size 76 o1 from (hb2.block _ HA1.out.lt).trans HA1.out)
  have HB3 := Aside0.mk (below_step HB2.out hb2)
  clear hb2 HA1 HB2
  go_wp2_with (refine wpList_store_row_halt rfl 76 _ _ rfl w2.heap.size (enc o2).toArray rfl rfl 76 (enc (List.replicate 8 0)).toArray (Arr.new w2 76 (List.replicate 8 0) _ zeros8) HI2.out HZ2.out (enc_one _) ?_)
  intro W2 hW2
  have HLT := Aside0.mk (show w1.heap.size < w2.heap.size from HA2.out.lt)
  have HA3 := Aside0.mk (show Arr W2 w1.heap.size 76 o1 by rw [hW2.eq]; exact (HA2.out.alloc _).row_far (Nat.ne_of_lt HLT.out) _)
  have HA4 := Aside0.mk (show Arr W2 w2.heap.size 76 o2 by rw [hW2.eq]; exact (Arr.new w2 76 (List.replicate 8 0) _ zeros8).row o2)
  have HB4 := Aside0.mk (show Below w.heap.size w W2 by rw [hW2.eq]; exact below_setRow (below_alloc HB3.out _) (below_size HB3.out) _)
  have HG2 := Aside0.mk (below_size HB3.out)
  clear hW2 HA2 HB3
  refine Halt.mk ?_
  go_wp2_with fail
  obtain ⟨X, hX⟩ : ∃ X, X = w1.heap.size := ⟨_, rfl⟩
  obtain ⟨Y, hY⟩ : ∃ Y, Y = w2.heap.size := ⟨_, rfl⟩
  obtain ⟨M, hM⟩ : ∃ M, M = W2.heap.size := ⟨_, rfl⟩
  have z1 := Aside0.mk (show Arr (W2.alloc (.cells (encB (List.replicate 8 false)).toArray 79)) X 76 o1 by rw [hX]; exact HA3.out.alloc _)
  have z2 := Aside0.mk (show Arr (W2.alloc (.cells (encB (List.replicate 8 false)).toArray 79)) Y 76 o2 by rw [hY]; exact HA4.out.alloc _)
  have z3 := Aside0.mk (show ArrB (W2.alloc (.cells (encB (List.replicate 8 false)).toArray 79)) M 79 (List.replicate 8 false) by rw [hM]; exact ArrB.new W2 _ _ _ rfl)
  have z4 := Aside0.mk (below_alloc HB4.out (.cells (encB (List.replicate 8 false)).toArray 79))
  have HXY := Aside0.mk (show X ≠ Y ∧ X ≠ M ∧ Y ≠ M ∧ w.heap.size ≤ X ∧ w.heap.size ≤ Y ∧ w.heap.size ≤ M by
    rw [hX, hY, hM]
    have := HLT.out
    have := HA4.out.lt
    have := HG1.out
    have := HG2.out
    have := below_size HB4.out
    omega)
  rw [← hX, ← hY, ← hM]
  clear hX hY hM HA3 HA4 HB4 HG1 HG2 HLT HC1 HC2
  go_loopg [11, 13] 3 (fun kq v11 v13 w' => ∃ (s : Nat) (m : List Bool) (g : Bool), v11 = .bool g ∧ v13 = .int .i64 (s : Int) ∧ Aside0 (kq + s = 3) ∧ Aside0 (s ≤ 2) ∧ Aside0 (m.length = 8) ∧ Aside0 (pl2 k a0.size o1 o2 s m g = some (r, l)) ∧ Aside0 (Arr w' X 76 (if s = 1 then o2 else o1)) ∧ Aside0 (Arr w' Y 76 (if s = 1 then o1 else o2)) ∧ Aside0 (ArrB w' M 79 m) ∧ Aside0 (Below w.heap.size w w'))
  case atStart => exact ⟨0, List.replicate 8 false, true, rfl, rfl, ⟨rfl⟩, ⟨by omega⟩, ⟨by simp⟩, HH, z1, z2, z3, z4⟩
  case round =>
    clear z1 z2 z3 z4 HH
    obtain ⟨s, m, g, rfl, rfl, E1, E2, HM, HP, HO1, HO2, HO3, HB⟩ := hrel
    cases gk with
    | zero => exact absurd E1.out (by have := E2.out; omega)
    | succ k1 =>
      by_cases d1 : s < 2
      · have d1b : decide ((s : Int) < 2) = true := decide_eq_true (by omega)
        have d1b' : decide (s < 2) = true := decide_eq_true d1
        have hp := HP.out
        rw [pl2_step _ _ _ _ _ d1] at hp
        obtain ⟨⟨m', g'⟩, hp1, hp2⟩ := Option.bind_eq_some_iff.1 hp
        simp only at hp2
        have HP1 := Aside0.mk hp1
        have HP2 := Aside0.mk hp2
        have HD1 := Aside0.mk d1
        have HAP := Aside0.mk (show Arc8 (if s = 1 then o2 else o1) by split <;> first | exact HO1A.out | exact HO2A.out)
        have HAQ := Aside0.mk (show Arc8 (if s = 1 then o1 else o2) by split <;> first | exact HO1A.out | exact HO2A.out)
        have HSW := Aside0.mk (show (if s + 1 = 1 then o2 else o1) = (if s = 1 then o1 else o2) ∧ (if s + 1 = 1 then o1 else o2) = (if s = 1 then o2 else o1) by
          rcases (show s = 0 ∨ s = 1 by omega) with e | e
          · subst e; exact ⟨rfl, rfl⟩
          · subst e; exact ⟨rfl, rfl⟩)
        generalize hpq : (if s = 1 then o2 else o1) = p at HP1 HO1 HAP HSW
        generalize hqp : (if s = 1 then o1 else o2) = q at HP1 HO2 HAQ HSW
        clear hpq hqp hp hp1 hp2 d1 HP
        go_wp2_with fail
        go_loopg [11, 14] k (fun kq v11 v14 w' => ∃ (i : Nat) (m1 : List Bool) (g1 : Bool), v11 = .bool g1 ∧ v14 = .int .i64 (i : Int) ∧ Aside0 (pl1 kq a0.size p q m1 g1 i = some (m', g')) ∧ Aside0 (kq ≤ k) ∧ Aside0 (m1.length = 8) ∧ Aside0 (Arr w' X 76 p) ∧ Aside0 (Arr w' Y 76 q) ∧ Aside0 (ArrB w' M 79 m1) ∧ Aside0 (Below w.heap.size w w'))
        case atStart => exact ⟨0, m, g, rfl, rfl, HP1, ⟨Nat.le_refl _⟩, HM, HO1, HO2, HO3, HB⟩
        case round =>
          clear HP1 HM HO1 HO2 HO3 HB
          obtain ⟨i, m1, g1, rfl, rfl, F1, F2, FM, FO1, FO2, FO3, FB⟩ := hrel
          cases gk with
          | zero => exact absurd F1.out (by simp [pl1])
          | succ k2 =>
            have H := F1.out
            clear F1
            simp only [pl1] at H
            by_cases c1 : i < a0.size
            · rw [if_pos c1] at H
              have c1b : decide ((i : Int) < (a0.size : Int)) = true := decide_eq_true (by omega)
              have c1b' : decide (i < a0.size) = true := decide_eq_true c1
              have HI8 := Aside0.mk (show i < 8 by have := HSZ.out; omega)
              have q2 : ((i : Int) < 8) = True := eq_true (by have := HI8.out; omega)
              have q2' : (i < 8) = True := eq_true HI8.out
              have p2 : (0 ≤ (i : Int)) = True := eq_true (by omega)
              have hm := FO3.out.cell i (by have := FM.out; have := HI8.out; omega)
              have ho := FO1.out.celln i (by have := HAP.out.len; have := HI8.out; omega)
              rw [HAP.out.nx_eq HI8.out] at ho
              have HC1 := Aside0.mk c1
              clear c1
              by_cases c2 : m1.getD i false = true
              · rw [if_pos c2] at H
                rw [c2] at hm
                have H' := Aside0.mk H
                clear H c2 ho
                go_wp2_with fail
                go_roundg k2
                case measure => have := F2.out; omega
                case rel => exact ⟨i + 1, m1, g1, rfl, (congrArg (Value.int .i64) (show _ = ((i + 1 : Nat) : Int) by have := HI8.out; first | omega | (unfold wrap64; omega))), H', ⟨by have := F2.out; omega⟩, FM, FO1, FO2, FO3, FB⟩
              · rw [if_neg c2] at H
                rw [Bool.not_eq_true] at c2
                rw [c2] at hm
                clear c2
                by_cases c3 : nx p i = i
                · rw [if_pos c3] at H
                  obtain ⟨⟨m3, up3⟩, hl0, H⟩ := Option.bind_eq_some_iff.1 H
                  simp only at H
                  have H' := Aside0.mk H
                  have HL0 := Aside0.mk hl0
                  have KL0 := pl0_mono (show k2 ≤ k by have := F2.out; omega) hl0
                  have KLK := Aside0.mk (Nat.le_refl k)
                  rw [c3] at ho
                  clear H hl0 c3
                  go_wp2_with fail
                  go_loopg [11, 15, 16] k (fun kq v11 v15 v16 w' => ∃ (x : Nat) (up : Bool) (m2 : List Bool), v11 = .bool g1 ∧ v15 = .int .i64 (x : Int) ∧ v16 = .bool up ∧ Aside0 (pl0 kq p q m2 x up = some (m3, up3)) ∧ Aside0 (kq ≤ k) ∧ Aside0 (x < 8) ∧ Aside0 (m2.length = 8) ∧ Aside0 (Arr w' X 76 p) ∧ Aside0 (Arr w' Y 76 q) ∧ Aside0 (ArrB w' M 79 m2) ∧ Aside0 (Below w.heap.size w w'))
                  case atStart => exact ⟨i, false, m1, rfl, rfl, rfl, ⟨KL0⟩, KLK, HI8, FM, FO1, FO2, FO3, FB⟩
                  case round =>
                    clear HL0 FM FO1 FO2 FO3 FB hm ho KL0
                    obtain ⟨x, up, m2, rfl, rfl, rfl, G1, G2, HX8, GM, GO1, GO2, GO3, GB⟩ := hrel
                    cases gk with
                    | zero => exact absurd G1.out (by simp [pl0])
                    | succ k3 =>
                      have H := G1.out
                      clear G1
                      simp only [pl0] at H
                      have hm := GO3.out.cell x (by have := GM.out; have := HX8.out; omega)
                      have hf := GO3.out.frozen x
                      have s1 := Aside0.mk (GO3.out.set x true)
                      have a1 := Aside0.mk (GO1.out.far (p := ⟨M, x, none⟩) HXY.out.2.1 (.bool true))
                      have a2 := Aside0.mk (GO2.out.far (p := ⟨M, x, none⟩) HXY.out.2.2.1 (.bool true))
                      have b1 := Aside0.mk (GB.out.setCell (p := ⟨M, x, none⟩) HXY.out.2.2.2.2.2 (.bool true))
                      have ho := a1.out.celln x (by have := HAP.out.len; have := HX8.out; omega)
                      have hq := a2.out.celln x (by have := HAQ.out.len; have := HX8.out; omega)
                      rw [HAP.out.nx_eq HX8.out] at ho
                      rw [HAQ.out.nx_eq HX8.out] at hq
                      have px : (0 ≤ (x : Int)) = True := eq_true (by omega)
                      have qx : ((x : Int) < 8) = True := eq_true (by have := HX8.out; omega)
                      have qx' : (x < 8) = True := eq_true HX8.out
                      cases up with
                      | true =>
                        rw [show (if (true : Bool) = true then nx p x else nx q x) = nx p x from rfl] at H
                        have HN8 := Aside0.mk (HAP.out.nx_lt HX8.out)
                        generalize hny : nx p x = y at H ho HN8
                        clear hny
                        by_cases e : y = x
                        · rw [if_pos e] at H
                          have eb : (((y : Nat) : Int) == (x : Int)) = true := beq_iff_eq.mpr (by omega)
                          have eb' : (y == x) = true := beq_iff_eq.mpr e
                          subst e
                          obtain ⟨rfl, rfl⟩ := (Prod.mk.injEq _ _ _ _ ▸ Option.some.inj H)
                          clear H
                          cases g1 with
                          | true =>
                            go_wp2_with fail
                            go_roundg k2
                            case measure => have := F2.out; omega
                            case rel => exact ⟨i + 1, m2.set y true, (true && !true), rfl, (congrArg (Value.int .i64) (show _ = ((i + 1 : Nat) : Int) by have := HI8.out; first | omega | (unfold wrap64; omega))), H', ⟨by have := F2.out; omega⟩, ⟨by rw [List.length_set]; exact GM.out⟩, a1, a2, s1, b1⟩
                          | false =>
                            go_wp2_with fail
                            go_roundg k2
                            case measure => have := F2.out; omega
                            case rel => exact ⟨i + 1, m2.set y true, (false && !true), rfl, (congrArg (Value.int .i64) (show _ = ((i + 1 : Nat) : Int) by have := HI8.out; first | omega | (unfold wrap64; omega))), H', ⟨by have := F2.out; omega⟩, ⟨by rw [List.length_set]; exact GM.out⟩, a1, a2, s1, b1⟩
                        · rw [if_neg e] at H
                          have eb : (((y : Nat) : Int) == (x : Int)) = false := beq_eq_false_iff_ne.mpr (by omega)
                          have eb' : (y == x) = false := beq_eq_false_iff_ne.mpr e
                          have hm2 := s1.out.cell y (by rw [List.length_set]; have := GM.out; have := HN8.out; omega)
                          have hf2 := s1.out.frozen y
                          have s2 := Aside0.mk (s1.out.set y true)
                          have c1 := Aside0.mk (a1.out.far (p := ⟨M, y, none⟩) HXY.out.2.1 (.bool true))
                          have c2 := Aside0.mk (a2.out.far (p := ⟨M, y, none⟩) HXY.out.2.2.1 (.bool true))
                          have b2 := Aside0.mk (b1.out.setCell (p := ⟨M, y, none⟩) HXY.out.2.2.2.2.2 (.bool true))
                          have py : (0 ≤ (y : Int)) = True := eq_true (by omega)
                          have qy : ((y : Int) < 8) = True := eq_true (by have := HN8.out; omega)
                          have qy' : (y < 8) = True := eq_true HN8.out
                          have H2' := Aside0.mk H
                          clear H e
                          go_wp2_with fail
                          go_roundg k3
                          case measure => have := G2.out; omega
                          case rel => exact ⟨y, !true, (m2.set x true).set y true, rfl, rfl, rfl, H2', ⟨by have := G2.out; omega⟩, HN8, ⟨by rw [List.length_set, List.length_set]; exact GM.out⟩, c1, c2, s2, b2⟩
                      | false =>
                        rw [show (if (false : Bool) = true then nx p x else nx q x) = nx q x from rfl] at H
                        have HN8 := Aside0.mk (HAQ.out.nx_lt HX8.out)
                        generalize hny : nx q x = y at H hq HN8
                        clear hny
                        by_cases e : y = x
                        · rw [if_pos e] at H
                          have eb : (((y : Nat) : Int) == (x : Int)) = true := beq_iff_eq.mpr (by omega)
                          have eb' : (y == x) = true := beq_iff_eq.mpr e
                          subst e
                          obtain ⟨rfl, rfl⟩ := (Prod.mk.injEq _ _ _ _ ▸ Option.some.inj H)
                          clear H
                          cases g1 with
                          | true =>
                            go_wp2_with fail
                            go_roundg k2
                            case measure => have := F2.out; omega
                            case rel => exact ⟨i + 1, m2.set y true, (true && !false), rfl, (congrArg (Value.int .i64) (show _ = ((i + 1 : Nat) : Int) by have := HI8.out; first | omega | (unfold wrap64; omega))), H', ⟨by have := F2.out; omega⟩, ⟨by rw [List.length_set]; exact GM.out⟩, a1, a2, s1, b1⟩
                          | false =>
                            go_wp2_with fail
                            go_roundg k2
                            case measure => have := F2.out; omega
                            case rel => exact ⟨i + 1, m2.set y true, (false && !false), rfl, (congrArg (Value.int .i64) (show _ = ((i + 1 : Nat) : Int) by have := HI8.out; first | omega | (unfold wrap64; omega))), H', ⟨by have := F2.out; omega⟩, ⟨by rw [List.length_set]; exact GM.out⟩, a1, a2, s1, b1⟩
                        · rw [if_neg e] at H
                          have eb : (((y : Nat) : Int) == (x : Int)) = false := beq_eq_false_iff_ne.mpr (by omega)
                          have eb' : (y == x) = false := beq_eq_false_iff_ne.mpr e
                          have hm2 := s1.out.cell y (by rw [List.length_set]; have := GM.out; have := HN8.out; omega)
                          have hf2 := s1.out.frozen y
                          have s2 := Aside0.mk (s1.out.set y true)
                          have c1 := Aside0.mk (a1.out.far (p := ⟨M, y, none⟩) HXY.out.2.1 (.bool true))
                          have c2 := Aside0.mk (a2.out.far (p := ⟨M, y, none⟩) HXY.out.2.2.1 (.bool true))
                          have b2 := Aside0.mk (b1.out.setCell (p := ⟨M, y, none⟩) HXY.out.2.2.2.2.2 (.bool true))
                          have py : (0 ≤ (y : Int)) = True := eq_true (by omega)
                          have qy : ((y : Int) < 8) = True := eq_true (by have := HN8.out; omega)
                          have qy' : (y < 8) = True := eq_true HN8.out
                          have H2' := Aside0.mk H
                          clear H e
                          go_wp2_with fail
                          go_roundg k3
                          case measure => have := G2.out; omega
                          case rel => exact ⟨y, !false, (m2.set x true).set y true, rfl, rfl, rfl, H2', ⟨by have := G2.out; omega⟩, HN8, ⟨by rw [List.length_set, List.length_set]; exact GM.out⟩, c1, c2, s2, b2⟩
                · rw [if_neg c3] at H
                  have H' := Aside0.mk H
                  have c3b : (((nx p i : Nat) : Int) == (i : Int)) = false := beq_eq_false_iff_ne.mpr (by omega)
                  have c3c : (((nx p i : Nat) : Int) != (i : Int)) = true := bne_iff_ne.mpr (by omega)
                  have c3d : (nx p i == i) = false := beq_eq_false_iff_ne.mpr c3
                  have c3e : (nx p i != i) = true := bne_iff_ne.mpr c3
                  clear H c3
                  go_wp2_with fail
                  go_roundg k2
                  case measure => have := F2.out; omega
                  case rel => exact ⟨i + 1, m1, g1, rfl, (congrArg (Value.int .i64) (show _ = ((i + 1 : Nat) : Int) by have := HI8.out; first | omega | (unfold wrap64; omega))), H', ⟨by have := F2.out; omega⟩, FM, FO1, FO2, FO3, FB⟩
            · rw [if_neg c1] at H
              have c1b : decide ((i : Int) < (a0.size : Int)) = false := decide_eq_false (by omega)
              have c1b' : decide (i < a0.size) = false := decide_eq_false c1
              obtain ⟨rfl, rfl⟩ := (Prod.mk.injEq _ _ _ _ ▸ Option.some.inj H)
              have HIP := Aside0.mk (show (Try.prog.info? 76).map (·.size) = some (enc p).toArray.size by rw [encSize HAP.out.len]; kernel_rfl)
              have HIQ := Aside0.mk (show (Try.prog.info? 76).map (·.size) = some (enc q).toArray.size by rw [encSize HAQ.out.len]; kernel_rfl)
              have HPQ := Aside0.mk (show (enc p).toArray.size = (enc q).toArray.size by rw [encSize HAQ.out.len, encSize HAP.out.len])
              clear H c1
              have HIZ := Aside0.mk (show (enc (List.replicate 8 0)).toArray.size = (enc p).toArray.size by rw [encSize HAP.out.len]; rfl)
              go_wp2_with (first | (refine wpList_load_row rfl 76 _ rfl X rfl 76 (enc p).toArray (0, 0) _ FO1.out Try.underlying76 rfl HIP.out ?_) | (refine wpList_store_row_halt rfl 76 _ _ rfl wr.heap.size (enc p).toArray rfl rfl 76 (enc (List.replicate 8 0)).toArray (Arr.new wr 76 (List.replicate 8 0) _ zeros8) HIP.out HIZ.out (enc_one _) ?_))
              intro W3 hW3
              obtain ⟨O, hO⟩ : ∃ O, O = wr.heap.size := ⟨_, rfl⟩
              have lx := FO1.out.lt
              have ly := FO2.out.lt
              have lm := FO3.out.lt
              have lb := below_size FB.out
              have HOX := Aside0.mk (show X ≠ O ∧ Y ≠ O ∧ M ≠ O ∧ w.heap.size ≤ O by rw [hO]; omega)
              have v1 := Aside0.mk (show Arr W3 X 76 p by rw [hW3.eq, ← hO]; exact (FO1.out.alloc _).row_far HOX.out.1 _)
              have v2 := Aside0.mk (show Arr W3 Y 76 q by rw [hW3.eq, ← hO]; exact (FO2.out.alloc _).row_far HOX.out.2.1 _)
              have v3 := Aside0.mk (show ArrB W3 M 79 m1 by rw [hW3.eq, ← hO]; exact (setRow_other _ _ _ _ HOX.out.2.2.1).trans ((Below.heap_alloc wr _ M lm).trans FO3.out))
              have v4 := Aside0.mk (show Arr W3 O 76 p by rw [hW3.eq, hO]; exact (Arr.new wr 76 (List.replicate 8 0) _ zeros8).row p)
              have v5 := Aside0.mk (show Below w.heap.size w W3 by rw [hW3.eq]; exact below_setRow (below_alloc FB.out _) lb _)
              rw [← hO]
              clear hW3 hO lx ly lm lb FO1 FO2 FO3 FB
              have u1 := Aside0.mk (v2.out.row_far (g' := X) (Ne.symm HXY.out.1) (enc q).toArray)
              have u2 := Aside0.mk (v4.out.row_far (g' := X) (Ne.symm HOX.out.1) (enc q).toArray)
              refine Halt.mk ?_
              go_wp2_with (first | (refine wpList_load_row rfl 76 _ rfl O rfl 76 (enc p).toArray (0, 0) _ u2.out Try.underlying76 rfl HIP.out ?_) | (refine wpList_load_row rfl 76 _ rfl Y rfl 76 (enc q).toArray (0, 0) _ v2.out Try.underlying76 rfl HIQ.out ?_) | (refine wpList_store_row rfl 76 _ _ rfl X (enc q).toArray rfl rfl 76 (enc p).toArray v1.out HIQ.out HPQ.out (enc_one _) ?_) | (refine wpList_store_row rfl 76 _ _ rfl Y (enc p).toArray rfl rfl 76 (enc q).toArray u1.out HIP.out HPQ.out.symm (enc_one _) ?_))
              go_roundg k1
              case measure => have := E1.out; omega
              case rel =>
                refine ⟨s + 1, m1, g1, rfl, (congrArg (Value.int .i64) (show _ = ((s + 1 : Nat) : Int) by have := HD1.out; first | omega | (unfold wrap64; omega))), ⟨by have := E1.out; omega⟩, ⟨by have := HD1.out; omega⟩, FM, HP2, ⟨?_⟩, ⟨?_⟩, ⟨?_⟩, ⟨below_setRow (below_setRow v5.out HXY.out.2.2.2.1 _) HXY.out.2.2.2.2.1 _⟩⟩
                · rw [HSW.out.1]
                  exact ((v1.out.row q).row_far HXY.out.1 _)
                · rw [HSW.out.2]
                  exact u1.out.row p
                · exact (setRow_other _ _ _ _ (Ne.symm HXY.out.2.2.1)).trans ((setRow_other _ _ _ _ (Ne.symm HXY.out.2.1)).trans v3.out)
      · have d1b : decide ((s : Int) < 2) = false := decide_eq_false (by omega)
        have d1b' : decide (s < 2) = false := decide_eq_false d1
        have es : s = 2 := by have := E2.out; omega
        subst es
        clear d1
        have hp := HP.out
        simp only [pl2] at hp
        obtain ⟨lf, hp1, hp2⟩ := Option.bind_eq_some_iff.1 hp
        obtain ⟨rfl, rfl⟩ := (Prod.mk.injEq _ _ _ _ ▸ Option.some.inj hp2)
        have HP3 := Aside0.mk hp1
        have FO1 := Aside0.mk (show Arr wr X 76 o1 from HO1.out)
        have FO2 := Aside0.mk (show Arr wr Y 76 o2 from HO2.out)
        clear hp hp1 hp2 HP HO1 HO2
        go_wp2_with fail
        go_loopg [12, 19] k (fun kq v12 v19 w' => ∃ (i c : Nat) (m1 : List Bool), v12 = .int .i64 (c : Int) ∧ v19 = .int .i64 (i : Int) ∧ Aside0 (pl3 kq a0.size o1 o2 m1 c i = some lf) ∧ Aside0 (kq ≤ k) ∧ Aside0 (c ≤ i) ∧ Aside0 (m1.length = 8) ∧ Aside0 (Arr w' X 76 o1) ∧ Aside0 (Arr w' Y 76 o2) ∧ Aside0 (ArrB w' M 79 m1) ∧ Aside0 (Below w.heap.size w w'))
        case atStart => exact ⟨0, 0, m, rfl, rfl, HP3, ⟨Nat.le_refl _⟩, ⟨Nat.le_refl _⟩, HM, FO1, FO2, HO3, HB⟩
        case round =>
          clear HP3 HM FO1 FO2 HO3 HB
          obtain ⟨i, c, m1, rfl, rfl, F1, F2, FC, FM, FO1, FO2, FO3, FB⟩ := hrel
          cases gk with
          | zero => exact absurd F1.out (by simp [pl3])
          | succ k2 =>
            have H := F1.out
            clear F1
            simp only [pl3] at H
            by_cases c1 : i < a0.size
            · rw [if_pos c1] at H
              have c1b : decide ((i : Int) < (a0.size : Int)) = true := decide_eq_true (by omega)
              have c1b' : decide (i < a0.size) = true := decide_eq_true c1
              have HI8 := Aside0.mk (show i < 8 by have := HSZ.out; omega)
              have q2 : ((i : Int) < 8) = True := eq_true (by have := HI8.out; omega)
              have q2' : (i < 8) = True := eq_true HI8.out
              have p2 : (0 ≤ (i : Int)) = True := eq_true (by omega)
              have hm := FO3.out.cell i (by have := FM.out; have := HI8.out; omega)
              clear c1
              by_cases c2 : m1.getD i false = true
              · rw [if_pos c2] at H
                rw [c2] at hm
                have H' := Aside0.mk H
                clear H c2
                go_wp2_with fail
                go_roundg k2
                case measure => have := F2.out; omega
                case rel => exact ⟨i + 1, c, m1, rfl, (congrArg (Value.int .i64) (show _ = ((i + 1 : Nat) : Int) by have := HI8.out; first | omega | (unfold wrap64; omega))), H', ⟨by have := F2.out; omega⟩, ⟨by have := FC.out; omega⟩, FM, FO1, FO2, FO3, FB⟩
              · rw [if_neg c2] at H
                rw [Bool.not_eq_true] at c2
                rw [c2] at hm
                obtain ⟨m3, hl4, H⟩ := Option.bind_eq_some_iff.1 H
                have H' := Aside0.mk H
                have KL0 := pl4_mono (show k2 ≤ k by have := F2.out; omega) hl4
                have KLK := Aside0.mk (Nat.le_refl k)
                have HW1 := Aside0.mk (show wrap64 ((c : Int) + 1) = ((c + 1 : Nat) : Int) by have := FC.out; have := HI8.out; unfold wrap64; omega)
                clear H c2 hl4
                go_wp2_with fail
                go_loopg [20] k (fun kq v20 w' => ∃ (x : Nat) (m2 : List Bool), v20 = .int .i64 (x : Int) ∧ Aside0 (pl4 kq o1 o2 m2 x = some m3) ∧ Aside0 (kq ≤ k) ∧ Aside0 (x < 8) ∧ Aside0 (m2.length = 8) ∧ Aside0 (Arr w' X 76 o1) ∧ Aside0 (Arr w' Y 76 o2) ∧ Aside0 (ArrB w' M 79 m2) ∧ Aside0 (Below w.heap.size w w'))
                case atStart => exact ⟨i, m1, rfl, ⟨KL0⟩, KLK, HI8, FM, FO1, FO2, FO3, FB⟩
                case round =>
                  clear FM FO1 FO2 FO3 FB hm KL0
                  obtain ⟨x, m2, rfl, G1, G2, HX8, GM, GO1, GO2, GO3, GB⟩ := hrel
                  cases gk with
                  | zero => exact absurd G1.out (by simp [pl4])
                  | succ k3 =>
                    have H := G1.out
                    clear G1
                    simp only [pl4] at H
                    have hm := GO3.out.cell x (by have := GM.out; have := HX8.out; omega)
                    have px : (0 ≤ (x : Int)) = True := eq_true (by omega)
                    have qx : ((x : Int) < 8) = True := eq_true (by have := HX8.out; omega)
                    have qx' : (x < 8) = True := eq_true HX8.out
                    by_cases c5 : m2.getD x false = true
                    · rw [if_pos c5] at H
                      rw [c5] at hm
                      obtain rfl := Option.some.inj H
                      clear H c5
                      go_wp2_with fail
                      go_roundg k2
                      case measure => have := F2.out; omega
                      case rel => exact ⟨i + 1, c + 1, m2, (by first | rfl | exact congrArg (Value.int .i64) HW1.out), (congrArg (Value.int .i64) (show _ = ((i + 1 : Nat) : Int) by have := HI8.out; first | omega | (unfold wrap64; omega))), H', ⟨by have := F2.out; omega⟩, ⟨by have := FC.out; omega⟩, GM, GO1, GO2, GO3, GB⟩
                    · rw [if_neg c5] at H
                      rw [Bool.not_eq_true] at c5
                      rw [c5] at hm
                      clear c5
                      have hf := GO3.out.frozen x
                      have s1 := Aside0.mk (GO3.out.set x true)
                      have a1 := Aside0.mk (GO1.out.far (p := ⟨M, x, none⟩) HXY.out.2.1 (.bool true))
                      have a2 := Aside0.mk (GO2.out.far (p := ⟨M, x, none⟩) HXY.out.2.2.1 (.bool true))
                      have b1 := Aside0.mk (GB.out.setCell (p := ⟨M, x, none⟩) HXY.out.2.2.2.2.2 (.bool true))
                      have ho := a1.out.celln x (by have := HO1A.out.len; have := HX8.out; omega)
                      rw [HO1A.out.nx_eq HX8.out] at ho
                      have HN8 := Aside0.mk (HO1A.out.nx_lt HX8.out)
                      generalize hny : nx o1 x = y at H ho HN8
                      have HNY := Aside0.mk hny
                      clear hny
                      have hm2 := s1.out.cell y (by rw [List.length_set]; have := GM.out; have := HN8.out; omega)
                      have hf2 := s1.out.frozen y
                      have s2 := Aside0.mk (s1.out.set y true)
                      have e1 := Aside0.mk (a1.out.far (p := ⟨M, y, none⟩) HXY.out.2.1 (.bool true))
                      have e2 := Aside0.mk (a2.out.far (p := ⟨M, y, none⟩) HXY.out.2.2.1 (.bool true))
                      have b2 := Aside0.mk (b1.out.setCell (p := ⟨M, y, none⟩) HXY.out.2.2.2.2.2 (.bool true))
                      have ho2 := e1.out.celln x (by have := HO1A.out.len; have := HX8.out; omega)
                      rw [HO1A.out.nx_eq HX8.out, HNY.out] at ho2
                      have ho3 := e2.out.celln y (by have := HO2A.out.len; have := HN8.out; omega)
                      rw [HO2A.out.nx_eq HN8.out] at ho3
                      have HZ8 := Aside0.mk (HO2A.out.nx_lt HN8.out)
                      have py : (0 ≤ (y : Int)) = True := eq_true (by omega)
                      have qy : ((y : Int) < 8) = True := eq_true (by have := HN8.out; omega)
                      have qy' : (y < 8) = True := eq_true HN8.out
                      have H2' := Aside0.mk H
                      clear H
                      go_wp2_with fail
                      go_roundg k3
                      case measure => have := G2.out; omega
                      case rel => exact ⟨nx o2 y, (m2.set x true).set y true, rfl, H2', ⟨by have := G2.out; omega⟩, HZ8, ⟨by rw [List.length_set, List.length_set]; exact GM.out⟩, e1, e2, s2, b2⟩
            · rw [if_neg c1] at H
              have c1b : decide ((i : Int) < (a0.size : Int)) = false := decide_eq_false (by omega)
              have c1b' : decide (i < a0.size) = false := decide_eq_false c1
              obtain rfl := Option.some.inj H
              clear H c1
              go_wp2_with fail
              go_ret2
              exact ⟨rfl, FB.out⟩
end Go.Proofs.Ytmpdloamgiejhaa.Hand
