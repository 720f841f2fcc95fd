/- The contract of spec.l03Permutation. No condition. -/
import Derived.Test.YtlagckiombkngaaHandP
import Derived.Test.YtlagckiombkngaaHandCF
import Derived.Laws.Rows
namespace Go.Proofs.Ytlagckiombkngaa.Hand
open Go.RowKit Go.Proofs.YtlagckiombkngaaW.PrintWords Go.Proofs.YtlagckiombkngaaW.PrintLast Go.Proofs.YtlagckiombkngaaW.PrintMore
set_option linter.unusedVariables false
set_option linter.unusedSimpArgs false

def encB (o : List Bool) : List Value := o.map Value.bool
def ArrB (w : World) (g t : Nat) (o : List Bool) : Prop := w.heap[g]? = some (.cells (encB o).toArray t (0, 0))
theorem ArrB.cell {w : World} {g t : Nat} {o : List Bool} (h : ArrB w g t o) (i : Nat) (h1 : i < o.length) : w.cell? ⟨g, i, none⟩ = some (.bool (o.getD i false)) := by
  rw [cell_of_row w g i _ t (0, 0) h]
  unfold encB
  rw [List.getD_eq_getElem?_getD]
  simp [List.getElem?_eq_getElem h1]
theorem ArrB.frozen {w : World} {g t : Nat} {o : List Bool} (h : ArrB w g t o) (i : Nat) : w.frozen? ⟨g, i, none⟩ = false := frozen_of_row w g i _ t h
theorem ArrB.set {w : World} {g t : Nat} {o : List Bool} (h : ArrB w g t o) (i : Nat) (v : Bool) : ArrB (w.setCell ⟨g, i, none⟩ (.bool v)) g t (o.set i v) := by
  unfold ArrB at *
  rw [heap_setCell_same w g i _ t _ h]
  congr 2
  unfold encB
  rw [List.map_set]
  simp
theorem falses8 : (#[.bool false, .bool false, .bool false, .bool false, .bool false, .bool false, .bool false, .bool false] : Array Value) = (encB (List.replicate 8 false)).toArray := rfl
theorem ArrB.new (w : World) (t : Nat) (o : List Bool) (cs : Array Value) (h : cs = (encB o).toArray) : ArrB (w.alloc (.cells cs t)) w.heap.size t o := by
  subst h
  exact heap_alloc_new w _
theorem ArrB.lt {w : World} {g t : Nat} {o : List Bool} (h : ArrB w g t o) : g < w.heap.size := (Array.getElem?_eq_some_iff.1 h).1
/-- The rest of a list from a place on, some numbers having been met: within 0 to n - 1, and none twice. -/
def pmR (n : Int) : List Int → List Bool → Bool
  | [], _ => true
  | x :: r, m => if 0 ≤ x ∧ x ≤ n - 1 then (if m.getD x.toNat false = true then false else pmR n r (m.set x.toNat true)) else false
def spec_l03Permutation.f (l : List Int) : Option Bool := some (if 1 ≤ l.length ∧ l.length ≤ 8 then pmR l.length l (List.replicate 8 false) else false)
theorem drop_rd (l : List Int) (i : Nat) (h : i < l.length) : l.drop i = rd l (i : Int) :: l.drop (i + 1) := by
  rw [List.drop_eq_getElem_cons h]
  congr 1
  unfold rd
  rw [Int.toNat_natCast, List.getD_eq_getElem?_getD, List.getElem?_eq_getElem h]
  rfl
theorem spec_in_calls (x lo hi : Int) (b : Bool) (hb : (decide (lo ≤ x) && decide (x ≤ hi)) = b) (w : World) : Calls Try.prog 12 #[.int .i64 x, .int .i64 lo, .int .i64 hi] w fun e w' => e = .returned (.bool b) ∧ Drawn0 w w' := by
  refine spec_l01In.calls x lo hi b w ?_
  unfold spec_l01In.f
  by_cases c : x ≥ lo
  · rw [if_pos c, ← hb, decide_eq_true c, Bool.true_and]
  · rw [if_neg c, ← hb, decide_eq_false c, Bool.false_and]
theorem ArrB.drewN {w : World} {g t : Nat} {o : List Bool} (h : ArrB w g t o) (n : Nat) : ArrB (w.drewN n) g t o := h
set_option maxHeartbeats 2000000 in
theorem spec_l03Permutation.calls (A0 : Option Addr) (c0 : Nat) (l0 : List Int) (r : Bool) (w : World) (hr0 : Kd.C (Kd.int .i64) w A0 l0.length l0) (hc0 : l0.length ≤ c0) (h : spec_l03Permutation.f l0 = some r) :
    Calls Try.prog 8 #[.slice A0 l0.length c0] w fun e w' => e = .returned (.bool r) ∧ Below w.heap.size w w' := by
  have H := Option.some.inj h
  clear h
  have HR := Aside0.mk hr0
  clear hr0 hc0
  have HB0 := Aside0.mk (below_alloc (Below.refl w.heap.size w) (.cells (encB (List.replicate 8 false)).toArray 28))
  by_cases c1 : 1 ≤ l0.length
  · have c1b : decide ((l0.length : Int) < 1) = false := decide_eq_false (by omega)
    have c1b' : decide (l0.length < 1) = false := decide_eq_false (by omega)
    by_cases c2 : l0.length ≤ 8
    · rw [if_pos ⟨c1, c2⟩] at H
      have c2b : decide ((8 : Int) < (l0.length : Int)) = false := decide_eq_false (by omega)
      have c2b' : decide (8 < l0.length) = false := decide_eq_false (by omega)
      have HP := Aside0.mk H
      have HA := Aside0.mk (ArrB.new w 28 (List.replicate 8 false) _ rfl)
      clear H
      go_enter Try.func8, Try.ntmps8
      go_wp2_with fail
      obtain ⟨M, hM⟩ : ∃ M, M = w.heap.size := ⟨_, rfl⟩
      go_loopg [4] l0.length (fun kq v4 w' => ∃ (i : Nat) (m : List Bool), v4 = .int .i64 (i : Int) ∧ Aside0 (kq + i = l0.length) ∧ Aside0 (m.length = 8) ∧ Aside0 (pmR l0.length (l0.drop i) m = r) ∧ Aside0 (ArrB w' w.heap.size 28 m) ∧ Aside0 (Below w.heap.size w w'))
      case atStart => exact ⟨0, List.replicate 8 false, rfl, ⟨rfl⟩, ⟨by simp⟩, ⟨by rw [List.drop_zero]; exact HP.out⟩, HA, HB0⟩
      case round =>
        clear HP HA HB0
        obtain ⟨i, m, rfl, E1, E2, HP, HA, HB⟩ := hrel
        cases gk with
        | zero =>
          have hi : i = l0.length := by have := E1.out; omega
          have hp := HP.out
          rw [hi, List.drop_length] at hp
          have d1b : decide ((i : Int) < (l0.length : Int)) = false := decide_eq_false (by omega)
          have d1b' : decide (i < l0.length) = false := decide_eq_false (by omega)
          simp only [pmR] at hp
          subst hp
          clear hi
          go_wp2
          go_ret
          exact ⟨rfl, HB.out⟩
        | succ k1 =>
          have d1 : i < l0.length := by have := E1.out; omega
          have d1b : decide ((i : Int) < (l0.length : Int)) = true := decide_eq_true (by omega)
          have d1b' : decide (i < l0.length) = true := decide_eq_true d1
          have hp := HP.out
          rw [drop_rd l0 i d1] at hp
          simp only [pmR] at hp
          obtain ⟨ad, e1, hx⟩ := Kd.at_int (Kd.C_below HR.out HB.out) (i : Int) (by omega) (by omega)
          cases e1
          rw [Int.toNat_natCast] at hx
          have p1 := eq_true (show 0 ≤ (i : Int) by omega)
          have q1 := eq_true (show (i : Int) < (l0.length : Int) by omega)
          have q1' := eq_true d1
          have HD1 := Aside0.mk d1
          have HW := Aside0.mk (show wrap64 ((i : Int) + 1) = ((i + 1 : Nat) : Int) by unfold wrap64; omega)
          generalize rd l0 (i : Int) = x at hx hp
          by_cases c3 : 0 ≤ x ∧ x ≤ (l0.length : Int) - 1
          · rw [if_pos c3] at hp
            have HIN := Aside0.mk (fun W => spec_in_calls x 0 ((l0.length : Int) - 1) true (by simp [c3]) W)
            obtain ⟨y, rfl⟩ : ∃ y : Nat, x = (y : Int) := ⟨x.toNat, by omega⟩
            rw [Int.toNat_natCast] at hp
            have p3 := eq_true (show 0 ≤ (y : Int) by omega)
            have q3 := eq_true (show (y : Int) < 8 by omega)
            have q3' := eq_true (show y < 8 by omega)
            have hm := HA.out.cell y (by have := E2.out; omega)
            have hf := HA.out.frozen y
            have HY := Aside0.mk (show y < 8 by omega)
            clear c3 d1
            by_cases c4 : m.getD y false = true
            · rw [if_pos c4] at hp
              rw [c4] at hm
              subst hp
              clear c4
              go_wp2_with (go_at_call 12; refine (HIN.out _).mono ?_; rintro e w' ⟨rfl, ⟨q, rfl⟩⟩)
              go_ret
              exact ⟨rfl, pw_below_drewN HB.out _⟩
            · rw [if_neg c4] at hp
              rw [Bool.not_eq_true] at c4
              rw [c4] at hm
              have HP' := Aside0.mk hp
              clear c4 hp HP
              go_wp2_with (go_at_call 12; refine (HIN.out _).mono ?_; rintro e w' ⟨rfl, ⟨q, rfl⟩⟩)
              go_roundg k1
              case measure => omega
              case rel => exact ⟨i + 1, m.set y true, congrArg (Value.int .i64) HW.out, ⟨by have := E1.out; omega⟩, ⟨by rw [List.length_set]; exact E2.out⟩, HP', ⟨(HA.out.drewN _).set y true⟩, ⟨(pw_below_drewN HB.out _).setCell (p := ⟨w.heap.size, y, none⟩) (Nat.le_refl _) (.bool true)⟩⟩
          · rw [if_neg c3] at hp
            subst hp
            have HIN := Aside0.mk (fun W => spec_in_calls x 0 ((l0.length : Int) - 1) false (by rw [← Bool.decide_and]; exact decide_eq_false c3) W)
            clear c3 d1
            go_wp2_with (go_at_call 12; refine (HIN.out _).mono ?_; rintro e w' ⟨rfl, ⟨q, rfl⟩⟩)
            go_ret
            exact ⟨rfl, pw_below_drewN HB.out _⟩
    · rw [if_neg (fun hh => c2 hh.2)] at H
      have c2b : decide ((8 : Int) < (l0.length : Int)) = true := decide_eq_true (by omega)
      have c2b' : decide (8 < l0.length) = true := decide_eq_true (by omega)
      subst H
      clear c1 c2
      go_enter Try.func8, Try.ntmps8
      go_wp2
      go_ret
      exact ⟨rfl, HB0.out⟩
  · rw [if_neg (fun hh => c1 hh.1)] at H
    have c1b : decide ((l0.length : Int) < 1) = true := decide_eq_true (by omega)
    have c1b' : decide (l0.length < 1) = true := decide_eq_true (by omega)
    subst H
    clear c1
    go_enter Try.func8, Try.ntmps8
    go_wp2
    go_ret
    exact ⟨rfl, HB0.out⟩
end Go.Proofs.Ytlagckiombkngaa.Hand
