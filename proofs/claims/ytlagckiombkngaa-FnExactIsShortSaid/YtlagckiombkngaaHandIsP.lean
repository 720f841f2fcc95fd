/- The contract of impl.isPermutation. Condition: a list of at most 2^20 numbers. -/
import Derived.Test.YtlagckiombkngaaHandSh
import Derived.Test.YtlagckiombkngaaHandSorted
namespace Go.Proofs.Ytlagckiombkngaa.Hand
open Go.RowKit Go.Proofs.YtlagckiombkngaaW.PrintWords Go.Proofs.YtlagckiombkngaaW.PrintLast Go.Proofs.YtlagckiombkngaaW.PrintMore
set_option linter.unusedVariables false
set_option linter.unusedSimpArgs false

def srt (l : List Int) : List Int := l.mergeSort (fun x y => decide (x ≤ y))
theorem srt_length (l : List Int) : (srt l).length = l.length := List.length_mergeSort l
theorem sorted_any (Bs : Nat) (A : Option Addr) (cap : Nat) (l : List Int) (hl : l.length ≤ 1048576) (w : World) (hBs : w.cell? ⟨Bs, 0, none⟩ = some (.slice A l.length cap)) (hr : Kd.C (Kd.int .i64) w A l.length l) :
    Calls Try.prog 13 #[.func (.func 20) #[] #[.pointer (some ⟨Bs, 0, none⟩)]] w fun e w' => ∃ (A' : Option Addr) (c' : Nat), e = .returned (.slice A' l.length c') ∧ Kd.C (Kd.int .i64) w' A' l.length (srt l) ∧ Below w.heap.size w w' := by
  have hBw := World.block_lt_of_cell? w _ hBs
  by_cases h0 : l.length = 0
  · have hl0 : l = [] := List.eq_nil_of_length_eq_zero h0
    subst hl0
    refine (sorted_empty Bs A cap w hBw hBs).mono ?_
    rintro e w' ⟨v, rfl, hrow, hb⟩
    obtain ⟨A', c', rfl, hr'⟩ := own_reads_of (enc := Value.int .i64) (d := (0 : Int)) (xs := []) hrow
    exact ⟨A', c', rfl, (by rw [show srt [] = [] by unfold srt; simp]; exact Kd.C_of_reads hr'), hb⟩
  · obtain ⟨ad, rfl, _⟩ := Kd.at_int hr 0 (by omega) (by omega)
    refine (sorted_calls Bs ad cap l hl w hBw hBs (fun j hj => ?_)).mono ?_
    · obtain ⟨ad', e', hx⟩ := Kd.at_int hr (j : Int) (by omega) (by omega)
      cases e'
      rw [Int.toNat_natCast] at hx
      rw [hx]
      unfold rd
      rw [Int.toNat_natCast, List.getD_eq_getElem?_getD]
    · rintro e w' ⟨v, rfl, hrow, hb⟩
      obtain ⟨A', c', rfl, hr'⟩ := own_reads_of (enc := Value.int .i64) (d := (0 : Int)) (xs := srt l) hrow
      exact ⟨A', c', rfl, Kd.C_of_reads hr', hb⟩
def upI : List Int → Nat → Bool
  | [], _ => true
  | x :: r, i => if x = (i : Int) then upI r (i + 1) else false
theorem impl_in_calls (x lo hi : Int) (b : Bool) (hb : (decide (lo ≤ x) && decide (x ≤ hi)) = b) (w : World) : Calls Try.prog 15 #[.int .i64 x, .int .i64 lo, .int .i64 hi] w fun e w' => e = .returned (.bool b) ∧ Drawn0 w w' := by
  refine impl_in.calls x lo hi b w ?_
  unfold impl_in.f
  by_cases c : x ≥ lo
  · rw [if_pos c, ← hb, decide_eq_true c, Bool.true_and]
  · rw [if_neg c, ← hb, decide_eq_false c, Bool.false_and]
def impl_isPermutation.f (l : List Int) : Option Bool := if l.length ≤ 1048576 then some (upI (srt l) 0 && (decide ((1 : Int) ≤ (l.length : Int)) && decide ((l.length : Int) ≤ 8))) else none
set_option maxHeartbeats 2000000 in
theorem impl_isPermutation.calls (A0 : Option Addr) (c0 : Nat) (l0 : List Int) (r : Bool) (w : World) (hr0 : Kd.C (Kd.int .i64) w A0 l0.length l0) (hc0 : l0.length ≤ c0) (h : impl_isPermutation.f l0 = some r) :
    Calls Try.prog 10 #[.slice A0 l0.length c0] w fun e w' => e = .returned (.bool r) ∧ Below w.heap.size w w' := by
  unfold impl_isPermutation.f at h
  by_cases hb : l0.length ≤ 1048576
  · rw [if_pos hb] at h
    have H := Option.some.inj h
    clear h
    have HL := Aside0.mk hb
    have HH := Aside0.mk H
    have hb0 := below_alloc (Below.refl w.heap.size w) (.cells #[.slice A0 l0.length c0] 22)
    have HSO := Aside0.mk (sorted_any w.heap.size A0 c0 l0 hb (w.alloc (.cells #[.slice A0 l0.length c0] 22)) (by simp) (Kd.C_below hr0 hb0))
    have HB0 := Aside0.mk hb0
    have HV := Aside0.mk (fun W => values_calls A0 l0.length c0 W)
    have HIN := Aside0.mk (fun W => impl_in_calls (l0.length : Int) 1 8 _ rfl W)
    have HLS := Aside0.mk (srt_length l0)
    generalize srt l0 = s at HSO HH HLS
    clear hr0 hc0 hb H hb0
    go_enter Try.func10, Try.ntmps10
    go_wp2_with fail
    refine (HV.out _).mono ?_
    rintro e w1 ⟨rfl, rfl⟩
    go_wp2_with fail
    refine HSO.out.mono ?_
    rintro e w2 ⟨A', c', rfl, hr', hb2⟩
    have HR := Aside0.mk hr'
    have HB2 := Aside0.mk (below_step HB0.out hb2)
    clear hr' hb2 HSO HB0 HV
    go_wp2
    go_loopg [3, 4, 9] l0.length (fun kq _ _ v9 w' => ∃ (i : Nat), v9 = .int .i64 (i : Int) ∧ Aside0 (kq + i = l0.length) ∧ Aside0 ((upI (s.drop i) i && (decide ((1 : Int) ≤ (l0.length : Int)) && decide ((l0.length : Int) ≤ 8))) = r) ∧ Aside0 (w' = w2))
    case atStart => exact ⟨0, rfl, ⟨rfl⟩, ⟨by rw [List.drop_zero]; exact HH.out⟩, ⟨rfl⟩⟩
    case round =>
      clear HH
      obtain ⟨i, rfl, E1, HP, ⟨rfl⟩⟩ := hrel
      cases gk with
      | zero =>
        have hi : i = l0.length := by have := E1.out; omega
        have hp := HP.out
        rw [hi, ← HLS.out, List.drop_length, HLS.out] at hp
        have d1b : decide ((i : Int) < (l0.length : Int)) = false := decide_eq_false (by omega)
        have d1b' : decide (i < l0.length) = false := decide_eq_false (by omega)
        simp only [upI, Bool.true_and] at hp
        have HP' := Aside0.mk hp
        clear hi hp HP
        go_wp2_with (go_at_call 15; refine (HIN.out _).mono ?_; rintro e w' ⟨rfl, ⟨q, rfl⟩⟩)
        go_ret
        exact ⟨by rw [← HP'.out]; rfl, pw_below_drewN HB2.out _⟩
      | succ k1 =>
        have d1 : i < l0.length := by have := E1.out; omega
        have d1b : decide ((i : Int) < (l0.length : Int)) = true := decide_eq_true (by omega)
        have d1b' : decide (i < l0.length) = true := decide_eq_true d1
        have hp := HP.out
        rw [drop_rd s i (by have := HLS.out; omega)] at hp
        simp only [upI] at hp
        obtain ⟨ad, e1, hx⟩ := Kd.at_int HR.out (i : Int) (by omega) (by omega)
        cases e1
        rw [Int.toNat_natCast] at hx
        have p1 := eq_true (show 0 ≤ (i : Int) by omega)
        have q1 := eq_true (show (i : Int) < (l0.length : Int) by omega)
        have q1' := eq_true d1
        have HD1 := Aside0.mk d1
        have HW := Aside0.mk (show wrap64 ((i : Int) + 1) = ((i + 1 : Nat) : Int) by have := HL.out; unfold wrap64; omega)
        generalize rd s (i : Int) = x at hx hp
        clear d1 HP
        by_cases c2 : x = (i : Int)
        · rw [if_pos c2] at hp
          have HP' := Aside0.mk hp
          have c2b : (x == (i : Int)) = true := beq_iff_eq.mpr c2
          subst c2
          clear hp
          go_wp2
          go_roundg k1
          case measure => omega
          case rel => exact ⟨i + 1, congrArg (Value.int .i64) HW.out, ⟨by have := E1.out; omega⟩, HP', ⟨rfl⟩⟩
        · rw [if_neg c2, Bool.false_and] at hp
          have c2b : (x == (i : Int)) = false := beq_eq_false_iff_ne.mpr c2
          subst hp
          clear c2
          go_wp2
          go_ret
          exact ⟨rfl, HB2.out⟩
  · rw [if_neg hb] at h
    cases h
end Go.Proofs.Ytlagckiombkngaa.Hand
