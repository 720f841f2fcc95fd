/- The contracts of impl.isShort's closure and of impl.isShort. Condition: a list shorter than 2^60. -/
import Derived.Test.YtlagckiombkngaaHandL03
namespace Go.Proofs.Ytlagckiombkngaa.Hand
open Go.RowKit Go.Proofs.YtlagckiombkngaaW.PrintWords Go.Proofs.YtlagckiombkngaaW.PrintLast Go.Proofs.YtlagckiombkngaaW.PrintMore
set_option linter.unusedVariables false
set_option linter.unusedSimpArgs false

def shJ (a : Int) : List Int → Bool
  | [] => true
  | b :: r => if b < a then (if r.any (fun c => decide (c < b)) = true then false else shJ a r) else shJ a r
def shI : List Int → Bool
  | [] => true
  | a :: r => shJ a r && shI r
theorem lessJ_calls (A : Option Addr) (c : Nat) (l : List Int) (j : Nat) (B1 B2 : Nat) (w : World) (h1 : w.cell? ⟨B1, 0, none⟩ = some (.slice A l.length c)) (h2 : w.cell? ⟨B2, 0, none⟩ = some (.int .i64 (j : Int)))
    (hr : Kd.C (Kd.int .i64) w A l.length l) (hj : j < l.length) : Preds 17 #[.pointer (some ⟨B1, 0, none⟩), .pointer (some ⟨B2, 0, none⟩)] (fun x => decide (x < rd l (j : Int))) w := by
  intro W x hb
  have hc1 : W.cell? ⟨B1, 0, none⟩ = some (.slice A l.length c) := (hb.cell (World.block_lt_of_cell? w _ h1)).trans h1
  have hc2 : W.cell? ⟨B2, 0, none⟩ = some (.int .i64 (j : Int)) := (hb.cell (World.block_lt_of_cell? w _ h2)).trans h2
  obtain ⟨ad, e1, hx⟩ := Kd.at_int (Kd.C_below hr hb) (j : Int) (by omega) (by omega)
  cases e1
  rw [Int.toNat_natCast] at hx
  have p1 := eq_true (show 0 ≤ (j : Int) by omega)
  have q1 := eq_true (show (j : Int) < (l.length : Int) by omega)
  have q1' := eq_true hj
  generalize rd l (j : Int) = y at hx ⊢
  clear hb h1 h2 hr
  show Calls Try.prog 17 #[.int .i64 x, .pointer (some ⟨B1, 0, none⟩), .pointer (some ⟨B2, 0, none⟩)] W _
  go_enter Try.func17, Try.ntmps17
  go_wp2
  go_ret
  exact ⟨rfl, Drawn0.refl _⟩
theorem inf64 : ∃ i, Try.prog.info? 2 = some i ∧ i.size = 1 := by
  have hq : (Try.prog.info? 2).map (·.size) = some 1 := by kernel_rfl
  cases h : Try.prog.info? 2 with
  | none => rw [h] at hq; cases hq
  | some i => rw [h] at hq; exact ⟨i, rfl, Option.some.inj hq⟩
theorem sh_rel (w W : World) (ad : Addr) (l0 : List Int) (c0 i j k2 : Nat) (a : Int) (r : Bool) (F1 : k2 + 1 + j = l0.length) (F2 : i + 1 ≤ j) (HP : (shJ a (l0.drop (j + 1)) && shI (l0.drop (i + 1))) = r)
    (hcx : W.cell? ⟨w.heap.size, 0, none⟩ = some (.slice (some ad) l0.length c0)) (HB : Below w.heap.size w W) :
    ∃ (j' B : Nat), Value.pointer (some ⟨W.heap.size, 0, none⟩) = .pointer (some ⟨B, 0, none⟩) ∧ Aside0 (k2 + j' = l0.length) ∧ Aside0 (i + 1 ≤ j') ∧ Aside0 ((shJ a (l0.drop j') && shI (l0.drop (i + 1))) = r) ∧ Aside0 ((W.alloc (.cells #[.int .i64 ((j : Int) + 1)] 3)).cell? ⟨w.heap.size, 0, none⟩ = some (.slice (some ad) l0.length c0)) ∧ Aside0 ((W.alloc (.cells #[.int .i64 ((j : Int) + 1)] 3)).cell? ⟨B, 0, none⟩ = some (.int .i64 (j' : Int))) ∧ Aside0 ((W.alloc (.cells #[.int .i64 ((j : Int) + 1)] 3)).frozen? ⟨B, 0, none⟩ = false) ∧ Aside0 (w.heap.size < B) ∧ Aside0 (Below w.heap.size w (W.alloc (.cells #[.int .i64 ((j : Int) + 1)] 3))) :=
  ⟨j + 1, W.heap.size, rfl, ⟨by omega⟩, ⟨by omega⟩, ⟨HP⟩, ⟨by rw [World.cell?_alloc_lt _ _ _ (World.block_lt_of_cell? _ _ hcx)]; exact hcx⟩, ⟨by simp⟩, ⟨by simp⟩, ⟨World.block_lt_of_cell? _ _ hcx⟩, ⟨below_alloc HB _⟩⟩
def impl_isShort.f (l : List Int) : Option Bool := if l.length ≤ 1152921504606846976 then some (shI l) else none
set_option maxHeartbeats 2000000 in
theorem impl_isShort.calls (A0 : Option Addr) (c0 : Nat) (l0 : List Int) (r : Bool) (w : World) (hr0 : Kd.C (Kd.int .i64) w A0 l0.length l0) (hc0 : l0.length ≤ c0) (h : impl_isShort.f l0 = some r) :
    Calls Try.prog 11 #[.slice A0 l0.length c0] w fun e w' => e = .returned (.bool r) ∧ Below w.heap.size w w' := by
  unfold impl_isShort.f at h
  by_cases hb : l0.length ≤ 1152921504606846976
  · rw [if_pos hb] at h
    have H := Option.some.inj h
    clear h
    have HR := Aside0.mk hr0
    have HL := Aside0.mk hb
    have HCC := Aside0.mk hc0
    have HH := Aside0.mk H
    have HB0 := Aside0.mk (below_alloc (Below.refl w.heap.size w) (.cells #[.slice A0 l0.length c0] 22))
    have HC0 := Aside0.mk (show (w.alloc (.cells #[.slice A0 l0.length c0] 22)).cell? ⟨w.heap.size, 0, none⟩ = some (.slice A0 l0.length c0) by simp)
    have eg : ∀ args w, (callFunc 17 args).run Try.prog w = .ok (.enter 17 args) w := enters_ Try.func17 (by kernel_rfl) rfl
    have EG := Aside0.mk eg
    have INF := Aside0.mk inf64
    clear hr0 hc0 hb H eg
    go_enter Try.func11, Try.ntmps11
    go_wp2
    go_loopg [3, 4, 5, 8] l0.length (fun kq _ _ _ v8 w' => ∃ (i : Nat), v8 = .int .i64 (i : Int) ∧ Aside0 (kq + i = l0.length) ∧ Aside0 (shI (l0.drop i) = r) ∧ Aside0 (w'.cell? ⟨w.heap.size, 0, none⟩ = some (.slice A0 l0.length c0)) ∧ Aside0 (Below w.heap.size w w'))
    case atStart => exact ⟨0, rfl, ⟨rfl⟩, ⟨by rw [List.drop_zero]; exact HH.out⟩, HC0, HB0⟩
    case round =>
      clear HH HB0 HC0
      obtain ⟨i, rfl, E1, HP, HC, HB⟩ := hrel
      cases gk with
      | zero =>
        have hi : i = l0.length := by have := E1.out; omega
        have hp := HP.out
        rw [hi, List.drop_length] at hp
        have d1b : decide ((i : Int) < (l0.length : Int)) = false := decide_eq_false (by omega)
        have d1b' : decide (i < l0.length) = false := decide_eq_false (by omega)
        simp only [shI] at hp
        subst hp
        clear hi
        go_wp2
        go_ret
        exact ⟨rfl, HB.out⟩
      | succ k1 =>
        have d1 : i < l0.length := by have := E1.out; omega
        have d1b : decide ((i : Int) < (l0.length : Int)) = true := decide_eq_true (by omega)
        have d1b' : decide (i < l0.length) = true := decide_eq_true d1
        have hp := HP.out
        rw [drop_rd l0 i d1] at hp
        simp only [shI] at hp
        obtain ⟨ad, e1, hx⟩ := Kd.at_int (Kd.C_below HR.out HB.out) (i : Int) (by omega) (by omega)
        cases e1
        rw [Int.toNat_natCast] at hx
        have p1 := eq_true (show 0 ≤ (i : Int) by omega)
        have q1 := eq_true (show (i : Int) < (l0.length : Int) by omega)
        have q1' := eq_true d1
        have HD1 := Aside0.mk d1
        have HW := Aside0.mk (show wrap64 ((i : Int) + 1) = ((i + 1 : Nat) : Int) by have := HL.out; unfold wrap64; omega)
        generalize rd l0 (i : Int) = a at hx hp
        have HP1 := Aside0.mk hp
        have hcx := HC.out
        clear hp HP d1
        go_wp2
        obtain ⟨W0, hW0⟩ : ∃ W0, W0 = wr := ⟨_, rfl⟩
        go_loopg [5] (l0.length - (i + 1)) (fun kq v5 w' => ∃ (j B : Nat), v5 = .pointer (some ⟨B, 0, none⟩) ∧ Aside0 (kq + j = l0.length) ∧ Aside0 (i + 1 ≤ j) ∧ Aside0 ((shJ a (l0.drop j) && shI (l0.drop (i + 1))) = r) ∧ Aside0 (w'.cell? ⟨w.heap.size, 0, none⟩ = some (.slice (some ad) l0.length c0)) ∧ Aside0 (w'.cell? ⟨B, 0, none⟩ = some (.int .i64 (j : Int))) ∧ Aside0 (w'.frozen? ⟨B, 0, none⟩ = false) ∧ Aside0 (w.heap.size < B) ∧ Aside0 (Below w.heap.size w w'))
        case atStart =>
          subst hW0
          exact ⟨i + 1, W0.heap.size, rfl, ⟨by have := HD1.out; omega⟩, ⟨Nat.le_refl _⟩, HP1, ⟨by rw [World.cell?_alloc_lt _ _ _ (World.block_lt_of_cell? _ _ hcx)]; exact hcx⟩, ⟨by rw [← HW.out]; simp⟩, ⟨by simp⟩, ⟨World.block_lt_of_cell? _ _ hcx⟩, ⟨below_alloc HB.out _⟩⟩
        case round =>
          clear HP1
          obtain ⟨j, B, rfl, F1, F2, HP, HC, HJ, HJf, HBl, HB⟩ := hrel
          cases gk with
          | zero =>
            have hi : j = l0.length := by have := F1.out; omega
            have hp := HP.out
            rw [hi, List.drop_length] at hp
            have d2b : decide ((j : Int) < (l0.length : Int)) = false := decide_eq_false (by omega)
            have d2b' : decide (j < l0.length) = false := decide_eq_false (by omega)
            simp only [shJ, Bool.true_and] at hp
            have HP' := Aside0.mk hp
            have hcx := HC.out
            have hjx := HJ.out
            clear hi hp HP
            go_wp2
            go_roundg k1
            case measure => omega
            case rel => exact ⟨i + 1, congrArg (Value.int .i64) HW.out, ⟨by have := E1.out; omega⟩, HP', HC, HB⟩
          | succ k2 =>
            have d2 : j < l0.length := by have := F1.out; omega
            have d2b : decide ((j : Int) < (l0.length : Int)) = true := decide_eq_true (by omega)
            have d2b' : decide (j < l0.length) = true := decide_eq_true d2
            have hp := HP.out
            rw [drop_rd l0 j d2] at hp
            simp only [shJ] at hp
            obtain ⟨ad2, e2, hx2⟩ := Kd.at_int (Kd.C_below HR.out HB.out) (j : Int) (by omega) (by omega)
            cases e2
            rw [Int.toNat_natCast] at hx2
            have p2 := eq_true (show 0 ≤ (j : Int) by omega)
            have q2 := eq_true (show (j : Int) < (l0.length : Int) by omega)
            have q2' := eq_true d2
            have HD2 := Aside0.mk d2
            have hw2 : wrap64 ((j : Int) + 1) = ((j + 1 : Nat) : Int) := by have := HL.out; unfold wrap64; omega
            have HCF := Aside0.mk (fun (q : Nat) (A' : Option Addr) (c' : Nat) (hrr : Kd.C (Kd.int .i64) (wr.drewN q) A' (l0.drop (j + 1)).length (l0.drop (j + 1))) => containsFunc_calls (fun x => decide (x < rd l0 (j : Int))) 17 #[.pointer (some ⟨w.heap.size, 0, none⟩), .pointer (some ⟨B, 0, none⟩)] EG.out A' c' (l0.drop (j + 1)) (wr.drewN q) hrr (by rw [List.length_drop]; have := HL.out; omega) (lessJ_calls (some ad) c0 l0 j w.heap.size B (wr.drewN q) HC.out HJ.out (Kd.C_below HR.out (pw_below_drewN HB.out q)) d2))
            generalize rd l0 (j : Int) = b at hx2 hp HCF
            have hcx := HC.out
            have hjx := HJ.out
            have hjf := HJf.out
            clear d2 HP
            by_cases c3 : b < a
            · rw [if_pos c3] at hp
              have c3b : decide (b < a) = true := decide_eq_true c3
              obtain ⟨A', hrun, hread, hcap⟩ := print_drop_of (P := Try.prog) (Value.int .i64) (0 : Int) 22 2 .i64 (by kernel_rfl) INF.out.choose_spec.1 INF.out.choose_spec.2 (some ad) c0 l0 ((j : Int) + 1) (by omega) (by have := HD2.out; omega) HCC.out
              rw [show ((j : Int) + 1).toNat = j + 1 by omega] at hrun hread hcap
              have hcf := HCF.out 0 A' (c0 - (j + 1)) (Kd.C_of_reads (hread _ (Kd.reads_of_C (Kd.C_below HR.out (pw_below_drewN HB.out 0)))))
              rw [List.length_drop] at hcf
              have HCF2 := Aside0.mk hcf
              clear hcf
              clear HCF hread hcap c3
              by_cases c4 : (l0.drop (j + 1)).any (fun x => decide (x < b)) = true
              · rw [if_pos c4, Bool.false_and] at hp
                rw [c4] at HCF2
                subst hp
                clear c4
                go_wp2_with fail
                refine HCF2.out.mono ?_
                rintro e w' ⟨rfl, ⟨q, rfl⟩⟩
                clear HCF2 hrun
                go_wp2
                go_ret
                exact ⟨rfl, pw_below_drewN (pw_below_drewN HB.out 0) q⟩
              · rw [if_neg c4] at hp
                rw [Bool.not_eq_true] at c4
                rw [c4] at HCF2
                have HP' := Aside0.mk hp
                clear c4 hp
                go_wp2_with fail
                refine HCF2.out.mono ?_
                rintro e w' ⟨rfl, ⟨q, rfl⟩⟩
                clear HCF2 hrun
                obtain ⟨W5, hW5⟩ : ∃ W5, W5 = (wr.drewN 0).drewN q := ⟨_, rfl⟩
                have hcx5 : W5.cell? ⟨w.heap.size, 0, none⟩ = some (.slice (some ad) l0.length c0) := by rw [hW5]; exact hcx
                have hjx5 : W5.cell? ⟨B, 0, none⟩ = some (.int .i64 (j : Int)) := by rw [hW5]; exact hjx
                have HB5 := Aside0.mk (show Below w.heap.size w W5 by rw [hW5]; exact pw_below_drewN (pw_below_drewN HB.out 0) q)
                rw [← hW5]
                clear hW5 hx2 hx
                go_wp2
                go_roundg k2
                case measure => omega
                case rel => exact sh_rel w W5 ad l0 c0 i j k2 a r F1.out F2.out HP'.out hcx5 HB5.out
            · rw [if_neg c3] at hp
              have c3b : decide (b < a) = false := decide_eq_false c3
              have HP' := Aside0.mk hp
              clear HCF c3 hp
              go_wp2
              go_roundg k2
              case measure => omega
              case rel => exact sh_rel w wr ad l0 c0 i j k2 a r F1.out F2.out HP'.out hcx HB.out
  · rw [if_neg hb] at h
    cases h
end Go.Proofs.Ytlagckiombkngaa.Hand
