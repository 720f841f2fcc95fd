/- The contract of slices.IndexFunc over the rows of a table with the closure of impl.determinant: the first row whose entry in the column is not 0. No condition. -/
import Derived.Test.YtmpdloamgiejhaaHandTab
namespace Go.Proofs.Ytmpdloamgiejhaa.Hand
open Go.RowKit Go.Proofs.YtmpdloamgiejhaaW.PrintWords Go.Proofs.YtmpdloamgiejhaaW.PrintLast Go.Proofs.YtmpdloamgiejhaaW.PrintMore
set_option linter.unusedVariables false
set_option linter.unusedSimpArgs false

/-- The first row from j on, of d rows, whose entry in column c is not 0. -/
def ixg (L : List (List Int)) (c : Nat) : Nat → Nat → Option Nat
  | 0, _ => none
  | d + 1, j => if ent L j c = 0 then ixg L c d (j + 1) else some j
/-- As the program counts it, from o on. -/
def ixr (L : List (List Int)) (c d j o : Nat) : Int := match ixg L c d j with
  | none => -1
  | some i => ((i - o : Nat) : Int)
theorem ixg_some : ∀ {L : List (List Int)} {c d j k : Nat}, ixg L c d j = some k → j ≤ k ∧ k < j + d ∧ ent L k c ≠ 0 := by
  intro L c d
  induction d with
  | zero => intro j k h; simp [ixg] at h
  | succ d ih =>
    intro j k h
    simp only [ixg] at h
    by_cases e : ent L j c = 0
    · rw [if_pos e] at h
      have := ih h
      exact ⟨by omega, by omega, this.2.2⟩
    · rw [if_neg e] at h
      obtain rfl := Option.some.inj h
      exact ⟨by omega, by omega, e⟩
theorem is_calls (b n cc bx c : Nat) (v : Int) (w : World) (hx : w.cell? ⟨bx, 0, none⟩ = some (.int .i64 (c : Int))) (hv : w.cell? ⟨b, c, none⟩ = some (.int .i64 v)) (hc : c < n) :
    Calls Try.prog 47 #[.slice (some ⟨b, 0, none⟩) n cc, .pointer (some ⟨bx, 0, none⟩)] w fun e w' => e = .returned (.bool (v != 0)) ∧ w' = w := by
  have c1 : (c : Int) < (n : Int) := by omega
  have c2 := eq_true c1
  have c3 : (0 : Int) ≤ (c : Int) := by omega
  go_enter Try.func47, Try.ntmps47
  go_wp2
  go_ret
  exact ⟨rfl, rfl⟩
set_option maxHeartbeats 4000000 in
theorem index_calls (w : World) (B g n : Nat) (bs cs : Nat → Nat) (L : List (List Int)) (bx c o cap : Nat) (hT : Tab w B g n bs cs L) (hx : w.cell? ⟨bx, 0, none⟩ = some (.int .i64 (c : Int))) (hc : c < n) (ho : o ≤ L.length) (hm : L.length ≤ 100) (d : Nat) (hd : L.length - o = d) :
    Calls Try.prog 46 #[.slice (some ⟨g, o, none⟩) d cap, .func (.func 47) #[] #[.pointer (some ⟨bx, 0, none⟩)]] w fun e w' => e = .returned (.int .i64 (ixr L c d o o)) ∧ ∃ q, w' = w.drewN q := by
  obtain ⟨ret, hret⟩ : ∃ ret, ret = ixr L c d o o := ⟨_, rfl⟩
  rw [← hret]
  have HT := Aside0.mk hT
  have HX := Aside0.mk hx
  have HC := Aside0.mk hc
  have HD := Aside0.mk hd
  have HM := Aside0.mk hm
  have HR := Aside0.mk hret
  clear hT hx hc hd hm hret ho
  go_enter Try.func46, Try.ntmps46
  go_wp2
  go_loopg [4, 5, 8] d (fun dq v4 v5 v8 w' => ∃ (j : Nat), v8 = .int .i64 ((j : Int)) ∧ Aside0 (j + dq = d) ∧ Aside0 (ret = ixr L c dq (o + j) o) ∧ ∃ q : Nat, w' = w.drewN q)
  case atStart => exact ⟨0, rfl, ⟨by omega⟩, HR, 0, rfl⟩
  case round =>
    clear HR
    obtain ⟨j, rfl, HJ, HR, q, rfl⟩ := hrel
    have T2 := HT.out.drewN q
    have X2 : (w.drewN q).cell? ⟨bx, 0, none⟩ = some (.int .i64 (c : Int)) := HX.out
    cases gk with
    | zero =>
      have hd := HJ.out
      have c1 : decide ((j : Int) < (d : Int)) = false := decide_eq_false (by omega)
      have e : ret = -1 := HR.out
      subst e
      clear T2 X2
      go_wp2
      go_ret
      exact ⟨rfl, q, rfl⟩
    | succ dq =>
      have hd := HJ.out
      have hD := HD.out
      have hjl : o + j < L.length := by omega
      have c1 : decide ((j : Int) < (d : Int)) = true := decide_eq_true (by omega)
      have p1 := eq_true (show (0 : Int) ≤ (j : Int) by omega)
      have p2 := eq_true (show (j : Int) < (d : Int) by omega)
      have hh := T2.head hjl
      have hv := T2.cell hjl HC.out
      have HV := Aside0.mk hv
      have HX2 := Aside0.mk X2
      clear T2 X2 hv hd hD hjl
      obtain ⟨vv, hvv⟩ : ∃ vv : Bool, (ent L (o + j) c != 0) = vv := ⟨_, rfl⟩
      have HVV := Aside0.mk hvv
      clear hvv
      go_wp2_with fail
      refine (is_calls (bs (o + j)) n (cs (o + j)) bx c (ent L (o + j) c) _ HX2.out HV.out HC.out).mono ?_
      rintro e w1 ⟨rfl, rfl⟩
      rw [HVV.out]
      cases vv with
      | true =>
        have e : ret = (j : Int) := by
          have h1 := HR.out
          have h2 := HVV.out
          rw [bne_iff_ne] at h2
          simp only [ixr, ixg, if_neg h2] at h1
          omega
        subst e
        clear HR HVV
        go_wp2
        go_ret
        exact ⟨rfl, q, rfl⟩
      | false =>
        have e : ret = ixr L c dq (o + (j + 1)) o := by
          have h1 := HR.out
          have h2 := HVV.out
          have h3 : ent L (o + j) c = 0 := by simpa using h2
          simp only [ixr, ixg, if_pos h3] at h1
          exact h1
        have HR2 := Aside0.mk e
        clear e HR HVV
        have hw : wrap64 ((j : Int) + 1) = ((j + 1 : Nat) : Int) := by
          have := HJ.out
          have := HD.out
          have := HM.out
          unfold wrap64
          omega
        go_wp2
        go_roundg dq
        case measure => have := HJ.out; omega
        case rel => exact ⟨j + 1, congrArg _ hw, ⟨by have := HJ.out; omega⟩, HR2, q, rfl⟩
end Go.Proofs.Ytmpdloamgiejhaa.Hand
