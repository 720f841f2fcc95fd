/- The contract of laws.markInt64SS and the walk of laws.FnExactRadicalOf. No condition. -/
import Derived.Test.YtgllnmefcikdnaaHandE
import Derived.Test.YtgllnmefcikdnaaHandRadOf
namespace Go.Proofs.Ytgllnmefcikdnaa.RW
open Go.Proofs.Ytgllnmefcikdnaa.Hand
open Go.RowKit Go.Proofs.YtgllnmefcikdnaaW.PrintWords Go.Proofs.YtgllnmefcikdnaaW.PrintLast Go.Proofs.YtgllnmefcikdnaaW.PrintMore
set_option linter.unusedVariables false
set_option linter.unusedSimpArgs false

theorem addPP (g j : Nat) : (⟨g, 0, none⟩ : Addr).add j = ⟨g, j, none⟩ := by unfold Addr.add; split <;> simp_all
/-- laws.markInt64SS in plain words. -/
def markSS.l0 : Nat → List (List Int) → Int → Int → Option (Int × List (List Int))
  | 0, _, _, _ => none
  | k + 1, x0, x1, x5 => if x5 < (x0.length : Int) then (if 0 ≤ x5 then ((laws_markInt64S.f k (x0.getD x5.toNat ([] : List Int)) x1).bind fun p => markSS.l0 k (x0.set x5.toNat p.2) p.1 (wrap64 (x5 + 1))) else none) else some (x1, x0)
set_option maxHeartbeats 4000000 in
theorem markSS_calls (k : Nat) (A : Option Addr) (c : Nat) (L : List (List Int)) (a1 r1 : Int) (r2 : List (List Int)) (w0 w : World) (hB : Below w0.heap.size w0 w) (ho : Kd.S (Kd.slice 2 (Kd.int .i64)) 33 w w0.heap.size (fun _ => True) (.slice A L.length c) L) (h : markSS.l0 k L a1 0 = some (r1, r2)) :
    Calls Try.prog 10 #[.slice A L.length c, .int .i64 a1] w fun e w' => e = .returned (.int .i64 r1) ∧ Kd.S (Kd.slice 2 (Kd.int .i64)) 33 w' w0.heap.size (fun _ => True) (.slice A L.length c) r2 ∧ r2.length = L.length ∧ Below w0.heap.size w0 w' := by
  have HO := Aside0.mk ho
  have HB := Aside0.mk hB
  have H' := Aside0.mk h
  clear ho hB h
  go_enter Try.func10, Try.ntmps10
  go_wp2
  go_loopg [1, 5] k (fun kq v1 v5 w' => ∃ (x1 x5 : Int) (l : List (List Int)), v1 = .int .i64 x1 ∧ v5 = .int .i64 x5 ∧ Aside0 (l.length = L.length) ∧ Aside0 (markSS.l0 kq l x1 x5 = some (r1, r2)) ∧ Aside0 (kq ≤ k) ∧ Aside0 (Kd.S (Kd.slice 2 (Kd.int .i64)) 33 w' w0.heap.size (fun _ => True) (.slice A L.length c) l) ∧ Aside0 (Below w0.heap.size w0 w'))
  case atStart => exact ⟨a1, 0, L, rfl, rfl, ⟨rfl⟩, H', ⟨Nat.le_refl _⟩, HO, HB⟩
  case round =>
    clear H' HO HB
    obtain ⟨x1, x5, l, rfl, rfl, HL, HA, HK1, HO, HB⟩ := hrel
    cases gk with
    | zero => exact absurd HA.out (by simp [markSS.l0])
    | succ k1 =>
      have H := HA.out
      clear HA
      simp only [markSS.l0] at H
      by_cases c3 : x5 < (l.length : Int)
      · rw [if_pos c3] at H
        by_cases c4 : 0 ≤ x5
        · rw [if_pos c4] at H
          obtain ⟨⟨p1, p2⟩, hp, H⟩ := Option.bind_eq_some_iff.mp H
          have H' := Aside0.mk H
          clear H
          have hS := HO.out
          rw [← HL.out] at hS
          obtain ⟨g, cap, ev, _, _, _⟩ := Kd.S_form hS (by omega)
          simp only [Value.slice.injEq] at ev
          obtain ⟨eA, _, ec⟩ := ev
          subst ec
          obtain ⟨ad, had⟩ : ∃ ad : Addr, ad = ⟨g, 0, none⟩ := ⟨_, rfl⟩
          rw [eA] at hS
          rw [← had] at eA
          subst eA
          obtain ⟨oki, cc, hcl, ⟨vr, rfl, hR⟩, hcell, hoki, hH⟩ := Kd.S_lend hS ([] : List Int) x5 c4 c3
          have hx : wr.cell? (ad.add x5.toNat) = some vr := by
            have := hcell 0 vr rfl
            rw [had, addPP]
            simpa [Kd.slice] using this
          obtain ⟨Ar, cr, er⟩ := Kd.R_slice hR
          subst er
          have c3b : decide (x5 < (L.length : Int)) = true := decide_eq_true (by rw [← HL.out]; exact c3)
          have p253 := eq_true c4
          have q253 : (x5 < (L.length : Int)) = True := eq_true (by rw [← HL.out]; exact c3)
          have HP := Aside0.mk hp
          have HR := Aside0.mk hR
          have HH := Aside0.mk hH
          have HD := Aside0.mk had
          clear hcl hcell hoki hp hR hH hS had c3 c4 HO
          go_wp2_with fail
          refine (laws_markInt64S.calls k1 oki _ _ x1 p1 p2 w0 _ HB.out HR.out HP.out).mono ?_
          rintro e w1 ⟨rfl, hR1, hB1, hK1⟩
          have HS1 : Aside0 (Kd.S (Kd.slice 2 (Kd.int .i64)) 33 w1 w0.heap.size (fun _ => True) (.slice (some ad) L.length c) (l.set x5.toNat p2)) := ⟨by
            have hb := Kd.H_back (Kd.H_step (Kd.H_widen HH.out) (w1 := w1) (fun k _ hn hlt => hK1.2 k hlt (fun ho => hn (Or.inl ho)))) (okp := fun k => oki k ∨ wr.heap.size ≤ k) (x' := p2) ⟨_, rfl, hR1⟩ (fun k hk => hk.imp_right (fun h => ⟨trivial, h⟩))
            rw [HL.out, ← HD.out] at hb
            exact hb⟩
          have HB1 := Aside0.mk hB1
          clear hR1 hB1 hK1 HH HR HP
          go_wp2
          go_roundg k1
          case measure => have := HK1.out; omega
          case rel => exact ⟨p1, wrap64 (x5 + 1), l.set x5.toNat p2, rfl, rfl, ⟨by rw [List.length_set]; exact HL.out⟩, H', ⟨by have := HK1.out; omega⟩, HS1, HB1⟩
        · rw [if_neg c4] at H
          cases H
      · rw [if_neg c3] at H
        have c3b : decide (x5 < (L.length : Int)) = false := decide_eq_false (by rw [← HL.out]; exact c3)
        simp only [Option.some.injEq, Prod.mk.injEq] at H
        obtain ⟨rfl, rfl⟩ := H
        clear c3
        go_wp2
        go_ret
        exact ⟨rfl, HO.out, HL.out, HB.out⟩
def laws_FnExactRadicalOf.Pure : Prop := ∀ (a0 a1 a2 a3 : Int), ∃ (k : Nat) (L : List (List Int)) (c : Int) (L' : List (List Int)) (m : Int), spec_RadicalOf.f a0 a1 a2 a3 = some (L, c) ∧ impl_RadicalOf.f a0 a1 a2 a3 = some (L, c) ∧ laws_eqInt64SS.f k L L = some true ∧ markSS.l0 k L 1 0 = some (m, L') ∧ laws_heldInt64SS.f k L' 1 = some m ∧ 0 ≤ m
set_option maxHeartbeats 4000000 in
theorem laws_FnExactRadicalOf.walk (P : laws_FnExactRadicalOf.Pure) (a0 a1 a2 a3 : Int) (w : World) :
    Calls Try.prog 6 #[.int .i64 a0, .int .i64 a1, .int .i64 a2, .int .i64 a3] w fun e w' => e = .returned (.bool true) ∧ Below w.heap.size w w' := by
  obtain ⟨k, L, c, L', m, hs, hi, he, hm, hh, h0⟩ := P a0 a1 a2 a3
  have HS := Aside0.mk hs
  have HI := Aside0.mk hi
  have HE := Aside0.mk he
  have HM := Aside0.mk hm
  have HH := Aside0.mk hh
  have m0 : decide (m < 0) = false := decide_eq_false (by omega)
  clear hs hi he hm hh h0 P
  go_enter Try.func6, Try.ntmps6
  go_wp2_with fail
  refine (spec_RadicalOf.calls a0 a1 a2 a3 L c _ HS.out).mono ?_
  rintro e w1 ⟨v0, rfl, ho1, hb1⟩
  obtain ⟨A1, c1, e1⟩ := Kd.S_slice ho1
  subst e1
  have O1 := Aside0.mk ho1
  have B1 := Aside0.mk hb1
  clear ho1 hb1
  go_wp2_with fail
  refine (impl_RadicalOf.calls a0 a1 a2 a3 L c _ HI.out).mono ?_
  rintro e w2 ⟨v1, rfl, ho2, hb2⟩
  obtain ⟨A2, c2, e2⟩ := Kd.S_slice ho2
  subst e2
  have O2 := Aside0.mk ho2
  have B2 := Aside0.mk hb2
  clear ho2 hb2
  go_wp2_with fail
  refine (laws_eqInt64SS.calls k A2 c2 L A1 c1 L true _ (Kd.S_reads' O2.out).2.2 (Kd.S_reads' O2.out).2.1 (Kd.S_reads' (Kd.S_below O1.out B2.out)).2.2 (Kd.S_reads' O1.out).2.1 HE.out).mono ?_
  rintro e w3 ⟨rfl, ⟨q3, rfl⟩⟩
  go_wp2_with fail
  refine (markSS_calls k A2 c2 L 1 m L' w1 _ (pw_below_drewN B2.out q3) (Kd.S_drewN O2.out q3) HM.out).mono ?_
  rintro e w4 ⟨rfl, ho4, hl4, hb4⟩
  have O4 := Aside0.mk ho4
  have B4 := Aside0.mk hb4
  have HL4 := Aside0.mk hl4
  clear ho4 hb4 hl4 O2 B2
  go_wp2_with fail
  refine (show Calls _ _ _ _ _ from by
    have hh := fun (W : World) (hC : Kd.S (Kd.slice 2 (Kd.int .i64)) 33 W w1.heap.size (fun _ => True) (.slice A2 L'.length c2) L') => laws_heldInt64SS.calls k A2 c2 L' 1 m W (Kd.S_reads' hC).2.2 (Kd.S_reads' hC).2.1 HH.out
    rw [HL4.out] at hh
    exact hh w4 O4.out).mono ?_
  rintro e w5 ⟨rfl, ⟨q5, rfl⟩⟩
  go_wp2_with fail
  refine (impl_RadicalOf.calls a0 a1 a2 a3 L c _ HI.out).mono ?_
  rintro e w6 ⟨v6, rfl, ho6, hb6⟩
  obtain ⟨A6, c6, e6⟩ := Kd.S_slice ho6
  subst e6
  have O6 := Aside0.mk ho6
  have B6 := Aside0.mk hb6
  clear ho6 hb6
  go_wp2_with fail
  refine (laws_eqInt64SS.calls k A6 c6 L A1 c1 L true _ (Kd.S_reads' O6.out).2.2 (Kd.S_reads' O6.out).2.1 (Kd.S_reads' (Kd.S_below (Kd.S_drewN (Kd.S_below O1.out B4.out) q5) B6.out)).2.2 (Kd.S_reads' O1.out).2.1 HE.out).mono ?_
  rintro e w7 ⟨rfl, ⟨q7, rfl⟩⟩
  go_wp2_with fail
  refine (show Calls _ _ _ _ _ from by
    have hh := fun (W : World) (hC : Kd.S (Kd.slice 2 (Kd.int .i64)) 33 W w1.heap.size (fun _ => True) (.slice A2 L'.length c2) L') => laws_heldInt64SS.calls k A2 c2 L' 1 m W (Kd.S_reads' hC).2.2 (Kd.S_reads' hC).2.1 HH.out
    rw [HL4.out] at hh
    exact hh (w6.drewN q7) (Kd.S_drewN (Kd.S_below (Kd.S_drewN O4.out q5) B6.out) q7)).mono ?_
  rintro e w8 ⟨rfl, ⟨q8, rfl⟩⟩
  go_wp2
  go_ret
  exact ⟨rfl, by
    have b4 : Below w.heap.size w w4 := below_step B1.out B4.out
    have b6 : Below w.heap.size w w6 := below_step (pw_below_drewN b4 q5) B6.out
    exact pw_below_drewN b6 (q7 + q8)⟩
end Go.Proofs.Ytgllnmefcikdnaa.RW
