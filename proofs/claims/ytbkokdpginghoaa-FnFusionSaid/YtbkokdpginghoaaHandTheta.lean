/- The contract of impl.ThetaNumber: it returns what a plain function says. No condition. -/
import Derived.Test.YtbkokdpginghoaaHandP
namespace Go.Proofs.Ytbkokdpginghoaa.Hand
open Go.RowKit Go.Proofs.YtbkokdpginghoaaW.PrintWords Go.Proofs.YtbkokdpginghoaaW.PrintLast Go.Proofs.YtbkokdpginghoaaW.PrintMore
set_option linter.unusedVariables false
set_option linter.unusedSimpArgs false

/-- The product of the numbers 1 to x of a list, by rests. -/
def thetaG.l0 : Nat → Int → Int → List Int → Int → Int → Option Int
  | 0, _, _, _, _, _ => none
  | k + 1, x, p, F, o, i => if i ≤ x then (if 0 ≤ i then (if i < (F.length : Int) then (if p = 0 then none else thetaG.l0 k x p F (Int.tmod (wrap64 (o * (rd F i))) p) (wrap64 (i + 1))) else none) else none) else some o
theorem thetaG.mono_l : ∀ k x p F o i, LeO (thetaG.l0 k x p F o i) (thetaG.l0 (k + 1) x p F o i)
  | 0 => fun _ _ _ _ _ r h => by simp [thetaG.l0] at h
  | k + 1 => fun x p F o i => by
    have ih := thetaG.mono_l k
    rw [thetaG.l0, thetaG.l0]
    exact LeO.ite (LeO.ite (LeO.ite (LeO.ite (LeO.refl _) (ih _ _ _ _ _)) (LeO.refl _)) (LeO.refl _)) (LeO.refl _)
set_option maxHeartbeats 4000000 in
theorem thetaG.calls (k : Nat) (x p : Int) (F : List Int) (r : Int) (A : Option Addr) (c B C : Nat) (W : World) (hF : W.cell? ⟨B, 0, none⟩ = some (.slice A F.length c)) (hP : W.cell? ⟨C, 0, none⟩ = some (.int .i64 p)) (hr : Kd.C (Kd.int .i64) W A F.length F) (h : thetaG.l0 k x p F 1 1 = some r) :
    Calls Try.prog 47 #[.int .i64 x, .pointer (some ⟨B, 0, none⟩), .pointer (some ⟨C, 0, none⟩)] W fun e w' => e = .returned (.int .i64 r) ∧ Drawn0 W w' := by
  have HR := Aside0.mk hr
  have H' := Aside0.mk h
  clear hr h
  go_enter Try.func47, Try.ntmps47
  go_wp2
  go_loopg [5, 6] k (fun kq v5 v6 w' => ∃ (o i : Int), v5 = .int .i64 o ∧ v6 = .int .i64 i ∧ Aside0 (thetaG.l0 kq x p F o i = some r) ∧ Aside0 (kq ≤ k) ∧ Drawn0 W w')
  case atStart => exact ⟨1, 1, rfl, rfl, H', ⟨Nat.le_refl _⟩, Drawn0.refl _⟩
  case round =>
    clear H'
    obtain ⟨o, i, rfl, rfl, HA, HK1, ⟨m1, rfl⟩⟩ := hrel
    cases gk with
    | zero => exact absurd HA.out (by simp [thetaG.l0])
    | succ k1 =>
      have H := HA.out
      clear HA
      simp only [thetaG.l0] at H
      by_cases c2 : i ≤ x
      · rw [if_pos c2] at H
        have c2b0 : decide (i ≤ x) = true := decide_eq_true c2
        clear c2
        by_cases c3 : 0 ≤ i
        · rw [if_pos c3] at H
          by_cases c4 : i < (F.length : Int)
          · rw [if_pos c4] at H
            by_cases c5 : p = 0
            · rw [if_pos c5] at H
              cases H
            · rw [if_neg c5] at H
              have c5b0 : (p == 0) = false := beq_eq_false_iff_ne.mpr c5
              obtain ⟨ad, e105, hx105_0⟩ := Kd.at_int HR.out i c3 c4
              cases e105
              have p105 := eq_true c3
              have q105 := eq_true c4
              have c5b2 := eq_false c5
              clear c3 c4 c5
              generalize hy : rd F i = y at hx105_0 H
              clear hy
              have H' := Aside0.mk H
              clear H
              go_wp2
              go_quiet (fail)
              go_wp2
              go_roundg k1
              case measure => have := HK1.out; omega
              case rel => exact ⟨_, _, rfl, rfl, H', ⟨by have := HK1.out; omega⟩, by repeat (first | exact Drawn0.refl _ | apply Drawn0.step | exact ⟨_, rfl⟩)⟩
          · rw [if_neg c4] at H
            cases H
        · rw [if_neg c3] at H
          cases H
      · rw [if_neg c2] at H
        have c2b0 : decide (i ≤ x) = false := decide_eq_false c2
        clear c2
        obtain rfl := Option.some.inj H
        go_wp2
        go_ret
        exact ⟨rfl, by repeat (first | exact Drawn0.refl _ | apply Drawn0.step)⟩
/-- What stands behind the labels: the seven products, and their quotient. -/
def thetaTail (k : Nat) (p : Int) (F : List Int) (x y v : Int) : Option (Int × Int) :=
  (thetaG.l0 k (wrap64 (wrap64 (x + y) + v)) p F 1 1).bind fun g0 => (thetaG.l0 k (wrap64 (x - 1)) p F 1 1).bind fun g1 => (thetaG.l0 k (wrap64 (y - 1)) p F 1 1).bind fun g2 => (thetaG.l0 k (wrap64 (v - 1)) p F 1 1).bind fun g3 =>
  (thetaG.l0 k (wrap64 (wrap64 (y + v) - 1)) p F 1 1).bind fun g4 => (thetaG.l0 k (wrap64 (wrap64 (v + x) - 1)) p F 1 1).bind fun g5 => (thetaG.l0 k (wrap64 (wrap64 (x + y) - 1)) p F 1 1).bind fun g6 =>
  if p = 0 then none else (impl_inverse.f k (Int.tmod (wrap64 ((Int.tmod (wrap64 (g4 * g5)) p) * g6)) p) p).bind fun iv =>
  some (Int.tmod (wrap64 ((Int.tmod (wrap64 ((Int.tmod (wrap64 ((Int.tmod (wrap64 (g0 * g1)) p) * g2)) p) * g3)) p) * iv)) p, 0)
theorem thetaTail.mono (p : Int) (F : List Int) (x y v : Int) (k : Nat) : LeO (thetaTail k p F x y v) (thetaTail (k + 1) p F x y v) := by
  unfold thetaTail
  exact LeO.bind (thetaG.mono_l k _ _ _ _ _) (fun _ => LeO.bind (thetaG.mono_l k _ _ _ _ _) (fun _ => LeO.bind (thetaG.mono_l k _ _ _ _ _) (fun _ => LeO.bind (thetaG.mono_l k _ _ _ _ _) (fun _ => LeO.bind (thetaG.mono_l k _ _ _ _ _) (fun _ => LeO.bind (thetaG.mono_l k _ _ _ _ _) (fun _ => LeO.bind (thetaG.mono_l k _ _ _ _ _) (fun _ => LeO.ite (LeO.refl _) (LeO.bind (impl_inverse.mono _ _ k) (fun _ => LeO.refl _)))))))))
/-- impl.ThetaNumber in plain words. -/
def impl_ThetaNumber.f (k : Nat) (a0 a1 a2 a3 a4 : Int) : Option (Int × Int) :=
  (impl_labelsOk.f k a0 a1 ([a2, a3, a4] : List Int)).bind fun t => if t = true then ((impl_firstZero.f k a0 a1).bind fun z => (impl_admissible.f z a2 a3 a4).bind fun t => if t = true then ((impl_chebyshev.f k a0 a1 z).bind fun F =>
  thetaTail k a0 F (wrap64 (Int.tdiv (wrap64 ((wrap64 (a2 + a3)) - a4)) 2)) (wrap64 (Int.tdiv (wrap64 ((wrap64 (a3 + a4)) - a2)) 2)) (wrap64 (Int.tdiv (wrap64 ((wrap64 (a4 + a2)) - a3)) 2))) else some (0, 5)) else some (0, 2)
theorem impl_ThetaNumber.mono : ∀ a0 a1 a2 a3 a4 k, LeO (impl_ThetaNumber.f k a0 a1 a2 a3 a4) (impl_ThetaNumber.f (k + 1) a0 a1 a2 a3 a4) := by
  intro a0 a1 a2 a3 a4 k
  unfold impl_ThetaNumber.f
  exact LeO.bind (impl_labelsOk.mono _ _ _ k) (fun _ => LeO.ite (LeO.bind (impl_firstZero.mono _ _ k) (fun _ => LeO.bind (LeO.refl _) (fun _ => LeO.ite (LeO.bind (impl_chebyshev.mono _ _ _ k) (fun _ => thetaTail.mono _ _ _ _ _ k)) (LeO.refl _)))) (LeO.refl _))
theorem lit_C {w : World} {g : Nat} (l : List Int) (hg : w.heap[g]? = some (.cells (l.map (Value.int .i64)).toArray 2 (0, 0))) (hm : l.length ≤ maxLen) : Kd.C (Kd.int .i64) w (some ⟨g, 0, none⟩) l.length l := by
  have ho : w.ownsRow 0 2 1 (.slice (some ⟨g, 0, none⟩) l.length l.length) l.length (encs (Value.int .i64) l) := by
    refine ⟨by simp [encs], .inr ⟨g, l.length, _, rfl, Nat.zero_le _, hg, Nat.le_refl _, hm, by simp, ?_⟩⟩
    rw [Nat.mul_one, List.toList_toArray, List.take_of_length_le (by simp)]
    simp [encs]
  have hR : Kd.R (Kd.int .i64) 2 w 0 (fun _ => True) (.slice (some ⟨g, 0, none⟩) l.length l.length) l := Kd.R_of_own (enc := Value.int .i64) (h1 := fun _ => rfl) ho (fun _ _ => trivial)
  exact (Kd.R_reads' hR).2.2
theorem p_keeps {W W' : World} {n B : Nat} {v : Value} (hb : Below n W W') (hB : B < n) (h : W.cell? ⟨B, 0, none⟩ = some v) : W'.cell? ⟨B, 0, none⟩ = some v := (hb.cell (p := ⟨B, 0, none⟩) hB).trans h
set_option maxHeartbeats 8000000 in
set_option maxRecDepth 100000 in
theorem impl_ThetaNumber.calls (k : Nat) (a0 a1 a2 a3 a4 : Int) (r1 r2 : Int) (w : World) (h : impl_ThetaNumber.f k a0 a1 a2 a3 a4 = some (r1, r2)) :
    Calls Try.prog 21 #[.int .i64 a0, .int .i64 a1, .int .i64 a2, .int .i64 a3, .int .i64 a4] w fun e w' => e = .returned (.tuple #[.int .i64 r1, .int .i64 r2]) ∧ Below w.heap.size w w' := by
  unfold impl_ThetaNumber.f at h
  obtain ⟨L, hL⟩ : ∃ L : List Int, L = [a2, a3, a4] := ⟨_, rfl⟩
  rw [← hL] at h
  obtain ⟨t1, h1, h⟩ := Option.bind_eq_some_iff.1 h
  obtain ⟨w1, hw1⟩ : ∃ w1, w1 = w.alloc (.cells #[.int .i64 a0] 2) := ⟨_, rfl⟩
  have hP1 : w1.cell? ⟨w.heap.size, 0, none⟩ = some (.int .i64 a0) := by rw [hw1]; simp
  have hs1 : w.heap.size < w1.heap.size := by rw [hw1]; simp
  have HB1 := Aside0.mk (show Below w.heap.size w w1 by rw [hw1]; exact (Below.refl _ w).alloc (Nat.le_refl _) _)
  have HL := Aside0.mk hL
  have HS1 := Aside0.mk hs1
  have HW1 := Aside0.mk hw1
  have E1 := Aside0.mk h1
  have HH := Aside0.mk h
  clear h h1 hL hs1 hw1
  go_enter Try.func21, Try.ntmps21
  go_wp2_with fail
  rw [← HW1.out]
  obtain ⟨w2, hw2⟩ : ∃ w2, w2 = w1.alloc (.cells #[.int .i64 a2, .int .i64 a3, .int .i64 a4] 2) := ⟨_, rfl⟩
  rw [← hw2]
  have hz : w1.heap.size = w.heap.size + 1 := by rw [HW1.out]; simp
  have hb : Below w1.heap.size w1 w2 := by rw [hw2]; exact (Below.refl _ w1).alloc (Nat.le_refl _) _
  have HB2 := Aside0.mk (below_step HB1.out hb)
  have hP2 := p_keeps hb HS1.out hP1
  have HS2 := Aside0.mk (Nat.lt_of_lt_of_le HS1.out (below_size hb))
  have hC : Kd.C (Kd.int .i64) w2 (some ⟨w.heap.size + 1, 0, none⟩) ([a2, a3, a4] : List Int).length [a2, a3, a4] := lit_C [a2, a3, a4] (by rw [hw2, ← hz]; exact heap_alloc_new w1 _) (by unfold maxLen; simp)
  have E1b := Aside0.mk (show impl_labelsOk.f k a0 a1 [a2, a3, a4] = some t1 by rw [← HL.out]; exact E1.out)
  clear hb hz hw2
  refine (impl_labelsOk.calls k a0 a1 (some ⟨w.heap.size + 1, 0, none⟩) 3 [a2, a3, a4] t1 w2 hC (by simp) E1b.out).mono ?_
  rintro e w3 ⟨rfl, hb⟩
  have HB3 := Aside0.mk (below_step HB2.out hb)
  have hP3 := p_keeps hb HS2.out hP2
  have HS3 := Aside0.mk (Nat.lt_of_lt_of_le HS2.out (below_size hb))
  clear hb hP2 hC HB2 E1 E1b
  cases t1 with
  | false =>
    have h := HH.out
    rw [if_neg (by simp)] at h
    simp only [Option.some.injEq, Prod.mk.injEq] at h
    obtain ⟨rfl, rfl⟩ := h
    go_wp2
    go_ret2
    exact ⟨rfl, HB3.out⟩
  | true =>
    have h := HH.out
    rw [if_pos rfl] at h
    clear HH
    obtain ⟨z, h1, h⟩ := Option.bind_eq_some_iff.1 h
    obtain ⟨t2, h2, h⟩ := Option.bind_eq_some_iff.1 h
    have E1 := Aside0.mk h1
    have E2 := Aside0.mk h2
    have HH := Aside0.mk h
    clear h1 h2 h
    go_wp2_with fail
    refine (impl_firstZero.calls k a0 a1 z _ E1.out).mono ?_
    rintro e w4 ⟨rfl, hb⟩
    have HB4 := Aside0.mk (below_step HB3.out hb)
    have hP4 := p_keeps hb HS3.out hP3
    have HS4 := Aside0.mk (Nat.lt_of_lt_of_le HS3.out (below_size hb))
    clear hb hP3 HB3 E1
    go_wp2_with fail
    refine (impl_admissible.calls z a2 a3 a4 t2 _ E2.out).mono ?_
    rintro e w5 ⟨rfl, ⟨q5, rfl⟩⟩
    clear E2
    cases t2 with
    | false =>
      have h := HH.out
      rw [if_neg (by simp)] at h
      simp only [Option.some.injEq, Prod.mk.injEq] at h
      obtain ⟨rfl, rfl⟩ := h
      go_wp2
      go_ret2
      exact ⟨rfl, pw_below_drewN HB4.out _⟩
    | true =>
      have h := HH.out
      rw [if_pos rfl] at h
      clear HH
      obtain ⟨F, h1, h⟩ := Option.bind_eq_some_iff.1 h
      have E1 := Aside0.mk h1
      obtain ⟨x, hx⟩ : ∃ x, x = wrap64 (Int.tdiv (wrap64 ((wrap64 (a2 + a3)) - a4)) 2) := ⟨_, rfl⟩
      obtain ⟨y, hy⟩ : ∃ y, y = wrap64 (Int.tdiv (wrap64 ((wrap64 (a3 + a4)) - a2)) 2) := ⟨_, rfl⟩
      obtain ⟨v, hv⟩ : ∃ v, v = wrap64 (Int.tdiv (wrap64 ((wrap64 (a4 + a2)) - a3)) 2) := ⟨_, rfl⟩
      rw [← hx, ← hy, ← hv] at h
      unfold thetaTail at h
      obtain ⟨g0, e0, h⟩ := Option.bind_eq_some_iff.1 h
      obtain ⟨g1, e1, h⟩ := Option.bind_eq_some_iff.1 h
      obtain ⟨g2, e2, h⟩ := Option.bind_eq_some_iff.1 h
      obtain ⟨g3, e3, h⟩ := Option.bind_eq_some_iff.1 h
      obtain ⟨g4, e4, h⟩ := Option.bind_eq_some_iff.1 h
      obtain ⟨g5, e5, h⟩ := Option.bind_eq_some_iff.1 h
      obtain ⟨g6, e6, h⟩ := Option.bind_eq_some_iff.1 h
      by_cases c5 : a0 = 0
      · rw [if_pos c5] at h
        cases h
      · rw [if_neg c5] at h
        obtain ⟨iv, ei, h⟩ := Option.bind_eq_some_iff.1 h
        simp only [Option.some.injEq, Prod.mk.injEq] at h
        obtain ⟨rfl, rfl⟩ := h
        have c5b0 : (a0 == 0) = false := beq_eq_false_iff_ne.mpr c5
        have c5b2 := eq_false c5
        have G0 := Aside0.mk e0
        have G1 := Aside0.mk e1
        have G2 := Aside0.mk e2
        have G3 := Aside0.mk e3
        have G4 := Aside0.mk e4
        have G5 := Aside0.mk e5
        have G6 := Aside0.mk e6
        have GI := Aside0.mk ei
        have HX := Aside0.mk hx
        have HY := Aside0.mk hy
        have HV := Aside0.mk hv
        clear e0 e1 e2 e3 e4 e5 e6 ei hx hy hv c5 h1
        go_wp2_with fail
        refine (impl_chebyshev.calls k a0 a1 z F _ E1.out).mono ?_
        rintro e w6 ⟨v6, rfl, ho, hb⟩
        obtain ⟨A6, c6, e6⟩ := Kd.R_slice ho
        subst e6
        have HO := Aside0.mk ho
        have HB6 := Aside0.mk (below_step (pw_below_drewN HB4.out q5) hb)
        have hP6 := p_keeps hb (show w.heap.size < (w4.drewN q5).heap.size from HS4.out) (show (w4.drewN q5).cell? ⟨w.heap.size, 0, none⟩ = some (.int .i64 a0) from hP4)
        have HS6 := Aside0.mk (Nat.lt_of_lt_of_le (show w.heap.size < (w4.drewN q5).heap.size from HS4.out) (below_size hb))
        clear hb ho hP4 HB4 E1
        go_wp2_with fail
        rw [← HX.out, ← HY.out, ← HV.out]
        obtain ⟨w7, hw7⟩ : ∃ w7, w7 = w6.alloc (.cells #[.slice A6 F.length c6] 30) := ⟨_, rfl⟩
        rw [← hw7]
        have hb : Below w6.heap.size w6 w7 := by rw [hw7]; exact (Below.refl _ w6).alloc (Nat.le_refl _) _
        have HB7 := Aside0.mk (below_step HB6.out hb)
        have hP7 := p_keeps hb HS6.out hP6
        have hF7 : w7.cell? ⟨w6.heap.size, 0, none⟩ = some (.slice A6 F.length c6) := by rw [hw7]; simp
        have hC7 : Kd.C (Kd.int .i64) w7 A6 F.length F := Kd.C_below (Kd.R_reads' HO.out).2.2 hb
        have HG := Aside0.mk (fun (s r : Int) (q : Nat) (h : thetaG.l0 k s a0 F 1 1 = some r) => thetaG.calls k s a0 F r A6 c6 w6.heap.size w.heap.size (w7.drewN q) hF7 hP7 (Kd.C_drewN hC7 q) h)
        have HF7 := Aside0.mk hF7
        have HC7 := Aside0.mk hC7
        clear hb hw7 hC7 hF7 hP6 HO HB6 HX HY HV HB1 HL HW1 hP1 HS1 HS2 HS3 HS4 HS6
        go_quiet (first | (go_at_call 47; with_reducible exact Calls.quiet_of ((HG.out _ _ _ G0.out).mono fun _ _ h => ⟨h.1, h.2.out⟩)) | (go_at_call 47; with_reducible exact Calls.quiet_of ((HG.out _ _ _ G1.out).mono fun _ _ h => ⟨h.1, h.2.out⟩)) | (go_at_call 47; with_reducible exact Calls.quiet_of ((HG.out _ _ _ G2.out).mono fun _ _ h => ⟨h.1, h.2.out⟩)) | (go_at_call 47; with_reducible exact Calls.quiet_of ((HG.out _ _ _ G3.out).mono fun _ _ h => ⟨h.1, h.2.out⟩)))
        go_wp2
        obtain ⟨w8, hw8⟩ : ∃ w8, w8 = w7.drewN nq := ⟨_, rfl⟩
        rw [← hw8]
        have HB8 := Aside0.mk (show Below w.heap.size w w8 by rw [hw8]; exact pw_below_drewN HB7.out nq)
        have hP8 : w8.cell? ⟨w.heap.size, 0, none⟩ = some (.int .i64 a0) := by rw [hw8]; exact hP7
        have HG2 : Aside0 (∀ (s r : Int) (q : Nat) (h : thetaG.l0 k s a0 F 1 1 = some r), Calls Try.prog 47 #[.int .i64 s, .pointer (some ⟨w6.heap.size, 0, none⟩), .pointer (some ⟨w.heap.size, 0, none⟩)] (w8.drewN q) fun e w' => e = .returned (.int .i64 r) ∧ Drawn0 (w8.drewN q) w') := ⟨fun s r q h => by rw [hw8]; exact thetaG.calls k s a0 F r A6 c6 w6.heap.size w.heap.size ((w7.drewN nq).drewN q) HF7.out hP7 (Kd.C_drewN (Kd.C_drewN HC7.out nq) q) h⟩
        clear hw8 hP7 HB7
        clear HG HC7 HF7
        go_quiet (first | (go_at_call 47; with_reducible exact Calls.quiet_of ((HG2.out _ _ _ G4.out).mono fun _ _ h => ⟨h.1, h.2.out⟩)) | (go_at_call 47; with_reducible exact Calls.quiet_of ((HG2.out _ _ _ G5.out).mono fun _ _ h => ⟨h.1, h.2.out⟩)) | (go_at_call 47; with_reducible exact Calls.quiet_of ((HG2.out _ _ _ G6.out).mono fun _ _ h => ⟨h.1, h.2.out⟩)))
        go_wp2
        obtain ⟨w9, hw9⟩ : ∃ w9, w9 = w8.drewN nq := ⟨_, rfl⟩
        rw [← hw9]
        have HB9 := Aside0.mk (show Below w.heap.size w w9 by rw [hw9]; exact pw_below_drewN HB8.out nq)
        have hP9 : w9.cell? ⟨w.heap.size, 0, none⟩ = some (.int .i64 a0) := by rw [hw9]; exact hP8
        clear hw9 hP8 HB8 HG2
        go_quiet (first | (go_at_call 48; with_reducible exact Calls.quiet_of ((impl_inverse.calls k _ a0 iv _ GI.out).mono fun _ _ h => ⟨h.1, h.2.out⟩)))
        go_wp2
        go_ret2
        exact ⟨rfl, by repeat (first | exact HB9.out | apply pw_below_drewN)⟩
end Go.Proofs.Ytbkokdpginghoaa.Hand
