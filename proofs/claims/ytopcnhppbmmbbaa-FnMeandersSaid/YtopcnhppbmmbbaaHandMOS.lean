/- The contract of spec.MeanderOfOrder. No condition. -/
import Derived.Test.YtopcnhppbmmbbaaHandMOA
import Derived.Deep.CutRange
import Derived.Deep.DeepCutAuto
namespace Go.Proofs.Ytopcnhppbmmbbaa.Hand
open Go.RowKit Go.Proofs.YtopcnhppbmmbbaaW.PrintWords Go.Proofs.YtopcnhppbmmbbaaW.PrintLast Go.Proofs.YtopcnhppbmmbbaaW.PrintMore
set_option linter.unusedVariables false
set_option linter.unusedSimpArgs false

def spec_MeanderOfOrder.f (k : Nat) (l : List Int) : Option (ByteArray × ByteArray × Int) :=
  if okO l = true then (if pmR l.length l (List.replicate 12 false) = true then ((spec_l08Text.f k (mtS l l.length l.length).1).bind fun a => (spec_l08Text.f k (mtS l l.length l.length).2).bind fun b => some (finO a b)) else some ((⟨#[]⟩ : ByteArray), (⟨#[]⟩ : ByteArray), 2)) else some ((⟨#[]⟩ : ByteArray), (⟨#[]⟩ : ByteArray), 2)
theorem spec_MeanderOfOrder.mono : ∀ a0 k, LeO (spec_MeanderOfOrder.f k a0) (spec_MeanderOfOrder.f (k + 1) a0) := by
  intro a0 k
  unfold spec_MeanderOfOrder.f
  exact LeO.ite (LeO.ite (LeO.bind (spec_l08Text.mono _ k) (fun _ => LeO.bind (spec_l08Text.mono _ k) (fun _ => LeO.refl _))) (LeO.refl _)) (LeO.refl _)
set_option maxHeartbeats 4000000 in
set_option maxRecDepth 100000 in
theorem specMO_out (A0 : Option Addr) (c0 : Nat) (l0 : List Int) (w : World) (hr0 : Kd.C (Kd.int .i64) w A0 l0.length l0) (h : okO l0 = false) :
    Calls Try.prog 16 #[.slice A0 l0.length c0] w fun e w' => e = .returned (.tuple #[.string ⟨#[]⟩, .string ⟨#[]⟩, .int .i64 2]) ∧ Below w.heap.size w w' := by
  unfold okO at h
  have hlb := hr0.1
  by_cases c1 : l0.length < 2
  · have c1b : decide ((l0.length : Int) < 2) = true := decide_eq_true (by omega)
    have c1b' : decide (l0.length < 2) = true := decide_eq_true c1
    clear h hr0 c1 hlb
    go_enter Try.func16, Try.ntmps16
    go_wp2
    go_ret3
    exact ⟨rfl, Below.refl _ _⟩
  · have c1b : decide ((l0.length : Int) < 2) = false := decide_eq_false (by omega)
    have c1b' : decide (l0.length < 2) = false := decide_eq_false c1
    by_cases c2 : l0.length ≤ 12
    · have c2b : decide ((12 : Int) < (l0.length : Int)) = false := decide_eq_false (by omega)
      have c2b' : decide (12 < l0.length) = false := decide_eq_false (by omega)
      by_cases c3 : l0.length % 2 = 0
      · rw [decide_eq_true ⟨by omega, c2, c3⟩, Bool.true_and] at h
        have h0 : rd l0 0 ≠ 0 := by simpa using h
        obtain ⟨ad, e1, hx⟩ := Kd.at_int hr0 0 (by omega) (by omega)
        cases e1
        rw [show ad.add (0 : Int).toNat = ad from by simp [Addr.add]] at hx
        have hxb : (rd l0 0 == 0) = false := beq_eq_false_iff_ne.mpr h0
        generalize rd l0 0 = x at hx hxb
        have t2 : Int.tmod (l0.length : Int) 2 = 0 := by rw [Int.tmod_eq_emod_of_nonneg (by omega)]; omega
        have p0 := eq_true (show (0 : Int) < (l0.length : Int) by omega)
        have p0' := eq_true (show 0 < l0.length by omega)
        clear h h0 hr0 c1 c2 hlb c3
        go_enter Try.func16, Try.ntmps16
        go_wp2
        go_ret3
        exact ⟨rfl, Below.refl _ _⟩
      · have t2 : Int.tmod (l0.length : Int) 2 = 1 := by rw [Int.tmod_eq_emod_of_nonneg (by omega)]; omega
        clear h hr0 c1 c2 hlb c3
        go_enter Try.func16, Try.ntmps16
        go_wp2
        go_ret3
        exact ⟨rfl, Below.refl _ _⟩
    · have c2b : decide ((12 : Int) < (l0.length : Int)) = true := decide_eq_true (by omega)
      have c2b' : decide (12 < l0.length) = true := decide_eq_true (by omega)
      clear h hr0 c1 hlb c2
      go_enter Try.func16, Try.ntmps16
      go_wp2
      go_ret3
      exact ⟨rfl, Below.refl _ _⟩
/-- The three blocks of spec.MeanderOfOrder. -/
structure MoB (w W : World) (X U L : Nat) (m : List Bool) (u l : List Int) : Prop where
  ax : ArrBm W X 62 m
  au : Arr W U 2 u
  al : Arr W L 2 l
  xu : X ≠ U
  xl : X ≠ L
  ul : U ≠ L
  hx : w.heap.size ≤ X
  hu : w.heap.size ≤ U
  hl : w.heap.size ≤ L
  hb : Below w.heap.size w W
theorem al3 (w : World) (o0 o1 o2 : Obj) : (((w.alloc o0).alloc o1).alloc o2).drew.heap[w.heap.size]? = some o0 ∧ (((w.alloc o0).alloc o1).alloc o2).drew.heap[w.heap.size + 1]? = some o1 ∧ (((w.alloc o0).alloc o1).alloc o2).drew.heap[w.heap.size + 1 + 1]? = some o2 ∧ Below w.heap.size w (((w.alloc o0).alloc o1).alloc o2).drew := by
  refine ⟨?_, ?_, ?_, below_drew (below_alloc (below_alloc (below_alloc (Below.refl _ _) _) _) _)⟩
  · show (((w.heap.push o0).push o1).push o2)[w.heap.size]? = some o0
    rw [Array.getElem?_push, if_neg (by simp only [Array.size_push]; omega), Array.getElem?_push, if_neg (by simp only [Array.size_push]; omega), Array.getElem?_push, if_pos rfl]
  · show (((w.heap.push o0).push o1).push o2)[w.heap.size + 1]? = some o1
    rw [Array.getElem?_push, if_neg (by simp only [Array.size_push]; omega), Array.getElem?_push, if_pos (by simp only [Array.size_push])]
  · show (((w.heap.push o0).push o1).push o2)[w.heap.size + 1 + 1]? = some o2
    rw [Array.getElem?_push, if_pos (by simp only [Array.size_push])]
theorem made_enc (n : Nat) : madeCells #[.int .i64 0] n = (enc (List.replicate n 0)).toArray := by
  unfold enc madeCells
  apply Array.ext
  · simp
  · intro i h1 h2
    simp [Nat.mod_one]
theorem mob_of {w W : World} {X U L n : Nat} (hX : W.heap[X]? = some (.cells #[.bool false, .bool false, .bool false, .bool false, .bool false, .bool false, .bool false, .bool false, .bool false, .bool false, .bool false, .bool false] 62)) (hU : W.heap[U]? = some (.cells (madeCells #[.int .i64 0] n) 2)) (hL : W.heap[L]? = some (.cells (madeCells #[.int .i64 0] n) 2))
    (xu : X ≠ U) (xl : X ≠ L) (ul : U ≠ L) (hx : w.heap.size ≤ X) (hu : w.heap.size ≤ U) (hl : w.heap.size ≤ L) (hb : Below w.heap.size w W) : MoB w W X U L (List.replicate 12 false) (List.replicate n 0) (List.replicate n 0) :=
  ⟨hX, by rw [made_enc] at hU; exact hU, by rw [made_enc] at hL; exact hL, xu, xl, ul, hx, hu, hl, hb⟩
theorem MoB.drewN {w W : World} {X U L : Nat} {m : List Bool} {u l : List Int} (h : MoB w W X U L m u l) (q : Nat) : MoB w (W.drewN q) X U L m u l := ⟨h.ax, h.au, h.al, h.xu, h.xl, h.ul, h.hx, h.hu, h.hl, pw_below_drewN h.hb q⟩
theorem MoB.met {w W : World} {X U L : Nat} {m : List Bool} {u l : List Int} (h : MoB w W X U L m u l) (y : Nat) : MoB w (W.setCell ⟨X, y, none⟩ (.bool true)) X U L (m.set y true) u l :=
  ⟨h.ax.set y true, h.au.far (p := ⟨X, y, none⟩) (Ne.symm h.xu) _, h.al.far (p := ⟨X, y, none⟩) (Ne.symm h.xl) _, h.xu, h.xl, h.ul, h.hx, h.hu, h.hl, h.hb.setCell (p := ⟨X, y, none⟩) h.hx _⟩
theorem MoB.up {w W : World} {X U L : Nat} {m : List Bool} {u l : List Int} (h : MoB w W X U L m u l) (y : Nat) (v : Int) : MoB w (W.setCell ⟨U, y, none⟩ (.int .i64 v)) X U L m (u.set y v) l :=
  ⟨(heap_setCell_other W ⟨U, y, none⟩ X _ h.xu).trans h.ax, h.au.set y v, h.al.far (p := ⟨U, y, none⟩) (Ne.symm h.ul) _, h.xu, h.xl, h.ul, h.hx, h.hu, h.hl, h.hb.setCell (p := ⟨U, y, none⟩) h.hu _⟩
theorem MoB.low {w W : World} {X U L : Nat} {m : List Bool} {u l : List Int} (h : MoB w W X U L m u l) (y : Nat) (v : Int) : MoB w (W.setCell ⟨L, y, none⟩ (.int .i64 v)) X U L m u (l.set y v) :=
  ⟨(heap_setCell_other W ⟨L, y, none⟩ X _ h.xl).trans h.ax, h.au.far (p := ⟨L, y, none⟩) h.ul _, h.al.set y v, h.xu, h.xl, h.ul, h.hx, h.hu, h.hl, h.hb.setCell (p := ⟨L, y, none⟩) h.hl _⟩
set_option maxHeartbeats 4000000 in
set_option maxRecDepth 100000 in
theorem specMO_in (k : Nat) (A0 : Option Addr) (c0 : Nat) (l0 : List Int) (r1 r2 : ByteArray) (r3 : Int) (w : World) (hr0 : Kd.C (Kd.int .i64) w A0 l0.length l0) (hok : okO l0 = true) (h : spec_MeanderOfOrder.f k l0 = some (r1, r2, r3)) :
    Calls Try.prog 16 #[.slice A0 l0.length c0] w fun e w' => e = .returned (.tuple #[.string r1, .string r2, .int .i64 r3]) ∧ Below w.heap.size w w' := by
  unfold spec_MeanderOfOrder.f at h
  rw [if_pos hok] at h
  unfold okO at hok
  rw [Bool.and_eq_true, decide_eq_true_eq] at hok
  obtain ⟨⟨g1, g2, g3⟩, h0⟩ := hok
  have h0' : rd l0 0 = 0 := by simpa using h0
  have HR := Aside0.mk hr0
  have HH := Aside0.mk h
  obtain ⟨ad, e1, hx⟩ := Kd.at_int hr0 0 (by omega) (by omega)
  cases e1
  rw [show ad.add (0 : Int).toNat = ad from by simp [Addr.add], h0'] at hx
  have c1b : decide ((l0.length : Int) < 2) = false := decide_eq_false (by omega)
  have c1b' : decide (l0.length < 2) = false := decide_eq_false (by omega)
  have c2b : decide ((12 : Int) < (l0.length : Int)) = false := decide_eq_false (by omega)
  have c2b' : decide (12 < l0.length) = false := decide_eq_false (by omega)
  have t2 : Int.tmod (l0.length : Int) 2 = 0 := by rw [Int.tmod_eq_emod_of_nonneg (by omega)]; omega
  have p0 := eq_true (show (0 : Int) < (l0.length : Int) by omega)
  have p0' := eq_true (show 0 < l0.length by omega)
  have hmk := run_make_row' (P := Try.prog) 29 2 (.int .i64 0) 8 Try.underlying29 infoI64 rfl .i64 .i64 l0.length (by omega) (by omega)
  have HG1 := Aside0.mk g1
  have HG2 := Aside0.mk g2
  have HG3 := Aside0.mk g3
  clear h h0 h0' hr0 g1 g2 g3
  go_enter Try.func16, Try.ntmps16
  go_upto_region 4 with fail
  go_cut [6, 7, 8] (fun v6 v7 v8 wx => ∃ (X U L : Nat), v6 = .pointer (some ⟨X, 0, none⟩) ∧ v7 = .slice (some ⟨U, 0, none⟩) l0.length l0.length ∧ v8 = .slice (some ⟨L, 0, none⟩) l0.length l0.length ∧ Aside0 (MoB w wx X U L (List.replicate 12 false) (List.replicate l0.length 0) (List.replicate l0.length 0)))
  case first =>
    clear HH
    go_region
    all_goals
      go_wp2_with fail
      go_meet
      case rel => exact ⟨_, _, _, rfl, rfl, rfl, ⟨mob_of (by first | exact (al3 w _ _ _).1 | exact (al3 w _ _ _).2.1 | exact (al3 w _ _ _).2.2.1) (by first | exact (al3 w _ _ _).1 | exact (al3 w _ _ _).2.1 | exact (al3 w _ _ _).2.2.1) (by first | exact (al3 w _ _ _).1 | exact (al3 w _ _ _).2.1 | exact (al3 w _ _ _).2.2.1) (by omega) (by omega) (by omega) (by omega) (by omega) (by omega) (al3 w _ _ _).2.2.2⟩⟩
  case rest =>
    obtain ⟨X, U, L, rfl, rfl, rfl, HM⟩ := hcut
    clear hmk
    go_wp2
    by_cases hpm : pmR l0.length l0 (List.replicate 12 false) = true
    · have hh := HH.out
      rw [if_pos hpm] at hh
      have HPM := Aside0.mk hpm
      have HRNG := Aside0.mk (fun (j : Nat) (hj : j < l0.length) => pmR_rng _ _ _ hpm _ (rd_mem l0 j hj))
      have HH2 := Aside0.mk hh
      clear HH hh hpm
      go_loopg [9] l0.length (fun kq v9 w' => ∃ (i : Nat) (m : List Bool), v9 = .int .i64 (i : Int) ∧ Aside0 (kq + i = l0.length) ∧ Aside0 (m.length = 12) ∧ Aside0 (pmR l0.length (l0.drop i) m = true) ∧ Aside0 (MoB w w' X U L m (List.replicate l0.length 0) (List.replicate l0.length 0)))
      case atStart => exact ⟨0, List.replicate 12 false, rfl, ⟨rfl⟩, ⟨by simp⟩, ⟨by rw [List.drop_zero]; exact HPM.out⟩, HM⟩
      case round =>
        clear HPM HM
        obtain ⟨i, m, rfl, E1, E2, HP, HM⟩ := hrel
        cases gk with
        | zero =>
          have d1b : decide ((i : Int) < (l0.length : Int)) = false := decide_eq_false (by have := E1.out; omega)
          have d1b' : decide (i < l0.length) = false := decide_eq_false (by have := E1.out; omega)
          have HM0 := Aside0.mk (show MoB w wr X U L m (mtS l0 l0.length 0).1 (mtS l0 l0.length 0).2 from HM.out)
          clear HM HP E1
          go_wp2
          go_loopg [10, 11] l0.length (fun kq v10 _ w' => ∃ (j : Nat), v10 = .int .i64 (j : Int) ∧ Aside0 (kq + j = l0.length) ∧ Aside0 (MoB w w' X U L m (mtS l0 l0.length j).1 (mtS l0 l0.length j).2))
          case atStart => exact ⟨0, rfl, ⟨rfl⟩, HM0⟩
          case round =>
            clear HM0
            obtain ⟨j, rfl, F1, HM⟩ := hrel
            cases gk with
            | zero =>
              have d2b : decide ((j : Int) < (l0.length : Int)) = false := decide_eq_false (by have := F1.out; omega)
              have d2b' : decide (j < l0.length) = false := decide_eq_false (by have := F1.out; omega)
              have hj : j = l0.length := by have := F1.out; omega
              rw [hj] at HM
              obtain ⟨⟨a1, a2⟩, ha, hh⟩ := Option.bind_eq_some_iff.1 HH2.out
              obtain ⟨⟨b1, b2⟩, hb, hh⟩ := Option.bind_eq_some_iff.1 hh
              have hfin := Option.some.inj hh
              have hlu := (mtS_len l0 l0.length l0.length).1
              have hll := (mtS_len l0 l0.length l0.length).2
              generalize (mtS l0 l0.length l0.length).1 = u at ha HM hlu
              generalize (mtS l0 l0.length l0.length).2 = v at hb HM hll
              have hc1 := spec_l08Text.calls k (some ⟨U, 0, none⟩) l0.length u a1 a2 wr (HM.out.au.reads (by have := HG2.out; omega)) (by omega) ha
              rw [hlu] at hc1
              have hc2 := fun (W : World) (h : Arr W L 2 v) => spec_l08Text.calls k (some ⟨L, 0, none⟩) l0.length v b1 b2 W (h.reads (by have := HG2.out; omega)) (by omega) hb
              rw [hll] at hc2
              have HC1 := Aside0.mk hc1
              have HC2 := Aside0.mk hc2
              clear hc1 hc2 ha hb hh hj hlu hll HH2 F1 HRNG HR
              go_wp2_with fail
              refine HC1.out.mono ?_
              rintro e w5 ⟨rfl, hb5⟩
              have HL5 := Aside0.mk (show Arr w5 L 2 v from (hb5.block _ HM.out.al.lt).trans HM.out.al)
              have HB5 := Aside0.mk (below_step HM.out.hb hb5)
              clear hb5 HC1 HM
              go_wp2_with fail
              refine (HC2.out _ HL5.out).mono ?_
              rintro e w6 ⟨rfl, hb6⟩
              have HB6 := Aside0.mk (below_step HB5.out hb6)
              clear hb6 HC2 HL5 HB5
              cases a2 with
              | true =>
                cases b2 with
                | true =>
                  simp only [finO, Bool.and_self, if_true, Prod.mk.injEq] at hfin
                  obtain ⟨rfl, rfl, rfl⟩ := hfin
                  go_wp2
                  go_ret3
                  exact ⟨rfl, HB6.out⟩
                | false =>
                  simp only [finO, Bool.and_false, Bool.false_eq_true, if_false, Prod.mk.injEq] at hfin
                  obtain ⟨rfl, rfl, rfl⟩ := hfin
                  go_wp2
                  go_ret3
                  exact ⟨rfl, HB6.out⟩
              | false =>
                simp only [finO, Bool.false_and, Bool.false_eq_true, if_false, Prod.mk.injEq] at hfin
                obtain ⟨rfl, rfl, rfl⟩ := hfin
                go_wp2
                go_ret3
                exact ⟨rfl, HB6.out⟩
            | succ k2 =>
              have d2 : j < l0.length := by have := F1.out; omega
              have d2b : decide ((j : Int) < (l0.length : Int)) = true := decide_eq_true (by omega)
              have d2b' : decide (j < l0.length) = true := decide_eq_true d2
              have g1_ := HG1.out
              have g2_ := HG2.out
              obtain ⟨m2, hm2⟩ : ∃ m2, (j + 1) % l0.length = m2 := ⟨_, rfl⟩
              have hmn : m2 < l0.length := by rw [← hm2]; exact Nat.mod_lt _ (by omega)
              have hmz : ((j : Int) + 1) % (l0.length : Int) = (m2 : Int) := by rw [← hm2]; simp
              have hmt : Int.tmod (wrap64 ((j : Int) + 1)) (l0.length : Int) = (m2 : Int) := by rw [show wrap64 ((j : Int) + 1) = (j : Int) + 1 by unfold wrap64; omega, Int.tmod_eq_emod_of_nonneg (by omega)]; exact hmz
              obtain ⟨x, ex⟩ : ∃ x : Nat, rd l0 (j : Int) = (x : Int) := ⟨(rd l0 (j : Int)).toNat, by have := HRNG.out j d2; omega⟩
              obtain ⟨y, ey⟩ : ∃ y : Nat, rd l0 (m2 : Int) = (y : Int) := ⟨(rd l0 (m2 : Int)).toNat, by have := HRNG.out m2 hmn; omega⟩
              have hxl : x < l0.length := by have := HRNG.out j d2; omega
              have hyl : y < l0.length := by have := HRNG.out m2 hmn; omega
              have lens := mtS_len l0 l0.length j
              have HMT : mtS l0 l0.length (j + 1) = if j % 2 = 0 then (((mtS l0 l0.length j).1.set x (y : Int)).set y (x : Int), (mtS l0 l0.length j).2) else ((mtS l0 l0.length j).1, ((mtS l0 l0.length j).2.set x (y : Int)).set y (x : Int)) := by
                simp only [mtS]
                rw [hm2, ex, ey, Int.toNat_natCast, Int.toNat_natCast]
              generalize mtS l0 l0.length j = uv at HM HMT lens
              obtain ⟨u, v⟩ := uv
              simp only at HM HMT lens
              obtain ⟨hlu, hll⟩ := lens
              obtain ⟨ad2, e1, hxj⟩ := Kd.at_int (Kd.C_below HR.out HM.out.hb) (j : Int) (by omega) (by omega)
              cases e1
              obtain ⟨ad2, e1, hxm⟩ := Kd.at_int (Kd.C_below HR.out HM.out.hb) (m2 : Int) (by omega) (by omega)
              cases e1
              rw [Int.toNat_natCast, ex] at hxj
              rw [Int.toNat_natCast, ey] at hxm
              have p1 := eq_true (show 0 ≤ (j : Int) by omega)
              have q1 := eq_true (show (j : Int) < (l0.length : Int) by omega)
              have q1' := eq_true d2
              have p2 := eq_true (show 0 ≤ (m2 : Int) by omega)
              have q2 := eq_true (show (m2 : Int) < (l0.length : Int) by omega)
              have q2' := eq_true hmn
              have p3 := eq_true (show 0 ≤ (x : Int) by omega)
              have q3 := eq_true (show (x : Int) < (l0.length : Int) by omega)
              have q3' := eq_true hxl
              have p4 := eq_true (show 0 ≤ (y : Int) by omega)
              have q4 := eq_true (show (y : Int) < (l0.length : Int) by omega)
              have q4' := eq_true hyl
              have nz : ((l0.length : Int) == 0) = false := beq_eq_false_iff_ne.2 (by omega)
              have nz2 : ((l0.length : Int) = 0) = False := eq_false (by omega)
              have nz3 : (l0.length == 0) = false := beq_eq_false_iff_ne.2 (by omega)
              have nz4 : (l0.length = 0) = False := eq_false (by omega)
              have HW := Aside0.mk (show wrap64 ((j : Int) + 1) = ((j + 1 : Nat) : Int) by unfold wrap64; omega)
              have HD2 := Aside0.mk d2
              by_cases par : j % 2 = 0
              · rw [if_pos par] at HMT
                have tp : Int.tmod (j : Int) 2 = 0 := by rw [Int.tmod_eq_emod_of_nonneg (by omega)]; omega
                have HM1 := Aside0.mk (HM.out.up x (y : Int))
                have HM2 := Aside0.mk (HM1.out.up y (x : Int))
                have s1 := HM.out.au.celln x (by omega)
                have f1 := HM.out.au.frozen x
                have s2 := HM1.out.au.celln y (by rw [List.length_set]; omega)
                have f2 := HM1.out.au.frozen y
                obtain ⟨ad2, e1, hxj2⟩ := Kd.at_int (Kd.C_below HR.out HM1.out.hb) (j : Int) (by omega) (by omega)
                cases e1
                rw [Int.toNat_natCast, ex] at hxj2
                have HMT' := Aside0.mk HMT
                clear HMT ex ey hlu hll par hm2 d2 hmn hxl hyl HM HM1
                go_wp2
                go_roundg k2
                case measure => omega
                case rel => exact ⟨j + 1, congrArg (Value.int .i64) HW.out, ⟨by have := F1.out; omega⟩, ⟨by rw [HMT'.out]; exact HM2.out⟩⟩
              · rw [if_neg par] at HMT
                have tp : Int.tmod (j : Int) 2 = 1 := by rw [Int.tmod_eq_emod_of_nonneg (by omega)]; omega
                have HM1 := Aside0.mk (HM.out.low x (y : Int))
                have HM2 := Aside0.mk (HM1.out.low y (x : Int))
                have s1 := HM.out.al.celln x (by omega)
                have f1 := HM.out.al.frozen x
                have s2 := HM1.out.al.celln y (by rw [List.length_set]; omega)
                have f2 := HM1.out.al.frozen y
                obtain ⟨ad2, e1, hxj2⟩ := Kd.at_int (Kd.C_below HR.out HM1.out.hb) (j : Int) (by omega) (by omega)
                cases e1
                rw [Int.toNat_natCast, ex] at hxj2
                have HMT' := Aside0.mk HMT
                clear HMT ex ey hlu hll par hm2 d2 hmn hxl hyl HM HM1
                go_wp2
                go_roundg k2
                case measure => omega
                case rel => exact ⟨j + 1, congrArg (Value.int .i64) HW.out, ⟨by have := F1.out; omega⟩, ⟨by rw [HMT'.out]; exact HM2.out⟩⟩
        | succ k1 =>
          have d1 : i < l0.length := by have := E1.out; omega
          have d1b : decide ((i : Int) < (l0.length : Int)) = true := decide_eq_true (by omega)
          have d1b' : decide (i < l0.length) = true := decide_eq_true d1
          have hp := HP.out
          rw [drop_rd l0 i d1] at hp
          simp only [pmR] at hp
          obtain ⟨ad2, e1, hx⟩ := Kd.at_int (Kd.C_below HR.out HM.out.hb) (i : Int) (by omega) (by omega)
          cases e1
          rw [Int.toNat_natCast] at hx
          have p1 := eq_true (show 0 ≤ (i : Int) by omega)
          have q1 := eq_true (show (i : Int) < (l0.length : Int) by omega)
          have q1' := eq_true d1
          have HD1 := Aside0.mk d1
          have HW := Aside0.mk (show wrap64 ((i : Int) + 1) = ((i + 1 : Nat) : Int) by have := HG2.out; unfold wrap64; omega)
          have hrg := HRNG.out i d1
          generalize rd l0 (i : Int) = x at hx hp hrg
          rw [if_pos hrg] at hp
          have g2_ := HG2.out
          have HIN := Aside0.mk (fun W => spec_in_calls x 0 ((l0.length : Int) - 1) true (by simp [hrg]) W)
          obtain ⟨y, rfl⟩ : ∃ y : Nat, x = (y : Int) := ⟨x.toNat, by omega⟩
          rw [Int.toNat_natCast] at hp
          have p3 := eq_true (show 0 ≤ (y : Int) by omega)
          have q3 := eq_true (show (y : Int) < 12 by omega)
          have q3' := eq_true (show y < 12 by omega)
          have hm := HM.out.ax.cell y (by have := E2.out; omega)
          have hf := HM.out.ax.frozen y
          clear hrg d1
          by_cases c4 : m.getD y false = true
          · rw [if_pos c4] at hp
            cases hp
          · rw [if_neg c4] at hp
            rw [Bool.not_eq_true] at c4
            rw [c4] at hm
            have HP' := Aside0.mk hp
            clear c4 hp HP
            go_wp2_with (go_at_call 39; refine (HIN.out _).mono ?_; rintro e w' ⟨rfl, ⟨q, rfl⟩⟩)
            go_roundg k1
            case measure => omega
            case rel => exact ⟨i + 1, m.set y true, congrArg (Value.int .i64) HW.out, ⟨by have := E1.out; omega⟩, ⟨by rw [List.length_set]; exact E2.out⟩, HP', ⟨(HM.out.drewN _).met y⟩⟩
    · have hh := HH.out
      rw [if_neg hpm] at hh
      simp only [Option.some.injEq, Prod.mk.injEq] at hh
      obtain ⟨rfl, rfl, rfl⟩ := hh
      rw [Bool.not_eq_true] at hpm
      have HPM := Aside0.mk hpm
      clear HH hpm
      go_loopg [9] l0.length (fun kq v9 w' => ∃ (i : Nat) (m : List Bool), v9 = .int .i64 (i : Int) ∧ Aside0 (kq + i = l0.length) ∧ Aside0 (m.length = 12) ∧ Aside0 (pmR l0.length (l0.drop i) m = false) ∧ Aside0 (MoB w w' X U L m (List.replicate l0.length 0) (List.replicate l0.length 0)))
      case atStart => exact ⟨0, List.replicate 12 false, rfl, ⟨rfl⟩, ⟨by simp⟩, ⟨by rw [List.drop_zero]; exact HPM.out⟩, HM⟩
      case round =>
        clear HPM HM
        obtain ⟨i, m, rfl, E1, E2, HP, HM⟩ := hrel
        cases gk with
        | zero =>
          have hi : i = l0.length := by have := E1.out; omega
          have hp := HP.out
          rw [hi, List.drop_length] at hp
          cases hp
        | succ k1 =>
          have d1 : i < l0.length := by have := E1.out; omega
          have d1b : decide ((i : Int) < (l0.length : Int)) = true := decide_eq_true (by omega)
          have d1b' : decide (i < l0.length) = true := decide_eq_true d1
          have hp := HP.out
          rw [drop_rd l0 i d1] at hp
          simp only [pmR] at hp
          obtain ⟨ad2, e1, hx⟩ := Kd.at_int (Kd.C_below HR.out HM.out.hb) (i : Int) (by omega) (by omega)
          cases e1
          rw [Int.toNat_natCast] at hx
          have p1 := eq_true (show 0 ≤ (i : Int) by omega)
          have q1 := eq_true (show (i : Int) < (l0.length : Int) by omega)
          have q1' := eq_true d1
          have HD1 := Aside0.mk d1
          have HW := Aside0.mk (show wrap64 ((i : Int) + 1) = ((i + 1 : Nat) : Int) by have := HG2.out; unfold wrap64; omega)
          generalize rd l0 (i : Int) = x at hx hp
          have g2_ := HG2.out
          by_cases hrg : 0 ≤ x ∧ x ≤ (l0.length : Int) - 1
          · rw [if_pos hrg] at hp
            have HIN := Aside0.mk (fun W => spec_in_calls x 0 ((l0.length : Int) - 1) true (by simp [hrg]) W)
            obtain ⟨y, rfl⟩ : ∃ y : Nat, x = (y : Int) := ⟨x.toNat, by omega⟩
            rw [Int.toNat_natCast] at hp
            have p3 := eq_true (show 0 ≤ (y : Int) by omega)
            have q3 := eq_true (show (y : Int) < 12 by omega)
            have q3' := eq_true (show y < 12 by omega)
            have hm := HM.out.ax.cell y (by have := E2.out; omega)
            have hf := HM.out.ax.frozen y
            clear hrg d1
            by_cases c4 : m.getD y false = true
            · rw [c4] at hm
              clear c4 hp HP
              go_wp2_with (go_at_call 39; refine (HIN.out _).mono ?_; rintro e w' ⟨rfl, ⟨q, rfl⟩⟩)
              go_ret3
              exact ⟨rfl, (HM.out.drewN _).hb⟩
            · rw [if_neg c4] at hp
              rw [Bool.not_eq_true] at c4
              rw [c4] at hm
              have HP' := Aside0.mk hp
              clear c4 hp HP
              go_wp2_with (go_at_call 39; refine (HIN.out _).mono ?_; rintro e w' ⟨rfl, ⟨q, rfl⟩⟩)
              go_roundg k1
              case measure => omega
              case rel => exact ⟨i + 1, m.set y true, congrArg (Value.int .i64) HW.out, ⟨by have := E1.out; omega⟩, ⟨by rw [List.length_set]; exact E2.out⟩, HP', ⟨(HM.out.drewN _).met y⟩⟩
          · have HIN := Aside0.mk (fun W => spec_in_calls x 0 ((l0.length : Int) - 1) false (by rw [← Bool.decide_and]; exact decide_eq_false hrg) W)
            clear hrg d1 hp HP
            go_wp2_with (go_at_call 39; refine (HIN.out _).mono ?_; rintro e w' ⟨rfl, ⟨q, rfl⟩⟩)
            go_ret3
            exact ⟨rfl, (HM.out.drewN _).hb⟩
theorem spec_MeanderOfOrder.calls (k : Nat) (A0 : Option Addr) (c0 : Nat) (l0 : List Int) (r1 r2 : ByteArray) (r3 : Int) (w : World) (hr0 : Kd.C (Kd.int .i64) w A0 l0.length l0) (hc0 : l0.length ≤ c0) (h : spec_MeanderOfOrder.f k l0 = some (r1, r2, r3)) :
    Calls Try.prog 16 #[.slice A0 l0.length c0] w fun e w' => e = .returned (.tuple #[.string r1, .string r2, .int .i64 r3]) ∧ Below w.heap.size w w' := by
  cases hok : okO l0 with
  | true => exact specMO_in k A0 c0 l0 r1 r2 r3 w hr0 hok h
  | false =>
    unfold spec_MeanderOfOrder.f at h
    rw [hok, if_neg (by simp)] at h
    simp only [Option.some.injEq, Prod.mk.injEq] at h
    obtain ⟨rfl, rfl, rfl⟩ := h
    exact specMO_out A0 c0 l0 w hr0 hok
end Go.Proofs.Ytopcnhppbmmbbaa.Hand
