/- The contract of impl.MeanderOfOrder. Condition: a list of at most 2^20 numbers. -/
import Derived.Test.YtopcnhppbmmbbaaHandMOS
import Derived.Test.YtopcnhppbmmbbaaHandSys
import Derived.Test.YtopcnhppbmmbbaaHandSorted
import Derived.BigQuiet
namespace Go.Proofs.Ytopcnhppbmmbbaa.Hand
open Go.RowKit Go.Proofs.YtopcnhppbmmbbaaW.PrintWords Go.Proofs.YtopcnhppbmmbbaaW.PrintLast Go.Proofs.YtopcnhppbmmbbaaW.PrintMore
set_option linter.unusedVariables false
set_option linter.unusedSimpArgs false

def srt (l : List Int) : List Int := l.mergeSort (fun x y => decide (x ≤ y))
theorem srt_length (l : List Int) : (srt l).length = l.length := List.length_mergeSort l
theorem sorted_any (Bs : Nat) (A : Option Addr) (cap : Nat) (l : List Int) (hl : l.length ≤ 1048576) (w : World) (hBs : w.cell? ⟨Bs, 0, none⟩ = some (.slice A l.length cap)) (hr : Kd.C (Kd.int .i64) w A l.length l) :
    Calls Try.prog 36 #[.func (.func 47) #[] #[.pointer (some ⟨Bs, 0, none⟩)]] w fun e w' => ∃ (A' : Option Addr) (c' : Nat), e = .returned (.slice A' l.length c') ∧ Kd.C (Kd.int .i64) w' A' l.length (srt l) ∧ Below w.heap.size w w' := by
  have hBw := World.block_lt_of_cell? w _ hBs
  by_cases h0 : l.length = 0
  · have hl0 : l = [] := List.eq_nil_of_length_eq_zero h0
    subst hl0
    refine (sorted_empty Bs A cap w hBw hBs).mono ?_
    rintro e w' ⟨v, rfl, hrow, hb⟩
    obtain ⟨A', c', rfl, hr'⟩ := own_reads_of (enc := Value.int .i64) (d := (0 : Int)) (xs := []) hrow
    exact ⟨A', c', rfl, (by rw [show srt [] = [] by unfold srt; simp]; exact Kd.C_of_reads hr'), hb⟩
  · obtain ⟨ad, rfl, _⟩ := Kd.at_int hr 0 (by omega) (by omega)
    refine (sorted_calls Bs ad cap l hl w hBw hBs (fun j hj => ?_)).mono ?_
    · obtain ⟨ad', e', hx⟩ := Kd.at_int hr (j : Int) (by omega) (by omega)
      cases e'
      rw [Int.toNat_natCast] at hx
      rw [hx]
      unfold rd
      rw [Int.toNat_natCast, List.getD_eq_getElem?_getD]
    · rintro e w' ⟨v, rfl, hrow, hb⟩
      obtain ⟨A', c', rfl, hr'⟩ := own_reads_of (enc := Value.int .i64) (d := (0 : Int)) (xs := srt l) hrow
      exact ⟨A', c', rfl, Kd.C_of_reads hr', hb⟩
def upI : List Int → Nat → Bool
  | [], _ => true
  | x :: r, i => if x = (i : Int) then upI r (i + 1) else false
theorem up_spec : ∀ (s : List Int) (i : Nat), upI s i = true → s.Pairwise (· < ·) ∧ ∀ x ∈ s, (i : Int) ≤ x ∧ x < (i : Int) + (s.length : Int) := by
  intro s
  induction s with
  | nil => intro i _; exact ⟨List.Pairwise.nil, by simp⟩
  | cons x r ih =>
    intro i h
    simp only [upI] at h
    by_cases c : x = (i : Int)
    · rw [if_pos c] at h
      obtain ⟨h1, h2⟩ := ih (i + 1) h
      refine ⟨List.pairwise_cons.2 ⟨fun y hy => ?_, h1⟩, fun y hy => ?_⟩
      · have := h2 y hy; omega
      · rw [List.length_cons]
        rcases List.mem_cons.1 hy with rfl | hy
        · omega
        · have := h2 y hy; omega
    · rw [if_neg c] at h
      cases h
theorem up_rng (l : List Int) (h : upI (srt l) 0 = true) : ∀ x ∈ l, 0 ≤ x ∧ x ≤ (l.length : Int) - 1 := by
  intro x hx
  obtain ⟨_, h2⟩ := up_spec _ _ h
  have := h2 x ((List.mergeSort_perm l (fun x y => decide (x ≤ y))).mem_iff.2 hx)
  rw [srt_length] at this
  omega
def impl_MeanderOfOrder.f (k : Nat) (l : List Int) : Option (ByteArray × ByteArray × Int) :=
  if okO l = true then (if upI (srt l) 0 = true then ((impl_system.f k (mtS l l.length l.length).1).bind fun a => (impl_system.f k (mtS l l.length l.length).2).bind fun b => some (finO a b)) else some ((⟨#[]⟩ : ByteArray), (⟨#[]⟩ : ByteArray), 2)) else some ((⟨#[]⟩ : ByteArray), (⟨#[]⟩ : ByteArray), 2)
theorem impl_MeanderOfOrder.mono : ∀ a0 k, LeO (impl_MeanderOfOrder.f k a0) (impl_MeanderOfOrder.f (k + 1) a0) := by
  intro a0 k
  unfold impl_MeanderOfOrder.f
  exact LeO.ite (LeO.ite (LeO.bind (impl_system.mono _ k) (fun _ => LeO.bind (impl_system.mono _ k) (fun _ => LeO.refl _))) (LeO.refl _)) (LeO.refl _)
set_option maxHeartbeats 4000000 in
set_option maxRecDepth 100000 in
theorem implMO_out (A0 : Option Addr) (c0 : Nat) (l0 : List Int) (w : World) (hr0 : Kd.C (Kd.int .i64) w A0 l0.length l0) (h : okO l0 = false) :
    Calls Try.prog 15 #[.slice A0 l0.length c0] w fun e w' => e = .returned (.tuple #[.string ⟨#[]⟩, .string ⟨#[]⟩, .int .i64 2]) ∧ Below w.heap.size w w' := by
  unfold okO at h
  by_cases c3 : l0.length % 2 = 0
  · have t2 : Int.tmod (l0.length : Int) 2 = 0 := by rw [Int.tmod_eq_emod_of_nonneg (by omega)]; omega
    by_cases c1 : 2 ≤ l0.length ∧ l0.length ≤ 12
    · rw [decide_eq_true ⟨by omega, c1.2, c3⟩, Bool.true_and] at h
      have h0 : rd l0 0 ≠ 0 := by simpa using h
      obtain ⟨ad, e1, hx⟩ := Kd.at_int hr0 0 (by omega) (by omega)
      cases e1
      rw [show ad.add (0 : Int).toNat = ad from by simp [Addr.add]] at hx
      have hxb : (rd l0 0 == 0) = false := beq_eq_false_iff_ne.mpr h0
      generalize rd l0 0 = x at hx hxb
      have p0 := eq_true (show (0 : Int) < (l0.length : Int) by omega)
      have p0' := eq_true (show 0 < l0.length by omega)
      have HIN := Aside0.mk (fun W => impl_in_calls (l0.length : Int) 2 12 true (by rw [decide_eq_true (show (2 : Int) ≤ (l0.length : Int) by omega), decide_eq_true (show (l0.length : Int) ≤ 12 by omega)]; rfl) W)
      have hxd := fun q => show (w.drewN q).cell? ad = some (.int .i64 x) from hx
      clear h h0 hr0 c1 c3
      go_enter Try.func15, Try.ntmps15
      go_wp2_with (go_at_call 28; refine (HIN.out _).mono ?_; rintro e w' ⟨rfl, ⟨q, rfl⟩⟩)
      go_ret3
      exact ⟨rfl, pw_below_drewN (Below.refl _ _) _⟩
    · have HIN := Aside0.mk (fun W => impl_in_calls (l0.length : Int) 2 12 false (by rw [← Bool.decide_and]; exact decide_eq_false (by omega)) W)
      clear h hr0 c1 c3
      go_enter Try.func15, Try.ntmps15
      go_wp2_with (go_at_call 28; refine (HIN.out _).mono ?_; rintro e w' ⟨rfl, ⟨q, rfl⟩⟩)
      go_ret3
      exact ⟨rfl, pw_below_drewN (Below.refl _ _) _⟩
  · have t2 : Int.tmod (l0.length : Int) 2 = 1 := by rw [Int.tmod_eq_emod_of_nonneg (by omega)]; omega
    clear h hr0 c3
    go_enter Try.func15, Try.ntmps15
    go_wp2
    go_ret3
    exact ⟨rfl, Below.refl _ _⟩
/-- The three blocks of impl.MeanderOfOrder. -/
structure MoI (n : Nat) (w W : World) (X U L : Nat) (u l : List Int) : Prop where
  ax : W.heap[X]? = some (.cells #[.slice (some ⟨U, 0, none⟩) n n, .slice (some ⟨L, 0, none⟩) n n] 59 (0, 0))
  au : Arr W U 3 u
  al : Arr W L 3 l
  xu : X ≠ U
  xl : X ≠ L
  ul : U ≠ L
  hx : w.heap.size ≤ X
  hu : w.heap.size ≤ U
  hl : w.heap.size ≤ L
  hb : Below w.heap.size w W
theorem moi_of {w W : World} {X U L n : Nat} (hX : W.heap[X]? = some (.cells #[.slice (some ⟨U, 0, none⟩) n n, .slice (some ⟨L, 0, none⟩) n n] 59 (0, 0))) (hU : W.heap[U]? = some (.cells (madeCells #[.int .i64 0] n) 3)) (hL : W.heap[L]? = some (.cells (madeCells #[.int .i64 0] n) 3))
    (xu : X ≠ U) (xl : X ≠ L) (ul : U ≠ L) (hx : w.heap.size ≤ X) (hu : w.heap.size ≤ U) (hl : w.heap.size ≤ L) (hb : Below w.heap.size w W) : MoI n w W X U L (List.replicate n 0) (List.replicate n 0) :=
  ⟨hX, by rw [made_enc] at hU; exact hU, by rw [made_enc] at hL; exact hL, xu, xl, ul, hx, hu, hl, hb⟩
theorem MoI.drewN {n : Nat} {w W : World} {X U L : Nat} {u l : List Int} (h : MoI n w W X U L u l) (q : Nat) : MoI n w (W.drewN q) X U L u l := ⟨h.ax, h.au, h.al, h.xu, h.xl, h.ul, h.hx, h.hu, h.hl, pw_below_drewN h.hb q⟩
theorem MoI.drew {n : Nat} {w W : World} {X U L : Nat} {u l : List Int} (h : MoI n w W X U L u l) : MoI n w W.drew X U L u l := ⟨h.ax, h.au, h.al, h.xu, h.xl, h.ul, h.hx, h.hu, h.hl, below_drew h.hb⟩
theorem MoI.up {n : Nat} {w W : World} {X U L : Nat} {u l : List Int} (h : MoI n w W X U L u l) (y : Nat) (v : Int) : MoI n w (W.setCell ⟨U, y, none⟩ (.int .i64 v)) X U L (u.set y v) l :=
  ⟨(heap_setCell_other W ⟨U, y, none⟩ X _ h.xu).trans h.ax, h.au.set y v, h.al.far (p := ⟨U, y, none⟩) (Ne.symm h.ul) _, h.xu, h.xl, h.ul, h.hx, h.hu, h.hl, h.hb.setCell (p := ⟨U, y, none⟩) h.hu _⟩
theorem MoI.low {n : Nat} {w W : World} {X U L : Nat} {u l : List Int} (h : MoI n w W X U L u l) (y : Nat) (v : Int) : MoI n w (W.setCell ⟨L, y, none⟩ (.int .i64 v)) X U L u (l.set y v) :=
  ⟨(heap_setCell_other W ⟨L, y, none⟩ X _ h.xl).trans h.ax, h.au.far (p := ⟨L, y, none⟩) h.ul _, h.al.set y v, h.xu, h.xl, h.ul, h.hx, h.hu, h.hl, h.hb.setCell (p := ⟨L, y, none⟩) h.hl _⟩
theorem MoI.at0 {n : Nat} {w W : World} {X U L : Nat} {u l : List Int} (h : MoI n w W X U L u l) : W.cell? ⟨X, 0, none⟩ = some (.slice (some ⟨U, 0, none⟩) n n) := by rw [cell_of_row W X 0 _ _ (0, 0) h.ax]; rfl
theorem MoI.at1 {n : Nat} {w W : World} {X U L : Nat} {u l : List Int} (h : MoI n w W X U L u l) : W.cell? ⟨X, 1, none⟩ = some (.slice (some ⟨L, 0, none⟩) n n) := by rw [cell_of_row W X 1 _ _ (0, 0) h.ax]; rfl
set_option maxHeartbeats 4000000 in
set_option maxRecDepth 100000 in
theorem implMO_in (k : Nat) (A0 : Option Addr) (c0 : Nat) (l0 : List Int) (r1 r2 : ByteArray) (r3 : Int) (w : World) (hr0 : Kd.C (Kd.int .i64) w A0 l0.length l0) (hok : okO l0 = true) (h : impl_MeanderOfOrder.f k l0 = some (r1, r2, r3)) :
    Calls Try.prog 15 #[.slice A0 l0.length c0] w fun e w' => e = .returned (.tuple #[.string r1, .string r2, .int .i64 r3]) ∧ Below w.heap.size w w' := by
  unfold impl_MeanderOfOrder.f at h
  rw [if_pos hok] at h
  unfold okO at hok
  rw [Bool.and_eq_true, decide_eq_true_eq] at hok
  obtain ⟨⟨g1, g2, g3⟩, h0⟩ := hok
  have h0' : rd l0 0 = 0 := by simpa using h0
  have HR := Aside0.mk hr0
  have HH := Aside0.mk h
  obtain ⟨ad, e1, hx⟩ := Kd.at_int hr0 0 (by omega) (by omega)
  cases e1
  rw [show ad.add (0 : Int).toNat = ad from by simp [Addr.add], h0'] at hx
  have hxd := fun q => show (w.drewN q).cell? ad = some (.int .i64 0) from hx
  have t2 : Int.tmod (l0.length : Int) 2 = 0 := by rw [Int.tmod_eq_emod_of_nonneg (by omega)]; omega
  have p0 := eq_true (show (0 : Int) < (l0.length : Int) by omega)
  have p0' := eq_true (show 0 < l0.length by omega)
  have HIN := Aside0.mk (fun W => impl_in_calls (l0.length : Int) 2 12 true (by rw [decide_eq_true (show (2 : Int) ≤ (l0.length : Int) by omega), decide_eq_true (show (l0.length : Int) ≤ 12 by omega)]; rfl) W)
  have HMK := Aside0.mk (run_make_row' (P := Try.prog) 41 3 (.int .i64 0) 8 Try.underlying41 infoI64_ rfl .i64 .i64 l0.length (by omega) (by omega))
  have HG1 := Aside0.mk g1
  have HG2 := Aside0.mk g2
  have HV := Aside0.mk (fun W => values_calls (some ad) l0.length c0 W)
  have HSO := Aside0.mk (fun (W : World) (hb : Below w.heap.size w W) => sorted_any W.heap.size (some ad) c0 l0 (by omega) (W.alloc (.cells #[.slice (some ad) l0.length c0] 29)) (by simp) (Kd.C_below hr0 (below_alloc hb _)))
  clear h h0 h0' hr0 g1 g2 g3
  go_enter Try.func15, Try.ntmps15
  go_wp2_with fail
  refine (HIN.out _).mono ?_
  rintro e w1 ⟨rfl, ⟨q, rfl⟩⟩
  go_wp2_with fail
  refine (HV.out _).mono ?_
  rintro e w1 ⟨rfl, rfl⟩
  go_wp2_with fail
  refine (HSO.out _ (pw_below_drewN (Below.refl _ w) q)).mono ?_
  rintro e w2 ⟨A', c', rfl, hr', hb2⟩
  have HR' := Aside0.mk hr'
  have HB2 := Aside0.mk (below_step (below_alloc (pw_below_drewN (Below.refl _ w) q) _) hb2)
  have HLS := Aside0.mk (srt_length l0)
  clear hr' hb2 HSO HV HIN
  go_wp2
  by_cases hup : upI (srt l0) 0 = true
  · have hh := HH.out
    rw [if_pos hup] at hh
    have HUP := Aside0.mk hup
    have HRNG := Aside0.mk (fun (j : Nat) (hj : j < l0.length) => up_rng l0 hup _ (rd_mem l0 j hj))
    have HH2 := Aside0.mk hh
    clear HH hh hup
    generalize srt l0 = s at HR' HLS HUP
    go_loopg [6, 7, 36] l0.length (fun kq _ _ v36 w' => ∃ (i : Nat), v36 = .int .i64 (i : Int) ∧ Aside0 (kq + i = l0.length) ∧ Aside0 (upI (s.drop i) i = true) ∧ Aside0 (w' = w2))
    case atStart => exact ⟨0, rfl, ⟨rfl⟩, ⟨by rw [List.drop_zero]; exact HUP.out⟩, ⟨rfl⟩⟩
    case round =>
      clear HUP
      obtain ⟨i, rfl, E1, HP, ⟨rfl⟩⟩ := hrel
      cases gk with
      | zero =>
        have d1b : decide ((i : Int) < (l0.length : Int)) = false := decide_eq_false (by have := E1.out; omega)
        have d1b' : decide (i < l0.length) = false := decide_eq_false (by have := E1.out; omega)
        have hmk := HMK.out
        clear HP E1 HLS HR'
        go_upto_region 10 with fail
        go_cut [8] (fun v8 wx => ∃ (X U L : Nat), v8 = .pointer (some ⟨X, 0, none⟩) ∧ Aside0 (MoI l0.length w wx X U L (List.replicate l0.length 0) (List.replicate l0.length 0)))
        case first =>
          clear HH2
          have hsz := below_size HB2.out
          go_region
          all_goals
            go_wp2_with fail
            go_meet
            case rel => exact ⟨_, _, _, rfl, ⟨moi_of (by first | exact (al3 wr _ _ _).1 | exact (al3 wr _ _ _).2.1 | exact (al3 wr _ _ _).2.2.1) (by first | exact (al3 wr _ _ _).1 | exact (al3 wr _ _ _).2.1 | exact (al3 wr _ _ _).2.2.1) (by first | exact (al3 wr _ _ _).1 | exact (al3 wr _ _ _).2.1 | exact (al3 wr _ _ _).2.2.1) (by omega) (by omega) (by omega) (by omega) (by omega) (by omega) (below_step HB2.out (al3 wr _ _ _).2.2.2)⟩⟩
        case rest =>
          obtain ⟨X, U, L, rfl, HM⟩ := hcut
          clear hmk HMK HB2 d1b d1b'
          have HM0 := Aside0.mk (show MoI l0.length w wc X U L (mtS l0 l0.length 0).1 (mtS l0 l0.length 0).2 from HM.out)
          clear HM
          go_wp2
          go_loopg [9, 10, 11, 51] l0.length (fun kq _ _ _ v51 w' => ∃ (j : Nat), v51 = .int .i64 (j : Int) ∧ Aside0 (kq + j = l0.length) ∧ Aside0 (MoI l0.length w w' X U L (mtS l0 l0.length j).1 (mtS l0 l0.length j).2))
          case atStart => exact ⟨0, rfl, ⟨rfl⟩, HM0⟩
          case round =>
            clear HM0
            obtain ⟨j, rfl, F1, HM⟩ := hrel
            cases gk with
            | zero =>
              have d2b : decide ((j : Int) < (l0.length : Int)) = false := decide_eq_false (by have := F1.out; omega)
              have d2b' : decide (j < l0.length) = false := decide_eq_false (by have := F1.out; omega)
              have hj : j = l0.length := by have := F1.out; omega
              rw [hj] at HM
              obtain ⟨⟨a1, a2⟩, ha, hh⟩ := Option.bind_eq_some_iff.1 HH2.out
              obtain ⟨⟨b1, b2⟩, hb, hh⟩ := Option.bind_eq_some_iff.1 hh
              have hfin := Option.some.inj hh
              have hlu := (mtS_len l0 l0.length l0.length).1
              have hll := (mtS_len l0 l0.length l0.length).2
              generalize (mtS l0 l0.length l0.length).1 = u at ha HM hlu
              generalize (mtS l0 l0.length l0.length).2 = v at hb HM hll
              have hc1 := impl_system.calls k (some ⟨U, 0, none⟩) l0.length u a1 a2 wr (HM.out.au.reads (by have := HG2.out; omega)) (by omega) ha
              rw [hlu] at hc1
              have hc2 := fun (W : World) (h : Arr W L 3 v) => impl_system.calls k (some ⟨L, 0, none⟩) l0.length v b1 b2 W (h.reads (by have := HG2.out; omega)) (by omega) hb
              rw [hll] at hc2
              have HC1 := Aside0.mk hc1
              have HC2 := Aside0.mk hc2
              have y0 := HM.out.at0
              have HY1 := Aside0.mk HM.out.at1
              clear hc1 hc2 ha hb hh hj hlu hll HH2 F1 HRNG HR
              go_wp2_with fail
              refine HC1.out.mono ?_
              rintro e w5 ⟨rfl, hb5⟩
              have HL5 := Aside0.mk (show Arr w5 L 3 v from (hb5.block _ HM.out.al.lt).trans HM.out.al)
              have HB5 := Aside0.mk (below_step HM.out.hb hb5)
              have y1 : w5.cell? ⟨X, 1, none⟩ = some (.slice (some ⟨L, 0, none⟩) l0.length l0.length) := (hb5.cell (World.block_lt_of_cell? _ _ HY1.out)).trans HY1.out
              clear hb5 HC1 HM y0 HY1
              go_wp2_with fail
              refine (HC2.out _ HL5.out).mono ?_
              rintro e w6 ⟨rfl, hb6⟩
              have HB6 := Aside0.mk (below_step HB5.out hb6)
              clear hb6 HC2 HL5 HB5 y1
              cases a2 with
              | true =>
                cases b2 with
                | true =>
                  simp only [finO, Bool.and_self, if_true, Prod.mk.injEq] at hfin
                  obtain ⟨rfl, rfl, rfl⟩ := hfin
                  go_wp2
                  go_ret3
                  exact ⟨rfl, HB6.out⟩
                | false =>
                  simp only [finO, Bool.and_false, Bool.false_eq_true, if_false, Prod.mk.injEq] at hfin
                  obtain ⟨rfl, rfl, rfl⟩ := hfin
                  go_wp2
                  go_ret3
                  exact ⟨rfl, HB6.out⟩
              | false =>
                simp only [finO, Bool.false_and, Bool.false_eq_true, if_false, Prod.mk.injEq] at hfin
                obtain ⟨rfl, rfl, rfl⟩ := hfin
                go_wp2
                go_ret3
                exact ⟨rfl, HB6.out⟩
            | succ k2 =>
              have d2 : j < l0.length := by have := F1.out; omega
              have d2b : decide ((j : Int) < (l0.length : Int)) = true := decide_eq_true (by omega)
              have d2b' : decide (j < l0.length) = true := decide_eq_true d2
              have g1_ := HG1.out
              have g2_ := HG2.out
              obtain ⟨m2, hm2⟩ : ∃ m2, (j + 1) % l0.length = m2 := ⟨_, rfl⟩
              have hmn : m2 < l0.length := by rw [← hm2]; exact Nat.mod_lt _ (by omega)
              have hmz : ((j : Int) + 1) % (l0.length : Int) = (m2 : Int) := by rw [← hm2]; simp
              have hmt : Int.tmod (wrap64 ((j : Int) + 1)) (l0.length : Int) = (m2 : Int) := by rw [show wrap64 ((j : Int) + 1) = (j : Int) + 1 by unfold wrap64; omega, Int.tmod_eq_emod_of_nonneg (by omega)]; exact hmz
              have hmt2 : Int.tmod ((j : Int) + 1) (l0.length : Int) = (m2 : Int) := by rw [Int.tmod_eq_emod_of_nonneg (by omega)]; exact hmz
              obtain ⟨x, ex⟩ : ∃ x : Nat, rd l0 (j : Int) = (x : Int) := ⟨(rd l0 (j : Int)).toNat, by have := HRNG.out j d2; omega⟩
              obtain ⟨y, ey⟩ : ∃ y : Nat, rd l0 (m2 : Int) = (y : Int) := ⟨(rd l0 (m2 : Int)).toNat, by have := HRNG.out m2 hmn; omega⟩
              have hxl : x < l0.length := by have := HRNG.out j d2; omega
              have hyl : y < l0.length := by have := HRNG.out m2 hmn; omega
              have lens := mtS_len l0 l0.length j
              have HMT : mtS l0 l0.length (j + 1) = if j % 2 = 0 then (((mtS l0 l0.length j).1.set x (y : Int)).set y (x : Int), (mtS l0 l0.length j).2) else ((mtS l0 l0.length j).1, ((mtS l0 l0.length j).2.set x (y : Int)).set y (x : Int)) := by
                simp only [mtS]
                rw [hm2, ex, ey, Int.toNat_natCast, Int.toNat_natCast]
              generalize mtS l0 l0.length j = uv at HM HMT lens
              obtain ⟨u, v⟩ := uv
              simp only at HM HMT lens
              obtain ⟨hlu, hll⟩ := lens
              obtain ⟨ad2, e1, hxj⟩ := Kd.at_int (Kd.C_below HR.out HM.out.hb) (j : Int) (by omega) (by omega)
              cases e1
              obtain ⟨ad2, e1, hxm⟩ := Kd.at_int (Kd.C_below HR.out HM.out.hb) (m2 : Int) (by omega) (by omega)
              cases e1
              rw [Int.toNat_natCast, ex] at hxj
              rw [Int.toNat_natCast, ey] at hxm
              have p1 := eq_true (show 0 ≤ (j : Int) by omega)
              have q1 := eq_true (show (j : Int) < (l0.length : Int) by omega)
              have q1' := eq_true d2
              have p2 := eq_true (show 0 ≤ (m2 : Int) by omega)
              have q2 := eq_true (show (m2 : Int) < (l0.length : Int) by omega)
              have q2' := eq_true hmn
              have p3 := eq_true (show 0 ≤ (x : Int) by omega)
              have q3 := eq_true (show (x : Int) < (l0.length : Int) by omega)
              have q3' := eq_true hxl
              have p4 := eq_true (show 0 ≤ (y : Int) by omega)
              have q4 := eq_true (show (y : Int) < (l0.length : Int) by omega)
              have q4' := eq_true hyl
              have nz : ((l0.length : Int) == 0) = false := beq_eq_false_iff_ne.2 (by omega)
              have nz2 : ((l0.length : Int) = 0) = False := eq_false (by omega)
              have nz3 : (l0.length == 0) = false := beq_eq_false_iff_ne.2 (by omega)
              have nz4 : (l0.length = 0) = False := eq_false (by omega)
              have HW := Aside0.mk (show wrap64 ((j : Int) + 1) = ((j + 1 : Nat) : Int) by unfold wrap64; omega)
              have HD2 := Aside0.mk d2
              by_cases par : j % 2 = 0
              · rw [if_pos par] at HMT
                have tp : Int.tmod (j : Int) 2 = 0 := by rw [Int.tmod_eq_emod_of_nonneg (by omega)]; omega
                have HMT' := Aside0.mk HMT
                have hlx := HM.out.at0
                have s1 := HM.out.au.celln x (by omega)
                have f1 := HM.out.au.frozen x
                have s3 := fun q => ((HM.out.drewN q).up x (y : Int)).au.celln y (by rw [List.length_set]; omega)
                have f3 := fun q => ((HM.out.drewN q).up x (y : Int)).au.frozen y
                have hly := fun q => ((HM.out.drewN q).up x (y : Int)).at0
                have HMX := Aside0.mk (fun q => ((HM.out.drewN q).up x (y : Int)).up y (x : Int))
                clear HMT ex ey hlu hll par hm2 d2 hmn hxl hyl HM
                go_wp2
                go_quiet (fail)
                go_wp2
                go_region
                obtain ⟨W6, hW6⟩ : ∃ W6, W6 = (((wr.drewN (nq + 1)).setCell ⟨U, x, none⟩ (.int .i64 (y : Int))).setCell ⟨U, y, none⟩ (.int .i64 (x : Int))) := ⟨_, rfl⟩
                have HM6 := Aside0.mk (HMX.out (nq + 1))
                rw [← hW6] at HM6 ⊢
                clear hW6 s1 f1 s3 f3 hlx hly HMX
                go_wp2
                go_roundg k2
                case measure => omega
                case rel => exact ⟨j + 1, congrArg (Value.int .i64) HW.out, ⟨by have := F1.out; omega⟩, ⟨by rw [HMT'.out]; exact HM6.out⟩⟩
              · rw [if_neg par] at HMT
                have tp : Int.tmod (j : Int) 2 = 1 := by rw [Int.tmod_eq_emod_of_nonneg (by omega)]; omega
                have HMT' := Aside0.mk HMT
                have hlx := HM.out.at1
                have s1 := HM.out.al.celln x (by omega)
                have f1 := HM.out.al.frozen x
                have s3 := fun q => ((HM.out.drewN q).low x (y : Int)).al.celln y (by rw [List.length_set]; omega)
                have f3 := fun q => ((HM.out.drewN q).low x (y : Int)).al.frozen y
                have hly := fun q => ((HM.out.drewN q).low x (y : Int)).at1
                have HMX := Aside0.mk (fun q => ((HM.out.drewN q).low x (y : Int)).low y (x : Int))
                clear HMT ex ey hlu hll par hm2 d2 hmn hxl hyl HM
                go_wp2
                go_quiet (fail)
                go_wp2
                go_region
                obtain ⟨W6, hW6⟩ : ∃ W6, W6 = (((wr.drewN (nq + 1)).setCell ⟨L, x, none⟩ (.int .i64 (y : Int))).setCell ⟨L, y, none⟩ (.int .i64 (x : Int))) := ⟨_, rfl⟩
                have HM6 := Aside0.mk (HMX.out (nq + 1))
                rw [← hW6] at HM6 ⊢
                clear hW6 s1 f1 s3 f3 hlx hly HMX
                go_wp2
                go_roundg k2
                case measure => omega
                case rel => exact ⟨j + 1, congrArg (Value.int .i64) HW.out, ⟨by have := F1.out; omega⟩, ⟨by rw [HMT'.out]; exact HM6.out⟩⟩
      | succ k1 =>
        have d1 : i < l0.length := by have := E1.out; omega
        have d1b : decide ((i : Int) < (l0.length : Int)) = true := decide_eq_true (by omega)
        have d1b' : decide (i < l0.length) = true := decide_eq_true d1
        have hp := HP.out
        rw [drop_rd s i (by have := HLS.out; omega)] at hp
        simp only [upI] at hp
        obtain ⟨ad2, e1, hx⟩ := Kd.at_int HR'.out (i : Int) (by omega) (by omega)
        cases e1
        rw [Int.toNat_natCast] at hx
        have p1 := eq_true (show 0 ≤ (i : Int) by omega)
        have q1 := eq_true (show (i : Int) < (l0.length : Int) by omega)
        have q1' := eq_true d1
        have HW := Aside0.mk (show wrap64 ((i : Int) + 1) = ((i + 1 : Nat) : Int) by have := HG2.out; unfold wrap64; omega)
        generalize rd s (i : Int) = x at hx hp
        clear d1 HP
        by_cases c2 : x = (i : Int)
        · rw [if_pos c2] at hp
          have HP' := Aside0.mk hp
          have c2b : (x == (i : Int)) = true := beq_iff_eq.mpr c2
          subst c2
          clear hp
          go_wp2
          go_roundg k1
          case measure => omega
          case rel => exact ⟨i + 1, congrArg (Value.int .i64) HW.out, ⟨by have := E1.out; omega⟩, HP', ⟨rfl⟩⟩
        · rw [if_neg c2] at hp
          cases hp
  · have hh := HH.out
    rw [if_neg hup] at hh
    simp only [Option.some.injEq, Prod.mk.injEq] at hh
    obtain ⟨rfl, rfl, rfl⟩ := hh
    rw [Bool.not_eq_true] at hup
    have HUP := Aside0.mk hup
    clear HH hup HMK
    generalize srt l0 = s at HR' HLS HUP
    go_loopg [6, 7, 36] l0.length (fun kq _ _ v36 w' => ∃ (i : Nat), v36 = .int .i64 (i : Int) ∧ Aside0 (kq + i = l0.length) ∧ Aside0 (upI (s.drop i) i = false) ∧ Aside0 (w' = w2))
    case atStart => exact ⟨0, rfl, ⟨rfl⟩, ⟨by rw [List.drop_zero]; exact HUP.out⟩, ⟨rfl⟩⟩
    case round =>
      clear HUP
      obtain ⟨i, rfl, E1, HP, ⟨rfl⟩⟩ := hrel
      cases gk with
      | zero =>
        have hi : i = l0.length := by have := E1.out; omega
        have hp := HP.out
        rw [hi, ← HLS.out, List.drop_length] at hp
        cases hp
      | succ k1 =>
        have d1 : i < l0.length := by have := E1.out; omega
        have d1b : decide ((i : Int) < (l0.length : Int)) = true := decide_eq_true (by omega)
        have d1b' : decide (i < l0.length) = true := decide_eq_true d1
        have hp := HP.out
        rw [drop_rd s i (by have := HLS.out; omega)] at hp
        simp only [upI] at hp
        obtain ⟨ad2, e1, hx⟩ := Kd.at_int HR'.out (i : Int) (by omega) (by omega)
        cases e1
        rw [Int.toNat_natCast] at hx
        have p1 := eq_true (show 0 ≤ (i : Int) by omega)
        have q1 := eq_true (show (i : Int) < (l0.length : Int) by omega)
        have q1' := eq_true d1
        have HW := Aside0.mk (show wrap64 ((i : Int) + 1) = ((i + 1 : Nat) : Int) by have := HG2.out; unfold wrap64; omega)
        generalize rd s (i : Int) = x at hx hp
        clear d1 HP
        by_cases c2 : x = (i : Int)
        · rw [if_pos c2] at hp
          have HP' := Aside0.mk hp
          have c2b : (x == (i : Int)) = true := beq_iff_eq.mpr c2
          subst c2
          clear hp
          go_wp2
          go_roundg k1
          case measure => omega
          case rel => exact ⟨i + 1, congrArg (Value.int .i64) HW.out, ⟨by have := E1.out; omega⟩, HP', ⟨rfl⟩⟩
        · have c2b : (x == (i : Int)) = false := beq_eq_false_iff_ne.mpr c2
          clear c2 hp
          go_wp2
          go_ret3
          exact ⟨rfl, HB2.out⟩
theorem impl_MeanderOfOrder.calls (k : Nat) (A0 : Option Addr) (c0 : Nat) (l0 : List Int) (r1 r2 : ByteArray) (r3 : Int) (w : World) (hr0 : Kd.C (Kd.int .i64) w A0 l0.length l0) (hc0 : l0.length ≤ c0) (h : impl_MeanderOfOrder.f k l0 = some (r1, r2, r3)) :
    Calls Try.prog 15 #[.slice A0 l0.length c0] w fun e w' => e = .returned (.tuple #[.string r1, .string r2, .int .i64 r3]) ∧ Below w.heap.size w w' := by
  cases hok : okO l0 with
  | true => exact implMO_in k A0 c0 l0 r1 r2 r3 w hr0 hok h
  | false =>
    unfold impl_MeanderOfOrder.f at h
    rw [hok, if_neg (by simp)] at h
    simp only [Option.some.injEq, Prod.mk.injEq] at h
    obtain ⟨rfl, rfl, rfl⟩ := h
    exact implMO_out A0 c0 l0 w hr0 hok
end Go.Proofs.Ytopcnhppbmmbbaa.Hand
