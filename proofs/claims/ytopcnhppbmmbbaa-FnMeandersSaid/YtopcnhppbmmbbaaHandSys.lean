/- The contracts of impl.system and of impl.TurnSystem, each as a plain function tells it. No condition. -/
import Derived.Test.YtopcnhppbmmbbaaHandText
import Derived.Test.YtopcnhppbmmbbaaHandP
namespace Go.Proofs.Ytopcnhppbmmbbaa.Hand
open Go.RowKit Go.Proofs.YtopcnhppbmmbbaaW.PrintWords Go.Proofs.YtopcnhppbmmbbaaW.PrintLast Go.Proofs.YtopcnhppbmmbbaaW.PrintMore
set_option linter.unusedVariables false
set_option linter.unusedSimpArgs false

theorem infoI64_ : (Try.prog.info? 3).map (fun i => (i.zero, i.size, i.bytes)) = some (some (.int .i64 0), 1, 8) := by kernel_rfl
/-- impl.system in plain words. -/
def impl_system.f (k : Nat) (l : List Int) : Option (ByteArray × Bool) := if l.length ≤ 1000000 then ((impl_partners.f k (strOfNums (signs l l.length))).bind fun A => if A.2 = true then ((slices_Equal_int_int.f k A.1 l).bind fun t => some (strOfNums (signs l l.length), t)) else some (strOfNums (signs l l.length), false)) else none
theorem impl_system.mono : ∀ a0 k, LeO (impl_system.f k a0) (impl_system.f (k + 1) a0) := by
  intro a0 k
  unfold impl_system.f
  exact LeO.ite (LeO.bind (impl_partners.mono _ k) (fun _ => LeO.ite (LeO.bind (slices_Equal_int_int.mono _ _ k) (fun _ => LeO.refl _)) (LeO.refl _))) (LeO.refl _)
set_option maxHeartbeats 8000000 in
set_option maxRecDepth 100000 in
theorem impl_system.calls (k : Nat) (A0 : Option Addr) (c0 : Nat) (l0 : List Int) (r1 : ByteArray) (r2 : Bool) (w : World) (hr0 : Kd.C (Kd.int .i64) w A0 l0.length l0) (hc0 : l0.length ≤ c0) (h : impl_system.f k l0 = some (r1, r2)) :
    Calls Try.prog 38 #[.slice A0 l0.length c0] w fun e w' => e = .returned (.tuple #[.string r1, .bool r2]) ∧ Below w.heap.size w w' := by
  unfold impl_system.f at h
  by_cases hn : l0.length ≤ 1000000
  · rw [if_pos hn] at h
    obtain ⟨⟨o, b⟩, h1, h⟩ := Option.bind_eq_some_iff.1 h
    have HCALL := Aside0.mk (fun W => impl_partners.calls k _ o b W h1)
    have HR := Aside0.mk hr0
    have HN := Aside0.mk hn
    have HQ := Aside0.mk h
    have HC0 := Aside0.mk hc0
    clear h h1 hr0 hn hc0
    go_enter Try.func38, Try.ntmps38
    go_wp2
    go_loopg [4, 12] (l0.length + 1) (fun kq v4 v12 w' => ∃ (i : Nat), v12 = .int .i64 (i : Int) ∧ Aside0 (kq + i = l0.length + 1) ∧ Aside0 (i ≤ l0.length) ∧ Aside0 (Kd.R (Kd.int .u8) 5 w' w.heap.size (fun _ => True) v4 (signs l0 i)) ∧ Aside0 (Below w.heap.size w w'))
    case atStart =>
      refine ⟨0, rfl, ⟨rfl⟩, ⟨Nat.zero_le _⟩, ⟨?_⟩, ⟨(Below.refl _ w).alloc (Nat.le_refl _) _⟩⟩
      rw [show signs l0 0 = [] from rfl]
      refine ⟨fun k hk => trivial, [], ?_, Reps.none _ _⟩
      exact ⟨by simp [signs], .inr ⟨w.heap.size, 0, #[], rfl, Nat.le_refl _, heap_alloc_new w _, Nat.le_refl _, by unfold maxLen; omega, by simp, by simp⟩⟩
    case round =>
      obtain ⟨i, rfl, E1, E2, HO, HB⟩ := hrel
      by_cases d1 : i < l0.length
      · have d1b : decide ((i : Int) < (l0.length : Int)) = true := decide_eq_true (by omega)
        have d1b' : decide (i < l0.length) = true := decide_eq_true d1
        obtain ⟨ad, ea, hx⟩ := Kd.at_int (Kd.C_below HR.out HB.out) (i : Int) (by omega) (by omega)
        cases ea
        rw [Int.toNat_natCast] at hx
        have hs := signs_succ l0 i
        have hl := signs_len l0 i
        have pj : (0 ≤ (i : Int)) = True := eq_true (by omega)
        have qj : ((i : Int) < (l0.length : Int)) = True := eq_true (by omega)
        have qj' : (i < l0.length) = True := eq_true d1
        have HJ : i ≤ 1000000 := by have := HN.out; omega
        have HD1 := Aside0.mk d1
        cases gk with
        | zero => exact absurd E1.out (by have := E2.out; omega)
        | succ k2 =>
          by_cases d2 : rd l0 (i : Int) > (i : Int)
          · rw [if_pos d2] at hs
            have d2b : decide ((i : Int) < rd l0 (i : Int)) = true := decide_eq_true d2
            have HS := Aside0.mk hs
            have HLL := Aside0.mk hl
            clear hs d2 d1 hl
            go_wp2_with (first | ((with_reducible refine gate_builtin (b := .append) (xs := #[.tmp 20, .tmp 21]) rfl ?_); at_builtin; refine Kd.R_append (Kd.int .u8) (w0 := w) w.heap.size rfl (.tmp 20) (.tmp 21) 22 5 (.int .u8 0) 1 rfl Try.underlying22 infoU8 rfl (by decide) (by omega) u4 (signs l0 i) 40 [.int .u8 40] (fun _ => True) (fun _ => False) rfl rfl ?aP (fun _ hk => hk.elim) ?aF ?aO ?aB ?aS ?aL ?_; (case aP => exact rfl); (case aB => exact HB.out); (case aF => exact fun _ _ => trivial); (case aO => exact HO.out); (case aS => exact below_size HB.out); (case aL => have := HLL.out; have := HN.out; have := HD1.out; omega); intro v108 w14 ho hb hg hat; rw [← HS.out] at ho; have n1_ := Aside0.mk ho; have n2_ := Aside0.mk hb; clear HO HB ho hb hg hat))
            go_roundg k2
            case measure => have := E1.out; omega
            case rel => exact ⟨i + 1, by (try simp only [Int.natCast_add]); rfl, ⟨by have := E1.out; omega⟩, ⟨by have := HD1.out; omega⟩, n1_, n2_⟩
          · rw [if_neg d2] at hs
            have d2b : decide ((i : Int) < rd l0 (i : Int)) = false := decide_eq_false d2
            have HS := Aside0.mk hs
            have HLL := Aside0.mk hl
            clear hs d2 d1 hl
            go_wp2_with (first | ((with_reducible refine gate_builtin (b := .append) (xs := #[.tmp 23, .tmp 24]) rfl ?_); at_builtin; refine Kd.R_append (Kd.int .u8) (w0 := w) w.heap.size rfl (.tmp 23) (.tmp 24) 22 5 (.int .u8 0) 1 rfl Try.underlying22 infoU8 rfl (by decide) (by omega) u4 (signs l0 i) 41 [.int .u8 41] (fun _ => True) (fun _ => False) rfl rfl ?aP (fun _ hk => hk.elim) ?aF ?aO ?aB ?aS ?aL ?_; (case aP => exact rfl); (case aB => exact HB.out); (case aF => exact fun _ _ => trivial); (case aO => exact HO.out); (case aS => exact below_size HB.out); (case aL => have := HLL.out; have := HN.out; have := HD1.out; omega); intro v108 w14 ho hb hg hat; rw [← HS.out] at ho; have n1_ := Aside0.mk ho; have n2_ := Aside0.mk hb; clear HO HB ho hb hg hat))
            go_roundg k2
            case measure => have := E1.out; omega
            case rel => exact ⟨i + 1, by (try simp only [Int.natCast_add]); rfl, ⟨by have := E1.out; omega⟩, ⟨by have := HD1.out; omega⟩, n1_, n2_⟩
      · have d1b : decide ((i : Int) < (l0.length : Int)) = false := decide_eq_false (by omega)
        have d1b' : decide (i < l0.length) = false := decide_eq_false d1
        have ei : i = l0.length := by have := E2.out; omega
        subst ei
        clear d1 E1 E2
        have hcv := own_string (P := Try.prog) Try.underlying22 Try.underlying5 Try.underlying9 (Kd.own_of_R HO.out)
        go_wp2_with fail
        refine (HCALL.out _).mono ?_
        rintro e w1 ⟨v1, rfl, hp, hb⟩
        have HO1 := Aside0.mk (Kd.R_below HO.out hb)
        have HB1 := Aside0.mk (HB.out.trans (hb.mono (below_size HB.out)))
        have HP1 := Aside0.mk hp
        have hcq : ∀ q, (convert 22 9 u4).run Try.prog (w1.drewN q) = .ok (.string (strOfNums (signs l0 l0.length))) (w1.drewN q) := fun q => own_string (P := Try.prog) Try.underlying22 Try.underlying5 Try.underlying9 (Kd.own_of_R (Kd.R_drewN HO1.out q))
        have hcw := own_string (P := Try.prog) Try.underlying22 Try.underlying5 Try.underlying9 (Kd.own_of_R HO1.out)
        clear HCALL hb hcv d1b d1b' HO HB hp
        obtain ⟨Ao, co, eo⟩ := Kd.R_slice HP1.out
        subst eo
        have hq := HQ.out
        cases b with
        | false =>
          rw [if_neg (by simp)] at hq
          simp only [Option.some.injEq, Prod.mk.injEq] at hq
          obtain ⟨rfl, rfl⟩ := hq
          go_wp2
          go_quiet (fail)
          go_wp2
          go_ret2
          exact ⟨rfl, pw_below_drewN HB1.out _⟩
        | true =>
          rw [if_pos rfl] at hq
          obtain ⟨tq, h2, hq⟩ := Option.bind_eq_some_iff.1 hq
          simp only [Option.some.injEq, Prod.mk.injEq] at hq
          obtain ⟨rfl, rfl⟩ := hq
          have HC2 := Aside0.mk (fun q => slices_Equal_int_int.calls k Ao co o A0 c0 l0 tq (w1.drewN q) (Kd.C_drewN (Kd.R_reads' HP1.out).2.2 q) (Kd.R_reads' HP1.out).2.1 (Kd.C_drewN (Kd.C_below HR.out HB1.out) q) HC0.out h2)
          go_wp2
          go_quiet ((go_at_call 48; exact Calls.quiet_of ((HC2.out _).mono fun _ _ h_ => ⟨h_.1, h_.2.out⟩)))
          go_wp2
          go_ret2
          exact ⟨rfl, pw_below_drewN HB1.out _⟩
  · rw [if_neg hn] at h
    cases h
/-- impl.TurnSystem in plain words. -/
def impl_TurnSystem.f (k : Nat) (a0 : ByteArray) : Option (ByteArray × Int) := (impl_IsSystem.f k a0).bind fun y => if y = true then ((impl_partners.f k a0).bind fun A => if 0 < a0.size then (if A.1.length = a0.size then (if a0.size ≤ 1000000 then ((impl_system.f k (turned A.1 a0.size a0.size)).bind fun t => some (t.1, 0)) else none) else none) else none) else some ((⟨#[]⟩ : ByteArray), 1)
theorem impl_TurnSystem.mono : ∀ a0 k, LeO (impl_TurnSystem.f k a0) (impl_TurnSystem.f (k + 1) a0) := by
  intro a0 k
  unfold impl_TurnSystem.f
  exact LeO.bind (impl_IsSystem.mono _ k) (fun _ => LeO.ite (LeO.bind (impl_partners.mono _ k) (fun _ => LeO.ite (LeO.ite (LeO.ite (LeO.bind (impl_system.mono _ k) (fun _ => LeO.refl _)) (LeO.refl _)) (LeO.refl _)) (LeO.refl _))) (LeO.refl _))
set_option maxHeartbeats 8000000 in
set_option maxRecDepth 100000 in
theorem impl_TurnSystem.calls (k : Nat) (a0 : ByteArray) (r1 : ByteArray) (r2 : Int) (w : World) (h : impl_TurnSystem.f k a0 = some (r1, r2)) :
    Calls Try.prog 17 #[.string a0] w fun e w' => e = .returned (.tuple #[.string r1, .int .i64 r2]) ∧ Below w.heap.size w w' := by
  unfold impl_TurnSystem.f at h
  obtain ⟨y, h1, h⟩ := Option.bind_eq_some_iff.1 h
  have HCALL := Aside0.mk (impl_IsSystem.calls k a0 y w h1)
  clear h1
  cases y with
  | false =>
    rw [if_neg (by simp)] at h
    simp only [Option.some.injEq, Prod.mk.injEq] at h
    obtain ⟨rfl, rfl⟩ := h
    go_enter Try.func17, Try.ntmps17
    go_wp2_with fail
    refine HCALL.out.mono ?_
    rintro e w1 ⟨rfl, hb⟩
    have HB1 := Aside0.mk hb
    clear HCALL hb
    go_wp2
    go_ret2
    exact ⟨rfl, HB1.out⟩
  | true =>
    rw [if_pos rfl] at h
    obtain ⟨⟨o, b⟩, h3, h⟩ := Option.bind_eq_some_iff.1 h
    have HCALL3 := Aside0.mk (fun W => impl_partners.calls k a0 o b W h3)
    clear h3
    by_cases hn0 : 0 < a0.size
    · rw [if_pos hn0] at h
      by_cases hol : o.length = a0.size
      · rw [if_pos hol] at h
        by_cases hn : a0.size ≤ 1000000
        · rw [if_pos hn] at h
          obtain ⟨⟨s, t⟩, h2, h⟩ := Option.bind_eq_some_iff.1 h
          simp only [Option.some.injEq, Prod.mk.injEq] at h
          obtain ⟨rfl, rfl⟩ := h
          have HCALL2 := Aside0.mk (fun (A : Option Addr) (c : Nat) (W : World) (hr : Kd.C (Kd.int .i64) W A (turned o a0.size a0.size).length (turned o a0.size a0.size)) (hc : (turned o a0.size a0.size).length ≤ c) => impl_system.calls k A c _ s t W hr hc h2)
          have HN := Aside0.mk hn
          have HN0 := Aside0.mk hn0
          have HOL := Aside0.mk hol
          have hp : (0 ≤ (a0.size : Int)) = True := eq_true (by omega)
          clear h2 hn hn0 hol
          go_enter Try.func17, Try.ntmps17
          go_wp2_with fail
          refine HCALL.out.mono ?_
          rintro e w1 ⟨rfl, hb⟩
          have HB1 := Aside0.mk hb
          clear HCALL hb
          go_wp2_with fail
          refine (HCALL3.out _).mono ?_
          rintro e w3 ⟨v3, rfl, hr3, hb⟩
          have HB3 := Aside0.mk (HB1.out.trans (hb.mono (below_size HB1.out)))
          have HO3 := Aside0.mk (Kd.R_lower hr3 (below_size HB1.out))
          obtain ⟨Ao3, co3, eo3⟩ := Kd.R_slice HO3.out
          subst eo3
          clear HCALL3 hb hr3 HB1
          go_wp2_with (first | ((with_reducible refine gate_dst (N := 22) rfl ?_); refine Kd.R_make (Kd.int .i64) _ 3 rfl (N := 22) rfl 41 _ _ rfl (a0.size : Int) rfl rfl Try.underlying41 (.int .i64 0) 8 infoI64_ rfl (by decide) (by omega) 0 (ok := fun _ => True) (okp := fun _ => True) rfl (fun _ hk => hk) trivial (by omega) (by have := HN.out; omega) (Below.refl _ _) (Nat.le_refl _) ?_; intro v106 w4 ho5 hb hg hnew_))
          have HO3' := Aside0.mk (Kd.R_below (Kd.R_bound HO3.out) hb)
          have HO4 := Aside0.mk ho5
          have HB4 := Aside0.mk (HB3.out.trans (hb.mono (below_size HB3.out)))
          have HG4 := Aside0.mk (below_size HB3.out)
          clear ho5 hb hg hnew_ hp HO3 HB3
          generalize hN : (a0.size : Int) = n
          have EN := Aside0.mk hN.symm
          clear hN
          go_loopg [27] (a0.size + 1) (fun kq v27 w' => ∃ (i : Nat), v27 = .int .i64 (i : Int) ∧ Aside0 (kq + i = a0.size + 1) ∧ Aside0 (i ≤ a0.size) ∧ Aside0 (Kd.R (Kd.int .i64) 3 w' w.heap.size (fun k_ => k_ < w3.heap.size) (.slice Ao3 o.length co3) o) ∧ Aside0 (Kd.R (Kd.int .i64) 3 w' w3.heap.size (fun _ => True) v106 (turned o a0.size i)) ∧ Aside0 (Below w.heap.size w w'))
          case atStart => exact ⟨0, rfl, ⟨rfl⟩, ⟨Nat.zero_le _⟩, ⟨Kd.R_mono HO3'.out (fun _ hk => hk.2.2.1)⟩, ⟨by have := HO4.out; simpa [turned] using this⟩, HB4⟩
          case round =>
            clear HO3' HO4 HB4
            obtain ⟨i, rfl, E1, E2, HA, HO, HB⟩ := hrel
            have hlen := turned_len o a0.size i
            have en := EN.out
            have hol := HOL.out
            by_cases d1 : i < a0.size
            · have d1b : decide ((i : Int) < (o.length : Int)) = true := decide_eq_true (by omega)
              have d1b' : decide (i < o.length) = true := decide_eq_true (by omega)
              obtain ⟨go, co, eo, gb, gl, cl, HG⟩ := Kd.R_form HO.out (by omega)
              subst eo
              have hm : (i + 1) % a0.size < a0.size := Nat.mod_lt _ (by omega)
              have hmz : (((i + 1) % a0.size : Nat) : Int) = ((i : Int) + 1) % n := by rw [en]; simp
              have hmt : Int.tmod ((i : Int) + 1) n = (((i + 1) % a0.size : Nat) : Int) := by rw [hmz, Int.tmod_eq_emod_of_nonneg (by omega)]
              have hw1 : IntKind.i64.wrap ((i : Int) + 1) = (i : Int) + 1 := (i64_w _).trans (by have := HN.out; unfold wrap64; omega)
              obtain ⟨hcx, hfx⟩ := Kd.R_celln 0 HO.out (((i + 1) % a0.size : Nat) : Int) (by omega) (by omega)
              have HP := Aside0.mk (Kd.R_putg HO.out (((i + 1) % a0.size : Nat) : Int) (Int.tmod (wrap64 (rd o (i : Int) + 1)) n))
              obtain ⟨ad, ea, hcy⟩ := Kd.at_int (Kd.R_reads' HA.out).2.2 (i : Int) (by omega) (by omega)
              cases ea
              rw [Int.toNat_natCast] at hcx hfx hcy
              have pj : (0 ≤ (i : Int)) = True := eq_true (by omega)
              have q12 : ((i : Int) < (o.length : Int)) = True := eq_true (by omega)
              have q12' : (i < o.length) = True := eq_true (by omega)
              have nz : (n == 0) = false := beq_eq_false_iff_ne.2 (by omega)
              have nz2 : (n = 0) = False := eq_false (by omega)
              have hmz2 := hmz.symm
              have hww := i64_w (rd o (i : Int) + 1)
              have HD1 := Aside0.mk d1
              have HIB : i ≤ 1000000 := by have := HN.out; omega
              have pm : (0 ≤ (((i + 1) % a0.size : Nat) : Int)) = True := eq_true (by omega)
              have qm : ((((i + 1) % a0.size : Nat) : Int) < ((turned o a0.size i).length : Int)) = True := eq_true (by omega)
              have qm' : ((i + 1) % a0.size < (turned o a0.size i).length) = True := eq_true (by omega)
              have HT := Aside0.mk (show turned o a0.size (i + 1) = (turned o a0.size i).set ((i + 1) % a0.size) (Int.tmod (wrap64 (rd o (i : Int) + 1)) n) by rw [en]; rfl)
              have GB := Aside0.mk gb
              generalize (i + 1) % a0.size = m at hmz2 hmt hcx hfx HP pm qm qm' HT
              rw [Int.toNat_natCast] at HP
              clear hmz hm d1 hlen en HG gb hol
              obtain ⟨k2, hk2⟩ : ∃ m, gk = m + 1 := ⟨gk - 1, by have := E1.out; have := E2.out; omega⟩
              subst hk2
              go_wp2
              go_still_tail 10, (by kernel_rfl)
              change wpList _ _ _ _ _ wr.drew
              go_wp2
              go_roundg k2
              case measure => have := E1.out; omega
              case rel =>
                refine ⟨i + 1, by (try simp only [Int.natCast_add]); rfl, ⟨by have := E1.out; omega⟩, ⟨by have := HD1.out; omega⟩, ⟨?_⟩, ⟨?_⟩, ⟨?_⟩⟩
                · exact Kd.R_drew (Kd.R_far (p := ⟨go, m, none⟩) HA.out (fun k_ hk => by have := GB.out; simp at hk ⊢; omega) _)
                · rw [HT.out]; exact HP.out.1
                · exact below_drew (HB.out.setCell (p := ⟨go, m, none⟩) (Nat.le_trans HG4.out GB.out) _)
            · have d1b : decide ((i : Int) < (o.length : Int)) = false := decide_eq_false (by omega)
              have d1b' : decide (i < o.length) = false := decide_eq_false (by omega)
              have ei : i = a0.size := by have := E2.out; omega
              subst ei
              clear d1 E1 E2 hlen en hol
              generalize turned o a0.size a0.size = L at HO HCALL2
              obtain ⟨Ao, co, eo⟩ := Kd.R_slice HO.out
              subst eo
              have HC2 := Aside0.mk (HCALL2.out Ao co wr (Kd.R_reads' HO.out).2.2 (by have := (Kd.R_reads' HO.out).2.1; omega))
              clear HCALL2
              go_wp2_with fail
              refine HC2.out.mono ?_
              rintro e w5 ⟨rfl, hb⟩
              have HB5 := Aside0.mk (HB.out.trans (hb.mono (below_size HB.out)))
              clear HC2 hb
              go_wp2
              go_ret2
              exact ⟨rfl, HB5.out⟩
        · rw [if_neg hn] at h
          cases h
      · rw [if_neg hol] at h
        cases h
    · rw [if_neg hn0] at h
      cases h
end Go.Proofs.Ytopcnhppbmmbbaa.Hand
