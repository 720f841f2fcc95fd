/- The contracts of impl.system and of impl.TurnSystem, each as a plain function tells it. No condition. -/
import Derived.Test.YtaifdpndbffhiaaHandText
import Derived.Test.YtaifdpndbffhiaaHandP
namespace Go.Proofs.Ytaifdpndbffhiaa.Hand
open Go.RowKit Go.Proofs.YtaifdpndbffhiaaW.PrintWords Go.Proofs.YtaifdpndbffhiaaW.PrintLast Go.Proofs.YtaifdpndbffhiaaW.PrintMore
set_option linter.unusedVariables false
set_option linter.unusedSimpArgs false

theorem infoI64_ : (Try.prog.info? 3).map (fun i => (i.zero, i.size, i.bytes)) = some (some (.int .i64 0), 1, 8) := by kernel_rfl
/-- impl.system in plain words. -/
def impl_system.f (k : Nat) (l : List Int) : Option (ByteArray × Bool) := if l.length ≤ 1000000 then ((impl_partners.f k (strOfNums (signs l l.length))).bind fun A => if A.2 = true then ((slices_Equal_int_int.f k A.1 l).bind fun t => some (strOfNums (signs l l.length), t)) else some (strOfNums (signs l l.length), false)) else none
theorem impl_system.mono : ∀ a0 k, LeO (impl_system.f k a0) (impl_system.f (k + 1) a0) := by
  intro a0 k
  unfold impl_system.f
  exact LeO.ite (LeO.bind (impl_partners.mono _ k) (fun _ => LeO.ite (LeO.bind (slices_Equal_int_int.mono _ _ k) (fun _ => LeO.refl _)) (LeO.refl _))) (LeO.refl _)
set_option maxHeartbeats 8000000 in
set_option maxRecDepth 100000 in
theorem impl_system.calls (k : Nat) (A0 : Option Addr) (c0 : Nat) (l0 : List Int) (r1 : ByteArray) (r2 : Bool) (w : World) (hr0 : Kd.C (Kd.int .i64) w A0 l0.length l0) (hc0 : l0.length ≤ c0) (h : impl_system.f k l0 = some (r1, r2)) :
    Calls Try.prog 13 #[.slice A0 l0.length c0] w fun e w' => e = .returned (.tuple #[.string r1, .bool r2]) ∧ Below w.heap.size w w' := by
  unfold impl_system.f at h
  by_cases hn : l0.length ≤ 1000000
  · rw [if_pos hn] at h
    obtain ⟨⟨o, b⟩, h1, h⟩ := Option.bind_eq_some_iff.1 h
    have HCALL := Aside0.mk (fun W => impl_partners.calls k _ o b W h1)
    have HR := Aside0.mk hr0
    have HN := Aside0.mk hn
    have HQ := Aside0.mk h
    have HC0 := Aside0.mk hc0
    clear h h1 hr0 hn hc0
    go_enter Try.func13, Try.ntmps13
    go_wp2
    go_loopg [4, 12] (l0.length + 1) (fun kq v4 v12 w' => ∃ (i : Nat), v12 = .int .i64 (i : Int) ∧ Aside0 (kq + i = l0.length + 1) ∧ Aside0 (i ≤ l0.length) ∧ Aside0 (Kd.R (Kd.int .u8) 5 w' w.heap.size (fun _ => True) v4 (signs l0 i)) ∧ Aside0 (Below w.heap.size w w'))
    case atStart =>
      refine ⟨0, rfl, ⟨rfl⟩, ⟨Nat.zero_le _⟩, ⟨?_⟩, ⟨(Below.refl _ w).alloc (Nat.le_refl _) _⟩⟩
      rw [show signs l0 0 = [] from rfl]
      refine ⟨fun k hk => trivial, [], ?_, Reps.none _ _⟩
      exact ⟨by simp [signs], .inr ⟨w.heap.size, 0, #[], rfl, Nat.le_refl _, heap_alloc_new w _, Nat.le_refl _, by unfold maxLen; omega, by simp, by simp⟩⟩
    case round =>
      obtain ⟨i, rfl, E1, E2, HO, HB⟩ := hrel
      by_cases d1 : i < l0.length
      · have d1b : decide ((i : Int) < (l0.length : Int)) = true := decide_eq_true (by omega)
        have d1b' : decide (i < l0.length) = true := decide_eq_true d1
        obtain ⟨ad, ea, hx⟩ := Kd.at_int (Kd.C_below HR.out HB.out) (i : Int) (by omega) (by omega)
        cases ea
        rw [Int.toNat_natCast] at hx
        have hs := signs_succ l0 i
        have hl := signs_len l0 i
        have pj : (0 ≤ (i : Int)) = True := eq_true (by omega)
        have qj : ((i : Int) < (l0.length : Int)) = True := eq_true (by omega)
        have qj' : (i < l0.length) = True := eq_true d1
        have HJ : i ≤ 1000000 := by have := HN.out; omega
        have HD1 := Aside0.mk d1
        cases gk with
        | zero => exact absurd E1.out (by have := E2.out; omega)
        | succ k2 =>
          by_cases d2 : rd l0 (i : Int) > (i : Int)
          · rw [if_pos d2] at hs
            have d2b : decide ((i : Int) < rd l0 (i : Int)) = true := decide_eq_true d2
            have HS := Aside0.mk hs
            have HLL := Aside0.mk hl
            clear hs d2 d1 hl
            go_wp2_with (first | ((with_reducible refine gate_builtin (b := .append) (xs := #[.tmp 20, .tmp 21]) rfl ?_); at_builtin; refine Kd.R_append (Kd.int .u8) (w0 := w) w.heap.size rfl (.tmp 20) (.tmp 21) 39 5 (.int .u8 0) 1 rfl Try.underlying39 infoU8 rfl (by decide) (by omega) u4 (signs l0 i) 40 [.int .u8 40] (fun _ => True) (fun _ => False) rfl rfl ?aP (fun _ hk => hk.elim) ?aF ?aO ?aB ?aS ?aL ?_; (case aP => exact rfl); (case aB => exact HB.out); (case aF => exact fun _ _ => trivial); (case aO => exact HO.out); (case aS => exact below_size HB.out); (case aL => have := HLL.out; have := HN.out; have := HD1.out; omega); intro v108 w14 ho hb hg hat; rw [← HS.out] at ho; have n1_ := Aside0.mk ho; have n2_ := Aside0.mk hb; clear HO HB ho hb hg hat))
            go_roundg k2
            case measure => have := E1.out; omega
            case rel => exact ⟨i + 1, by (try simp only [Int.natCast_add]); rfl, ⟨by have := E1.out; omega⟩, ⟨by have := HD1.out; omega⟩, n1_, n2_⟩
          · rw [if_neg d2] at hs
            have d2b : decide ((i : Int) < rd l0 (i : Int)) = false := decide_eq_false d2
            have HS := Aside0.mk hs
            have HLL := Aside0.mk hl
            clear hs d2 d1 hl
            go_wp2_with (first | ((with_reducible refine gate_builtin (b := .append) (xs := #[.tmp 23, .tmp 24]) rfl ?_); at_builtin; refine Kd.R_append (Kd.int .u8) (w0 := w) w.heap.size rfl (.tmp 23) (.tmp 24) 39 5 (.int .u8 0) 1 rfl Try.underlying39 infoU8 rfl (by decide) (by omega) u4 (signs l0 i) 41 [.int .u8 41] (fun _ => True) (fun _ => False) rfl rfl ?aP (fun _ hk => hk.elim) ?aF ?aO ?aB ?aS ?aL ?_; (case aP => exact rfl); (case aB => exact HB.out); (case aF => exact fun _ _ => trivial); (case aO => exact HO.out); (case aS => exact below_size HB.out); (case aL => have := HLL.out; have := HN.out; have := HD1.out; omega); intro v108 w14 ho hb hg hat; rw [← HS.out] at ho; have n1_ := Aside0.mk ho; have n2_ := Aside0.mk hb; clear HO HB ho hb hg hat))
            go_roundg k2
            case measure => have := E1.out; omega
            case rel => exact ⟨i + 1, by (try simp only [Int.natCast_add]); rfl, ⟨by have := E1.out; omega⟩, ⟨by have := HD1.out; omega⟩, n1_, n2_⟩
      · have d1b : decide ((i : Int) < (l0.length : Int)) = false := decide_eq_false (by omega)
        have d1b' : decide (i < l0.length) = false := decide_eq_false d1
        have ei : i = l0.length := by have := E2.out; omega
        subst ei
        clear d1 E1 E2
        have hcv := own_string (P := Try.prog) Try.underlying39 Try.underlying5 Try.underlying9 (Kd.own_of_R HO.out)
        go_wp2_with fail
        refine (HCALL.out _).mono ?_
        rintro e w1 ⟨v1, rfl, hp, hb⟩
        have HO1 := Aside0.mk (Kd.R_below HO.out hb)
        have HB1 := Aside0.mk (HB.out.trans (hb.mono (below_size HB.out)))
        have HP1 := Aside0.mk hp
        have hcq : ∀ q, (convert 39 9 u4).run Try.prog (w1.drewN q) = .ok (.string (strOfNums (signs l0 l0.length))) (w1.drewN q) := fun q => own_string (P := Try.prog) Try.underlying39 Try.underlying5 Try.underlying9 (Kd.own_of_R (Kd.R_drewN HO1.out q))
        have hcw := own_string (P := Try.prog) Try.underlying39 Try.underlying5 Try.underlying9 (Kd.own_of_R HO1.out)
        clear HCALL hb hcv d1b d1b' HO HB hp
        obtain ⟨Ao, co, eo⟩ := Kd.R_slice HP1.out
        subst eo
        have hq := HQ.out
        cases b with
        | false =>
          rw [if_neg (by simp)] at hq
          simp only [Option.some.injEq, Prod.mk.injEq] at hq
          obtain ⟨rfl, rfl⟩ := hq
          go_wp2
          go_quiet (fail)
          go_wp2
          go_ret2
          exact ⟨rfl, pw_below_drewN HB1.out _⟩
        | true =>
          rw [if_pos rfl] at hq
          obtain ⟨tq, h2, hq⟩ := Option.bind_eq_some_iff.1 hq
          simp only [Option.some.injEq, Prod.mk.injEq] at hq
          obtain ⟨rfl, rfl⟩ := hq
          have HC2 := Aside0.mk (fun q => slices_Equal_int_int.calls k Ao co o A0 c0 l0 tq (w1.drewN q) (Kd.C_drewN (Kd.R_reads' HP1.out).2.2 q) (Kd.R_reads' HP1.out).2.1 (Kd.C_drewN (Kd.C_below HR.out HB1.out) q) HC0.out h2)
          go_wp2
          go_quiet ((go_at_call 19; exact Calls.quiet_of ((HC2.out _).mono fun _ _ h_ => ⟨h_.1, h_.2.out⟩)))
          go_wp2
          go_ret2
          exact ⟨rfl, pw_below_drewN HB1.out _⟩
  · rw [if_neg hn] at h
    cases h
end Go.Proofs.Ytaifdpndbffhiaa.Hand
