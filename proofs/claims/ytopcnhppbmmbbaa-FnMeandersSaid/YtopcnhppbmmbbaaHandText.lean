/- The contracts of spec.l08Text and of spec.TurnSystem, each as a plain function tells it. No condition. -/
import Derived.Test.YtopcnhppbmmbbaaHandArcs
import Derived.StillTailTactics
import Derived.IntWalk
namespace Go.Proofs.Ytopcnhppbmmbbaa.Hand
open Go.RowKit Go.Proofs.YtopcnhppbmmbbaaW.PrintWords Go.Proofs.YtopcnhppbmmbbaaW.PrintLast Go.Proofs.YtopcnhppbmmbbaaW.PrintMore
set_option linter.unusedVariables false
set_option linter.unusedSimpArgs false

theorem infoU8 : (Try.prog.info? 5).map (fun i => (i.zero, i.size, i.bytes)) = some (some (.int .u8 0), 1, 1) := by kernel_rfl
/-- The first i letters of the text of joined places. -/
def signs (l : List Int) (i : Nat) : List Int := (List.range i).map (fun (j : Nat) => if rd l (j : Int) > (j : Int) then 40 else 41)
theorem signs_succ (l : List Int) (i : Nat) : signs l (i + 1) = signs l i ++ [if rd l (i : Int) > (i : Int) then 40 else 41] := by
  unfold signs
  rw [List.range_succ, List.map_append]
  rfl
theorem signs_len (l : List Int) (i : Nat) : (signs l i).length = i := by unfold signs; rw [List.length_map, List.length_range]
/-- The first i places of both are the same. -/
def alike (o l : List Int) (i : Nat) : Bool := (List.range i).all (fun (j : Nat) => rd o (j : Int) == rd l (j : Int))
theorem alike_succ (o l : List Int) (i : Nat) : alike o l (i + 1) = (alike o l i && (rd o (i : Int) == rd l (i : Int))) := by
  unfold alike
  rw [List.range_succ, List.all_append]
  simp
theorem alike_false {o l : List Int} {i n : Nat} (h : i ≤ n) (hf : alike o l i = false) : alike o l n = false := by
  induction n with
  | zero => obtain rfl : i = 0 := by omega
            exact hf
  | succ n ih =>
    by_cases e : i = n + 1
    · rw [← e]; exact hf
    · rw [alike_succ, ih (by omega)]; rfl
/-- spec.l08Text in plain words. -/
def spec_l08Text.f (k : Nat) (l : List Int) : Option (ByteArray × Bool) := if l.length ≤ 1000000 then ((spec_l08Arcs.f k (strOfNums (signs l l.length))).bind fun A => if A.2 = true then (if l.length ≤ 12 then some (strOfNums (signs l l.length), alike A.1 l l.length) else none) else some (strOfNums (signs l l.length), false)) else none
theorem spec_l08Text.mono : ∀ a0 k, LeO (spec_l08Text.f k a0) (spec_l08Text.f (k + 1) a0) := by
  intro a0 k
  unfold spec_l08Text.f
  exact LeO.ite (LeO.bind (spec_l08Arcs.mono _ k) (fun _ => LeO.refl _)) (LeO.refl _)
set_option maxHeartbeats 8000000 in
set_option maxRecDepth 100000 in
theorem spec_l08Text.calls (k : Nat) (A0 : Option Addr) (c0 : Nat) (l0 : List Int) (r1 : ByteArray) (r2 : Bool) (w : World) (hr0 : Kd.C (Kd.int .i64) w A0 l0.length l0) (hc0 : l0.length ≤ c0) (h : spec_l08Text.f k l0 = some (r1, r2)) :
    Calls Try.prog 40 #[.slice A0 l0.length c0] w fun e w' => e = .returned (.tuple #[.string r1, .bool r2]) ∧ Below w.heap.size w w' := by
  unfold spec_l08Text.f at h
  by_cases hn : l0.length ≤ 1000000
  · rw [if_pos hn] at h
    obtain ⟨⟨o, b⟩, h1, h⟩ := Option.bind_eq_some_iff.1 h
    have HCALL := Aside0.mk (fun W => spec_l08Arcs.calls k _ o b W h1)
    have HL := Aside0.mk (spec_l08Arcs.len h1)
    have HR := Aside0.mk hr0
    have HN := Aside0.mk hn
    have HQ := Aside0.mk h
    have HI := Aside0.mk (show (Try.prog.info? 49).map (·.size) = some (enc o).toArray.size by rw [encSize HL.out]; kernel_rfl)
    clear h h1 hr0 hn hc0
    go_enter Try.func40, Try.ntmps40
    go_wp2
    go_loopg [4, 5] (l0.length + 1) (fun kq v4 v5 w' => ∃ (i : Nat), v5 = .int .i64 (i : Int) ∧ Aside0 (kq + i = l0.length + 1) ∧ Aside0 (i ≤ l0.length) ∧ Aside0 (Kd.R (Kd.int .u8) 5 w' w.heap.size (fun _ => True) v4 (signs l0 i)) ∧ Aside0 (Below w.heap.size w w'))
    case atStart =>
      refine ⟨0, rfl, ⟨rfl⟩, ⟨Nat.zero_le _⟩, ⟨?_⟩, ⟨(Below.refl _ w).alloc (Nat.le_refl _) _⟩⟩
      rw [show signs l0 0 = [] from rfl]
      refine ⟨fun k hk => trivial, [], ?_, Reps.none _ _⟩
      exact ⟨by simp [signs], .inr ⟨w.heap.size, 0, #[], rfl, Nat.le_refl _, heap_alloc_new w _, Nat.le_refl _, by unfold maxLen; omega, by simp, by simp⟩⟩
    case round =>
      obtain ⟨i, rfl, E1, E2, HO, HB⟩ := hrel
      by_cases d1 : i < l0.length
      · have d1b : decide ((i : Int) < (l0.length : Int)) = true := decide_eq_true (by omega)
        have d1b' : decide (i < l0.length) = true := decide_eq_true d1
        obtain ⟨ad, ea, hx⟩ := Kd.at_int (Kd.C_below HR.out HB.out) (i : Int) (by omega) (by omega)
        cases ea
        rw [Int.toNat_natCast] at hx
        have hs := signs_succ l0 i
        have hl := signs_len l0 i
        have pj : (0 ≤ (i : Int)) = True := eq_true (by omega)
        have qj : ((i : Int) < (l0.length : Int)) = True := eq_true (by omega)
        have qj' : (i < l0.length) = True := eq_true d1
        have HJ : i ≤ 1000000 := by have := HN.out; omega
        have HD1 := Aside0.mk d1
        cases gk with
        | zero => exact absurd E1.out (by have := E2.out; omega)
        | succ k2 =>
          by_cases d2 : rd l0 (i : Int) > (i : Int)
          · rw [if_pos d2] at hs
            have d2b : decide ((i : Int) < rd l0 (i : Int)) = true := decide_eq_true d2
            have HS := Aside0.mk hs
            have HLL := Aside0.mk hl
            clear hs d2 d1 hl
            go_wp2_with (first | ((with_reducible refine gate_builtin (b := .append) (xs := #[.tmp 22, .tmp 23]) rfl ?_); at_builtin; refine Kd.R_append (Kd.int .u8) (w0 := w) w.heap.size rfl (.tmp 22) (.tmp 23) 22 5 (.int .u8 0) 1 rfl Try.underlying22 infoU8 rfl (by decide) (by omega) u4 (signs l0 i) 40 [.int .u8 40] (fun _ => True) (fun _ => False) rfl rfl ?aP (fun _ hk => hk.elim) ?aF ?aO ?aB ?aS ?aL ?_; (case aP => exact rfl); (case aB => exact HB.out); (case aF => exact fun _ _ => trivial); (case aO => exact HO.out); (case aS => exact below_size HB.out); (case aL => have := HLL.out; have := HN.out; have := HD1.out; omega); intro v108 w14 ho hb hg hat; rw [← HS.out] at ho; have n1_ := Aside0.mk ho; have n2_ := Aside0.mk hb; clear HO HB ho hb hg hat))
            go_roundg k2
            case measure => have := E1.out; omega
            case rel => exact ⟨i + 1, by (try simp only [Int.natCast_add]); rfl, ⟨by have := E1.out; omega⟩, ⟨by have := HD1.out; omega⟩, n1_, n2_⟩
          · rw [if_neg d2] at hs
            have d2b : decide ((i : Int) < rd l0 (i : Int)) = false := decide_eq_false d2
            have HS := Aside0.mk hs
            have HLL := Aside0.mk hl
            clear hs d2 d1 hl
            go_wp2_with (first | ((with_reducible refine gate_builtin (b := .append) (xs := #[.tmp 25, .tmp 26]) rfl ?_); at_builtin; refine Kd.R_append (Kd.int .u8) (w0 := w) w.heap.size rfl (.tmp 25) (.tmp 26) 22 5 (.int .u8 0) 1 rfl Try.underlying22 infoU8 rfl (by decide) (by omega) u4 (signs l0 i) 41 [.int .u8 41] (fun _ => True) (fun _ => False) rfl rfl ?aP (fun _ hk => hk.elim) ?aF ?aO ?aB ?aS ?aL ?_; (case aP => exact rfl); (case aB => exact HB.out); (case aF => exact fun _ _ => trivial); (case aO => exact HO.out); (case aS => exact below_size HB.out); (case aL => have := HLL.out; have := HN.out; have := HD1.out; omega); intro v108 w14 ho hb hg hat; rw [← HS.out] at ho; have n1_ := Aside0.mk ho; have n2_ := Aside0.mk hb; clear HO HB ho hb hg hat))
            go_roundg k2
            case measure => have := E1.out; omega
            case rel => exact ⟨i + 1, by (try simp only [Int.natCast_add]); rfl, ⟨by have := E1.out; omega⟩, ⟨by have := HD1.out; omega⟩, n1_, n2_⟩
      · have d1b : decide ((i : Int) < (l0.length : Int)) = false := decide_eq_false (by omega)
        have d1b' : decide (i < l0.length) = false := decide_eq_false d1
        have ei : i = l0.length := by have := E2.out; omega
        subst ei
        clear d1 E1 E2
        have hcv := own_string (P := Try.prog) Try.underlying22 Try.underlying5 Try.underlying9 (Kd.own_of_R HO.out)
        go_wp2_with fail
        refine (HCALL.out _).mono ?_
        rintro e w1 ⟨rfl, hb⟩
        have HO1 := Aside0.mk (Kd.R_below HO.out hb)
        have HB1 := Aside0.mk (HB.out.trans (hb.mono (below_size HB.out)))
        clear HCALL hb hcv d1b d1b' HO HB
        go_wp2_with (refine wpList_store_row rfl 49 _ _ rfl w1.heap.size (enc o).toArray rfl rfl 49 (enc (List.replicate 12 0)).toArray (Arr.new w1 49 (List.replicate 12 0) _ zeros12) HI.out (by rw [encSize HL.out]; rfl) (enc_one _) ?_)
        have HA2 := Aside0.mk ((Arr.new w1 49 (List.replicate 12 0) #[.int .i64 0, .int .i64 0, .int .i64 0, .int .i64 0, .int .i64 0, .int .i64 0, .int .i64 0, .int .i64 0, .int .i64 0, .int .i64 0, .int .i64 0, .int .i64 0] zeros12).row o)
        have HB2 := Aside0.mk (below_setRow (below_alloc HB1.out (.cells #[.int .i64 0, .int .i64 0, .int .i64 0, .int .i64 0, .int .i64 0, .int .i64 0, .int .i64 0, .int .i64 0, .int .i64 0, .int .i64 0, .int .i64 0, .int .i64 0] 49)) (below_size HB1.out) (enc o).toArray)
        have HO2 := Aside0.mk (Kd.R_step (w1 := (w1.alloc (.cells #[.int .i64 0, .int .i64 0, .int .i64 0, .int .i64 0, .int .i64 0, .int .i64 0, .int .i64 0, .int .i64 0, .int .i64 0, .int .i64 0, .int .i64 0, .int .i64 0] 49)).setRow w1.heap.size (enc o).toArray) HO1.out (fun k_ _ hk => by rw [setRow_other _ _ _ _ (by omega), Below.heap_alloc _ _ _ hk]))
        clear HO1 HB1
        go_loopg [7, 8] (l0.length + 1) (fun kq v7 v8 w' => ∃ (i : Nat) (okc : Bool), v7 = .bool okc ∧ v8 = .int .i64 (i : Int) ∧ Aside0 (kq + i = l0.length + 1) ∧ Aside0 (i ≤ l0.length) ∧ Aside0 (okc = (b && alike o l0 i)) ∧ Aside0 (Arr w' w1.heap.size 49 o) ∧ Aside0 (Kd.R (Kd.int .u8) 5 w' w.heap.size (fun _ => True) u4 (signs l0 l0.length)) ∧ Aside0 (Below w.heap.size w w'))
        case atStart => exact ⟨0, b, rfl, rfl, ⟨rfl⟩, ⟨Nat.zero_le _⟩, ⟨by simp [alike]⟩, HA2, HO2, HB2⟩
        case round =>
          clear HA2 HO2 HB2
          obtain ⟨i, okc, rfl, rfl, E1, E2, E3, HA, HO, HB⟩ := hrel
          by_cases d1 : i < l0.length
          · have d1b : decide ((i : Int) < (l0.length : Int)) = true := decide_eq_true (by omega)
            have d1b' : decide (i < l0.length) = true := decide_eq_true d1
            cases okc with
            | true =>
              have hbt : b = true := by have := E3.out; cases b <;> simp at this ⊢
              subst hbt
              have hq := HQ.out
              rw [if_pos rfl] at hq
              by_cases h12 : l0.length ≤ 12
              · have E4 := Aside0.mk (alike_succ o l0 i)
                obtain ⟨ad, ea, hx⟩ := Kd.at_int (Kd.C_below HR.out HB.out) (i : Int) (by omega) (by omega)
                cases ea
                have hy := HA.out.cell (i : Int) (by omega) (by have := HL.out; omega)
                rw [Int.toNat_natCast] at hx hy
                have pj : (0 ≤ (i : Int)) = True := eq_true (by omega)
                have qj : ((i : Int) < (l0.length : Int)) = True := eq_true (by omega)
                have qj' : (i < l0.length) = True := eq_true d1
                have q12 : ((i : Int) < 12) = True := eq_true (by omega)
                have HD1 := Aside0.mk d1
                have H12 := Aside0.mk h12
                have HJ : i ≤ 1000000 := by omega
                clear hq d1 h12
                cases gk with
                | zero => exact absurd E1.out (by have := E2.out; omega)
                | succ k2 =>
                  go_wp2
                  go_quiet (fail)
                  go_wp2
                  go_roundg k2
                  case measure => have := E1.out; omega
                  case rel => exact ⟨i + 1, (rd o (i : Int) == rd l0 (i : Int)), rfl, by (try simp only [Int.natCast_add]); rfl, ⟨by have := E1.out; omega⟩, ⟨by have := HD1.out; omega⟩, ⟨by have := E3.out; rw [E4.out]; simp at this; rw [this]; simp⟩, ⟨HA.out.drewN _⟩, ⟨Kd.R_drewN HO.out _⟩, ⟨pw_below_drewN HB.out _⟩⟩
              · rw [if_neg h12] at hq
                cases hq
            | false =>
              have hq := HQ.out
              have e3 := E3.out
              have hfin : r1 = strOfNums (signs l0 l0.length) ∧ r2 = false := by
                cases b with
                | false => rw [if_neg (by simp)] at hq; cases hq; exact ⟨rfl, rfl⟩
                | true =>
                  rw [if_pos rfl] at hq
                  by_cases h12 : l0.length ≤ 12
                  · rw [if_pos h12] at hq
                    cases hq
                    exact ⟨rfl, alike_false (i := i) (by have := E2.out; omega) (by simpa using e3.symm)⟩
                  · rw [if_neg h12] at hq; cases hq
              obtain ⟨rfl, rfl⟩ := hfin
              clear hq e3 d1
              have hcv := own_string (P := Try.prog) Try.underlying22 Try.underlying5 Try.underlying9 (Kd.own_of_R HO.out)
              go_wp2
              go_ret2
              exact ⟨rfl, HB.out⟩
          · have d1b : decide ((i : Int) < (l0.length : Int)) = false := decide_eq_false (by omega)
            have d1b' : decide (i < l0.length) = false := decide_eq_false d1
            have ei : i = l0.length := by have := E2.out; omega
            subst ei
            have hq := HQ.out
            have e3 := E3.out
            have hfin : r1 = strOfNums (signs l0 l0.length) ∧ r2 = okc := by
              cases b with
              | false => rw [if_neg (by simp)] at hq; cases hq; rw [e3]; exact ⟨rfl, rfl⟩
              | true =>
                rw [if_pos rfl] at hq
                by_cases h12 : l0.length ≤ 12
                · rw [if_pos h12] at hq
                  cases hq
                  rw [e3]
                  exact ⟨rfl, by simp⟩
                · rw [if_neg h12] at hq; cases hq
            obtain ⟨rfl, rfl⟩ := hfin
            clear hq e3 d1
            have hcv := own_string (P := Try.prog) Try.underlying22 Try.underlying5 Try.underlying9 (Kd.own_of_R HO.out)
            go_wp2
            go_ret2
            exact ⟨rfl, HB.out⟩
  · rw [if_neg hn] at h
    cases h
/-- The joined places of a text, turned, after i rounds. -/
def turned (o : List Int) (n : Nat) : Nat → List Int
  | 0 => List.replicate n 0
  | i + 1 => (turned o n i).set ((i + 1) % n) (Int.tmod (wrap64 (rd o (i : Int) + 1)) (n : Int))
theorem turned_len (o : List Int) (n i : Nat) : (turned o n i).length = n := by
  induction i with
  | zero => simp [turned]
  | succ i ih => simp only [turned]; rw [List.length_set]; exact ih
/-- spec.TurnSystem in plain words. -/
def spec_TurnSystem.f (k : Nat) (a0 : ByteArray) : Option (ByteArray × Int) := (spec_l08Arcs.f k a0).bind fun A => if A.2 = true then (if 0 < a0.size then (if a0.size ≤ 12 then ((spec_l08Text.f k (turned A.1 a0.size a0.size)).bind fun t => some (t.1, 0)) else none) else none) else some ((⟨#[]⟩ : ByteArray), 1)
theorem spec_TurnSystem.mono : ∀ a0 k, LeO (spec_TurnSystem.f k a0) (spec_TurnSystem.f (k + 1) a0) := by
  intro a0 k
  unfold spec_TurnSystem.f
  exact LeO.bind (spec_l08Arcs.mono _ k) (fun _ => LeO.ite (LeO.ite (LeO.ite (LeO.bind (spec_l08Text.mono _ k) (fun _ => LeO.refl _)) (LeO.refl _)) (LeO.refl _)) (LeO.refl _))
set_option maxHeartbeats 8000000 in
set_option maxRecDepth 100000 in
theorem spec_TurnSystem.calls (k : Nat) (a0 : ByteArray) (r1 : ByteArray) (r2 : Int) (w : World) (h : spec_TurnSystem.f k a0 = some (r1, r2)) :
    Calls Try.prog 18 #[.string a0] w fun e w' => e = .returned (.tuple #[.string r1, .int .i64 r2]) ∧ Below w.heap.size w w' := by
  unfold spec_TurnSystem.f at h
  obtain ⟨⟨o, b⟩, h1, h⟩ := Option.bind_eq_some_iff.1 h
  have HCALL := Aside0.mk (spec_l08Arcs.calls k a0 o b w h1)
  have HL := Aside0.mk (spec_l08Arcs.len h1)
  have HI := Aside0.mk (show (Try.prog.info? 49).map (·.size) = some (enc o).toArray.size by rw [encSize HL.out]; kernel_rfl)
  clear h1
  cases b with
  | false =>
    rw [if_neg (by simp)] at h
    simp only [Option.some.injEq, Prod.mk.injEq] at h
    obtain ⟨rfl, rfl⟩ := h
    go_enter Try.func18, Try.ntmps18
    go_wp2_with fail
    refine HCALL.out.mono ?_
    rintro e w1 ⟨rfl, hb⟩
    have HB1 := Aside0.mk hb
    clear HCALL hb
    go_wp2_with (refine wpList_store_row rfl 49 _ _ rfl w1.heap.size (enc o).toArray rfl rfl 49 (enc (List.replicate 12 0)).toArray (Arr.new w1 49 (List.replicate 12 0) _ zeros12) HI.out (by rw [encSize HL.out]; rfl) (enc_one _) ?_)
    go_ret2
    exact ⟨rfl, below_setRow (below_alloc HB1.out _) (below_size HB1.out) _⟩
  | true =>
    rw [if_pos rfl] at h
    by_cases hn0 : 0 < a0.size
    · rw [if_pos hn0] at h
      by_cases hn : a0.size ≤ 12
      · rw [if_pos hn] at h
        obtain ⟨⟨s, t⟩, h2, h⟩ := Option.bind_eq_some_iff.1 h
        simp only [Option.some.injEq, Prod.mk.injEq] at h
        obtain ⟨rfl, rfl⟩ := h
        have HCALL2 := Aside0.mk (fun (A : Option Addr) (c : Nat) (W : World) (hr : Kd.C (Kd.int .i64) W A (turned o a0.size a0.size).length (turned o a0.size a0.size)) (hc : (turned o a0.size a0.size).length ≤ c) => spec_l08Text.calls k A c _ s t W hr hc h2)
        have HN := Aside0.mk hn
        have HN0 := Aside0.mk hn0
        have hp : (0 ≤ (a0.size : Int)) = True := eq_true (by omega)
        clear h2 hn hn0
        go_enter Try.func18, Try.ntmps18
        go_wp2_with fail
        refine HCALL.out.mono ?_
        rintro e w1 ⟨rfl, hb⟩
        have HB1 := Aside0.mk hb
        clear HCALL hb
        have HA2 := Aside0.mk ((Arr.new w1 49 (List.replicate 12 0) #[.int .i64 0, .int .i64 0, .int .i64 0, .int .i64 0, .int .i64 0, .int .i64 0, .int .i64 0, .int .i64 0, .int .i64 0, .int .i64 0, .int .i64 0, .int .i64 0] zeros12).row o)
        have HB2 := Aside0.mk (below_setRow (below_alloc HB1.out (.cells #[.int .i64 0, .int .i64 0, .int .i64 0, .int .i64 0, .int .i64 0, .int .i64 0, .int .i64 0, .int .i64 0, .int .i64 0, .int .i64 0, .int .i64 0, .int .i64 0] 49)) (below_size HB1.out) (enc o).toArray)
        go_wp2_with (first | (refine wpList_store_row rfl 49 _ _ rfl w1.heap.size (enc o).toArray rfl rfl 49 (enc (List.replicate 12 0)).toArray (Arr.new w1 49 (List.replicate 12 0) _ zeros12) HI.out (by rw [encSize HL.out]; rfl) (enc_one _) ?_) | ((with_reducible refine gate_dst (N := 21) rfl ?_); refine Kd.R_make (Kd.int .i64) _ 2 rfl (N := 21) rfl 29 _ _ rfl (a0.size : Int) rfl rfl Try.underlying29 (.int .i64 0) 8 infoI64 rfl (by decide) (by omega) 0 (ok := fun _ => True) (okp := fun _ => True) rfl (fun _ hk => hk) trivial (by omega) (by have := HN.out; omega) HB2.out (below_size HB2.out) ?_; intro v106 w4 ho5 hb hg hnew_))
        have HA4 := Aside0.mk (HA2.out.grown hg (by simp))
        have HO4 := Aside0.mk ho5
        have HB4 := Aside0.mk hb
        have HG4 := Aside0.mk (show w1.heap.size < w4.heap.size from HA4.out.lt)
        clear ho5 hb hg hnew_ HA2 HB2 hp
        generalize hN : (a0.size : Int) = n
        have EN := Aside0.mk hN.symm
        clear hN
        go_loopg [8] (a0.size + 1) (fun kq v8 w' => ∃ (i : Nat), v8 = .int .i64 (i : Int) ∧ Aside0 (kq + i = a0.size + 1) ∧ Aside0 (i ≤ a0.size) ∧ Aside0 (Arr w' w1.heap.size 49 o) ∧ Aside0 (Kd.R (Kd.int .i64) 2 w' w.heap.size (fun _ => True) v106 (turned o a0.size i)) ∧ Aside0 (Below w.heap.size w w'))
        case atStart => exact ⟨0, rfl, ⟨rfl⟩, ⟨Nat.zero_le _⟩, HA4, ⟨by have := HO4.out; simpa [turned] using this⟩, HB4⟩
        case round =>
          clear HA4 HO4 HB4
          obtain ⟨i, rfl, E1, E2, HA, HO, HB⟩ := hrel
          have hlen := turned_len o a0.size i
          have en := EN.out
          by_cases d1 : i < a0.size
          · have d1b : decide ((i : Int) < n) = true := decide_eq_true (by omega)
            obtain ⟨go, co, eo, gb, gl, cl, HG⟩ := Kd.R_form HO.out (by omega)
            subst eo
            have hm : (i + 1) % a0.size < a0.size := Nat.mod_lt _ (by omega)
            have hmz : (((i + 1) % a0.size : Nat) : Int) = ((i : Int) + 1) % n := by rw [en]; simp
            have hmt : Int.tmod ((i : Int) + 1) n = (((i + 1) % a0.size : Nat) : Int) := by rw [hmz, Int.tmod_eq_emod_of_nonneg (by omega)]
            have hw1 : IntKind.i64.wrap ((i : Int) + 1) = (i : Int) + 1 := (i64_w _).trans (by have := HN.out; unfold wrap64; omega)
            obtain ⟨hcx, hfx⟩ := Kd.R_celln 0 HO.out (((i + 1) % a0.size : Nat) : Int) (by omega) (by omega)
            have HP := Aside0.mk (Kd.R_putg HO.out (((i + 1) % a0.size : Nat) : Int) (Int.tmod (wrap64 (rd o (i : Int) + 1)) n))
            have hcy := HA.out.cell (i : Int) (by omega) (by have := HL.out; have := HN.out; omega)
            rw [Int.toNat_natCast] at hcx hfx hcy
            have pj : (0 ≤ (i : Int)) = True := eq_true (by omega)
            have q12 : ((i : Int) < 12) = True := eq_true (by have := HN.out; omega)
            have nz : (n == 0) = false := beq_eq_false_iff_ne.2 (by omega)
            have nz2 : (n = 0) = False := eq_false (by omega)
            have hmz2 := hmz.symm
            have hww := i64_w (rd o (i : Int) + 1)
            have HD1 := Aside0.mk d1
            have pm : (0 ≤ (((i + 1) % a0.size : Nat) : Int)) = True := eq_true (by omega)
            have qm : ((((i + 1) % a0.size : Nat) : Int) < ((turned o a0.size i).length : Int)) = True := eq_true (by omega)
            have HM := Aside0.mk hm
            have HT := Aside0.mk (show turned o a0.size (i + 1) = (turned o a0.size i).set ((i + 1) % a0.size) (Int.tmod (wrap64 (rd o (i : Int) + 1)) n) by rw [en]; rfl)
            have hne : w1.heap.size ≠ go := fun e_ => by
              have := HG
              rw [← e_, HA.out] at this
              cases this
            have HNE := Aside0.mk hne
            have GB := Aside0.mk gb
            generalize (i + 1) % a0.size = m at hmz2 hmt hcx hfx HP pm qm HM HT
            rw [Int.toNat_natCast] at HP
            clear hne HG gb
            clear hmz hm d1 hlen en
            cases gk with
            | zero => exact absurd E1.out (by have := E2.out; omega)
            | succ k2 =>
              go_wp2
              go_still_tail 12, (by kernel_rfl)
              change wpList _ _ _ _ _ wr.drew
              go_wp2
              go_roundg k2
              case measure => have := E1.out; omega
              case rel =>
                refine ⟨i + 1, by (try simp only [Int.natCast_add]); rfl, ⟨by have := E1.out; omega⟩, ⟨by have := HD1.out; omega⟩, ⟨?_⟩, ⟨?_⟩, ⟨?_⟩⟩
                · exact HA.out.far (p := ⟨go, m, none⟩) HNE.out _
                · rw [HT.out]; exact HP.out.1
                · exact below_drew (HB.out.setCell (p := ⟨go, m, none⟩) GB.out _)
          · have d1b : decide ((i : Int) < n) = false := decide_eq_false (by omega)
            have ei : i = a0.size := by have := E2.out; omega
            subst ei
            clear d1 E1 E2 hlen en
            generalize turned o a0.size a0.size = L at HO HCALL2
            obtain ⟨Ao, co, eo⟩ := Kd.R_slice HO.out
            subst eo
            have HC2 := Aside0.mk (HCALL2.out Ao co wr (Kd.R_reads' HO.out).2.2 (by have := (Kd.R_reads' HO.out).2.1; omega))
            clear HCALL2
            go_wp2_with fail
            refine HC2.out.mono ?_
            rintro e w5 ⟨rfl, hb⟩
            have HB5 := Aside0.mk (HB.out.trans (hb.mono (below_size HB.out)))
            clear HC2 hb
            go_wp2
            go_ret2
            exact ⟨rfl, HB5.out⟩
      · rw [if_neg hn] at h
        cases h
    · rw [if_neg hn0] at h
      cases h
end Go.Proofs.Ytopcnhppbmmbbaa.Hand
