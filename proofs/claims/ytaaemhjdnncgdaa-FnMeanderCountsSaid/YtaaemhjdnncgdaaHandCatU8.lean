/- The contracts of slices.Grow (of nothing) and of slices.Concat (of at most three short rows), over bytes. Conditions: as the statements say. -/
import Derived.Test.YtaaemhjdnncgdaaProg
import Derived.Below
import Derived.Deep.Draws
import Derived.Deep.AppendLies
import Derived.Maps.AppendAt
import Derived.OwnWalk
import Derived.Laws.BytesArg
import Derived.Laws.MakeOwn
import Derived.Laws.OwnMore
import Derived.Deep.OwnRows
import Derived.Tactics
import Derived.Lib.ConvBytes
import Derived.Laws.Slices
import Derived.WalkKit
import Derived.KernelRfl
import Derived.RowKit3
import Derived.Deep.LoopGhost
import Derived.Deep.QuietTactic
import Derived.BigQuiet
import Derived.WideLaws
import Derived.Test.YtaaemhjdnncgdaaWWords
import Derived.Test.YtaaemhjdnncgdaaWLast
import Derived.Test.YtaaemhjdnncgdaaWMore
import Derived.Test.YtaaemhjdnncgdaaWZeros
namespace Go.Proofs.Ytaaemhjdnncgdaa.Hand
open Go.RowKit Go.Proofs.YtaaemhjdnncgdaaW.PrintWords Go.Proofs.YtaaemhjdnncgdaaW.PrintLast Go.Proofs.YtaaemhjdnncgdaaW.PrintMore
set_option linter.unusedVariables false
set_option linter.unusedSimpArgs false

theorem infoCat : (Try.prog.info? 5).map (fun i => (i.zero, i.size, i.bytes)) = some (some (.int .u8 0), 1, 1) := by kernel_rfl
set_option maxHeartbeats 8000000 in
set_option maxRecDepth 100000 in
theorem grow_calls (n : Int) (w : World) (h0 : 0 ≤ n) (h1 : n ≤ 1000000) : Calls Try.prog 63 #[.slice none 0 0, .int .i64 n] w fun e w' => ∃ v0_ : Value, e = .returned v0_ ∧ Kd.R (Kd.int .u8) 5 w' w.heap.size (fun _ => True) v0_ [] ∧ Below w.heap.size w w' := by
  obtain ⟨i0, hi0, _, hsz0, _⟩ := info_parts infoCat
  by_cases hn : n = 0
  · subst hn
    go_enter Try.func63, Try.ntmps63
    go_wp2
    go_ret
    exact ⟨_, rfl, Kd.R_nil _ _ _ _ _, Below.refl _ _⟩
  · have h2b : decide (n < 0) = false := decide_eq_false (by omega)
    have h3b : decide (0 < n) = true := decide_eq_true (by omega)
    have hsl := cut_to (P := Try.prog) 25 5 .i64 Try.underlying25 hi0 none 0 0 0 (by omega) (by omega) (by omega)
    have HI := Aside0.mk hi0
    clear hn hi0 hsz0
    go_enter Try.func63, Try.ntmps63
    go_wp2_with (first | ((with_reducible refine gate_builtin (b := .append) (xs := #[.tmp 20, .tmp 21]) rfl ?_); at_builtin; refine Kd.R_append_zeros (Kd.int .u8) (w0 := w) w.heap.size rfl (.tmp 20) (.tmp 21) 25 3 5 (.int .u8 0) 1 rfl Try.underlying25 Try.underlying3 infoCat rfl (by decide) (by decide) (.slice none 0 0) [] 0 n (fun _ => True) rfl rfl rfl (fun _ _ => trivial) (Kd.R_nil _ _ _ _ _) h0 (Below.refl _ _) (Nat.le_refl _) (by simp; omega) ?_; intro v1 w1 ho hb hg hat; have HB := Aside0.mk hb; generalize [] ++ List.replicate n.toNat (0 : Int) = L at ho; obtain ⟨Ao, co, eo⟩ := Kd.R_slice ho; subst eo; have hcut := cut_to (P := Try.prog) 25 5 .i64 Try.underlying25 HI.out Ao L.length co 0 (by omega) (by omega) (Kd.R_reads' ho).2.1; have HO := Aside0.mk (Kd.R_take (m := 0) ho (by omega)); clear ho hb hg hat))
    go_ret
    exact ⟨_, rfl, by simpa using HO.out, HB.out⟩
/-- The rows up to the j-th, one behind the other. -/
def flatTo (Ls : Nat → List Int) (j : Nat) : List Int := (List.range j).flatMap Ls
theorem flatTo_succ (Ls : Nat → List Int) (j : Nat) : flatTo Ls (j + 1) = flatTo Ls j ++ Ls j := by
  unfold flatTo
  rw [List.range_succ, List.flatMap_append]
  simp
theorem flatTo_len (Ls : Nat → List Int) (j : Nat) (h : ∀ i, i < j → (Ls i).length ≤ 100000) : (flatTo Ls j).length ≤ 100000 * j := by
  induction j with
  | zero => simp [flatTo]
  | succ j ih =>
    rw [flatTo_succ, List.length_append]
    have := ih (fun i hi => h i (by omega))
    have := h j (by omega)
    omega
set_option maxHeartbeats 8000000 in
set_option maxRecDepth 100000 in
theorem concat_calls (m : Nat) (As : Nat → Option Addr) (cs : Nat → Nat) (Ls : Nat → List Int) (g : Nat) (w : World) (hm : m ≤ 3) (hl : ∀ j, j < m → (Ls j).length ≤ 100000)
    (hcell : ∀ j, j < m → w.cell? ⟨g, j, none⟩ = some (.slice (As j) (Ls j).length (cs j))) (hC : ∀ j, j < m → Kd.C (Kd.int .u8) w (As j) (Ls j).length (Ls j)) :
    Calls Try.prog 57 #[.slice (some ⟨g, 0, none⟩) m m] w fun e w' => ∃ v0_ : Value, e = .returned v0_ ∧ Kd.R (Kd.int .u8) 5 w' w.heap.size (fun _ => True) v0_ (flatTo Ls m) ∧ Below w.heap.size w w' := by
  have HM := Aside0.mk hm
  have HL := Aside0.mk hl
  have HX := Aside0.mk hcell
  have HC := Aside0.mk hC
  clear hm hl hcell hC
  go_enter Try.func57, Try.ntmps57
  go_wp2
  go_loopg [3, 11] (m + 1) (fun kq v3 v11 w' => ∃ (j : Nat) (S : Int), v3 = .int .i64 S ∧ v11 = .int .i64 (j : Int) ∧ Aside0 (kq + j = m + 1) ∧ Aside0 (j ≤ m) ∧ Aside0 (0 ≤ S ∧ S ≤ 100000 * (j : Int)) ∧ Aside0 (w' = w))
  case atStart => exact ⟨0, 0, rfl, rfl, ⟨rfl⟩, ⟨Nat.zero_le _⟩, ⟨by omega⟩, ⟨rfl⟩⟩
  case round =>
    obtain ⟨j, S, rfl, rfl, E1, E2, ES, EW⟩ := hrel
    have ew := EW.out.symm
    subst ew
    clear EW
    by_cases d1 : j < m
    · have d1b : decide ((j : Int) < (m : Int)) = true := decide_eq_true (by omega)
      have d1b' : decide (j < m) = true := decide_eq_true d1
      have hx := HX.out j d1
      have hl := HL.out j d1
      have pj : (0 ≤ (j : Int)) = True := eq_true (by omega)
      have qj : ((j : Int) < (m : Int)) = True := eq_true (by omega)
      have qj' : (j < m) = True := eq_true d1
      have hs0 : 0 ≤ S := ES.out.1
      have hs1 : S ≤ 300000 := by have := ES.out.2; have := HM.out; omega
      have hs2 : decide (S + ((Ls j).length : Int) < 0) = false := decide_eq_false (by omega)
      have hj : j ≤ 3 := by have := HM.out; omega
      have HD1 := Aside0.mk d1
      have HLJ := Aside0.mk hl
      obtain ⟨k2, hk2⟩ : ∃ m, gk = m + 1 := ⟨gk - 1, by have := E1.out; have := E2.out; omega⟩
      subst hk2
      generalize hA : As j = A at hx
      generalize hB : cs j = c at hx
      generalize hN : (Ls j).length = N at hx hl hs2 HLJ
      clear hA hB hN d1
      go_wp2
      go_roundg k2
      case measure => have := E1.out; omega
      case rel => exact ⟨j + 1, S + (N : Int), rfl, by (try simp only [Int.natCast_add]); rfl, ⟨by have := E1.out; omega⟩, ⟨by have := HD1.out; omega⟩, ⟨by have := ES.out; have := HLJ.out; omega⟩, ⟨rfl⟩⟩
    · have d1b : decide ((j : Int) < (m : Int)) = false := decide_eq_false (by omega)
      have d1b' : decide (j < m) = false := decide_eq_false d1
      have hs0 : 0 ≤ S := ES.out.1
      have hs1 : S ≤ 300000 := by have := ES.out.2; have := HM.out; have := E2.out; omega
      have HG := Aside0.mk (grow_calls S w hs0 (by omega))
      clear d1
      go_wp2_with fail
      refine HG.out.mono ?_
      rintro e w1 ⟨v1, rfl, ho, hb⟩
      have HO1 := Aside0.mk ho
      have HB1 := Aside0.mk hb
      clear HG ho hb d1b d1b' hs0 hs1
      go_wp2
      go_loopg [6, 27] (m + 1) (fun kq v6 v27 w' => ∃ (j : Nat), v27 = .int .i64 (j : Int) ∧ Aside0 (kq + j = m + 1) ∧ Aside0 (j ≤ m) ∧ Aside0 (Kd.R (Kd.int .u8) 5 w' w.heap.size (fun _ => True) v6 (flatTo Ls j)) ∧ Aside0 (Below w.heap.size w w'))
      case atStart => exact ⟨0, rfl, ⟨rfl⟩, ⟨Nat.zero_le _⟩, HO1, HB1⟩
      case round =>
        clear HO1 HB1
        obtain ⟨j, rfl, F1, F2, HO, HB⟩ := hrel
        by_cases d1 : j < m
        · have d1b : decide ((j : Int) < (m : Int)) = true := decide_eq_true (by omega)
          have d1b' : decide (j < m) = true := decide_eq_true d1
          have hx := (HB.out.cell (World.block_lt_of_cell? w _ (HX.out j d1))).trans (HX.out j d1)
          have hl := HL.out j d1
          have pj : (0 ≤ (j : Int)) = True := eq_true (by omega)
          have qj : ((j : Int) < (m : Int)) = True := eq_true (by omega)
          have qj' : (j < m) = True := eq_true d1
          have hj : j ≤ 3 := by have := HM.out; omega
          have HD1 := Aside0.mk d1
          have HCJ := Aside0.mk (Kd.C_below (HC.out j d1) HB.out)
          have HLT := Aside0.mk (show (flatTo Ls j).length + (Ls j).length ≤ 1000000 by have := flatTo_len Ls j (fun i hi => HL.out i (by omega)); omega)
          have HF := Aside0.mk (flatTo_succ Ls j)
          obtain ⟨k2, hk2⟩ : ∃ m, gk = m + 1 := ⟨gk - 1, by have := F1.out; have := F2.out; omega⟩
          subst hk2
          generalize hA : As j = A at hx HCJ
          generalize hB : cs j = c at hx
          generalize hM : Ls j = M at hx HCJ hl HLT HF
          clear hA hB hM d1 hl
          go_wp2_with (first | ((with_reducible refine gate_builtin (b := .append) (xs := #[.tmp 31, .tmp 32]) rfl ?_); at_builtin; refine Kd.R_append_rows (Kd.int .u8) (w0 := w) w.heap.size rfl (.tmp 31) (.tmp 32) 25 5 (.int .u8 0) 1 rfl Try.underlying25 infoCat rfl (by decide) (by omega) u6 (flatTo Ls j) M _ _ _ (fun _ => True) (fun _ => False) rfl rfl ?aO ?aR (fun _ _ h => h) (fun _ h => h.elim) ?aF ?aB ?aS ?aL ?_; (case aO => exact HO.out); (case aR => exact HCJ.out); (case aF => exact fun _ _ => trivial); (case aB => exact HB.out); (case aS => exact below_size HB.out); (case aL => have := HLT.out; omega); intro v2 w2 ho hb hg hat; rw [← HF.out] at ho; have n1_ := Aside0.mk ho; have n2_ := Aside0.mk hb; clear HO HB ho hb hg hat))
          go_roundg k2
          case measure => have := F1.out; omega
          case rel => exact ⟨j + 1, by (try simp only [Int.natCast_add]); rfl, ⟨by have := F1.out; omega⟩, ⟨by have := HD1.out; omega⟩, n1_, n2_⟩
        · have d1b : decide ((j : Int) < (m : Int)) = false := decide_eq_false (by omega)
          have d1b' : decide (j < m) = false := decide_eq_false d1
          have ej : j = m := by have := F2.out; omega
          subst ej
          clear d1
          go_wp2
          go_ret
          exact ⟨_, rfl, HO.out, HB.out⟩
end Go.Proofs.Ytaaemhjdnncgdaa.Hand
