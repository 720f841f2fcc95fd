/- Systems, rainbows, tables and counts, of both sides: plain lemmas, run by the kernel. No condition. -/
import Derived.Test.YtaaemhjdnncgdaaPD
import Derived.Test.YtaaemhjdnncgdaaQx7
namespace Go.Proofs.Ytaaemhjdnncgdaa.PM
open Go.RowKit Go.Proofs.Ytaaemhjdnncgdaa.Q Go.Proofs.Ytaaemhjdnncgdaa.Hand Go.Proofs.YtaaemhjdnncgdaaW.PrintWords Go.Proofs.YtaaemhjdnncgdaaW.PrintLast Go.Proofs.Ytaaemhjdnncgdaa.PA Go.Proofs.Ytaaemhjdnncgdaa.PD
set_option linter.unusedVariables false
set_option linter.unusedSimpArgs false


set_option maxRecDepth 100000
def okS (m : Int) : Bool := match impl_SystemsOf.f m, spec_SystemsOf.f 3000 m with
  | some (L, c), some (L2, c2) => decide (L = L2) && c == c2 && laws_texts9.f 3000 L L == some true
  | _, _ => false
theorem okS1 : okS 1 = true := by decide +kernel
theorem okS2 : okS 2 = true := by decide +kernel
theorem okS3 : okS 3 = true := by decide +kernel
theorem okS4 : okS 4 = true := by decide +kernel
theorem okS5 : okS 5 = true := by decide +kernel
theorem okS6 : okS 6 = true := by decide +kernel

theorem okS_of {m : Int} (h : okS m = true) : ∃ L c, impl_SystemsOf.f m = some (L, c) ∧ EvF (fun k => spec_SystemsOf.f k m) (L, c) ∧ EvF (fun k => laws_texts9.f k L L) true := by
  unfold okS at h
  split at h
  · rename_i L c L2 c2 h1 h2
    simp only [Bool.and_eq_true, beq_iff_eq, decide_eq_true_eq] at h
    obtain ⟨⟨rfl, rfl⟩, h3⟩ := h
    exact ⟨L, c, h1, EvF.of (fun k => spec_SystemsOf.mono _ k) h2, EvF.of (fun k => laws_texts9.mono _ _ k) h3⟩
  · cases h
theorem sysEv (m : Int) : ∃ L c, impl_SystemsOf.f m = some (L, c) ∧ EvF (fun k => spec_SystemsOf.f k m) (L, c) ∧ EvF (fun k => laws_texts9.f k L L) true := by
  by_cases h : 1 ≤ m ∧ m ≤ 6
  · have hm : m = 1 ∨ m = 2 ∨ m = 3 ∨ m = 4 ∨ m = 5 ∨ m = 6 := by omega
    rcases hm with rfl | rfl | rfl | rfl | rfl | rfl
    · exact okS_of okS1
    · exact okS_of okS2
    · exact okS_of okS3
    · exact okS_of okS4
    · exact okS_of okS5
    · exact okS_of okS6
  · refine ⟨[], 2, ?_, ⟨0, fun k _ => ?_⟩, EvF.of (k := 5) (fun k => laws_texts9.mono _ _ k) (by decide)⟩
    · unfold impl_SystemsOf.f
      rw [implIn, decide_eq_false h]; rfl
    · show spec_SystemsOf.f k m = _
      unfold spec_SystemsOf.f
      rw [specIn, decide_eq_false h]; rfl
def okR (m : Int) : Bool := match impl_RainbowOf.f m, spec_RainbowOf.f 3000 m with
  | some (L, c), some (L2, c2) => decide (L = L2) && c == c2
  | _, _ => false
theorem okR1 : okR 1 = true := by decide +kernel
theorem okR2 : okR 2 = true := by decide +kernel
theorem okR3 : okR 3 = true := by decide +kernel
theorem okR4 : okR 4 = true := by decide +kernel
theorem okR5 : okR 5 = true := by decide +kernel
theorem okR6 : okR 6 = true := by decide +kernel

theorem okR_of {m : Int} (h : okR m = true) : ∃ L c, impl_RainbowOf.f m = some (L, c) ∧ EvF (fun k => spec_RainbowOf.f k m) (L, c) := by
  unfold okR at h
  split at h
  · rename_i L c L2 c2 h1 h2
    simp only [Bool.and_eq_true, beq_iff_eq, decide_eq_true_eq] at h
    obtain ⟨rfl, rfl⟩ := h
    exact ⟨L, c, h1, EvF.of (fun k => spec_RainbowOf.mono _ k) h2⟩
  · cases h
theorem rainEv (m : Int) : ∃ L c, impl_RainbowOf.f m = some (L, c) ∧ EvF (fun k => spec_RainbowOf.f k m) (L, c) := by
  by_cases h : 1 ≤ m ∧ m ≤ 6
  · have hm : m = 1 ∨ m = 2 ∨ m = 3 ∨ m = 4 ∨ m = 5 ∨ m = 6 := by omega
    rcases hm with rfl | rfl | rfl | rfl | rfl | rfl
    · exact okR_of okR1
    · exact okR_of okR2
    · exact okR_of okR3
    · exact okR_of okR4
    · exact okR_of okR5
    · exact okR_of okR6
  · refine ⟨⟨#[]⟩, 2, ?_, ⟨0, fun k _ => ?_⟩⟩
    · unfold impl_RainbowOf.f
      rw [implIn, decide_eq_false h]; rfl
    · show spec_RainbowOf.f k m = _
      unfold spec_RainbowOf.f
      rw [specIn, decide_eq_false h]; rfl
def okT (m : Int) : Bool := match impl_ComponentTable.f 3000 m, spec_ComponentTable.f 3000 m with
  | some (L, c), some (L2, c2) => L == L2 && c == c2 && laws_lists9.f 3000 L L == some true && laws_FnMeanderCounts.l0 3000 m L 0 == some true
  | _, _ => false
theorem okT1 : okT 1 = true := by decide +kernel
theorem okT2 : okT 2 = true := by decide +kernel
theorem okT3 : okT 3 = true := by decide +kernel
theorem okT4 : okT 4 = true := by decide +kernel

theorem okT_of {m : Int} (h : okT m = true) : ∃ L c, EvF (fun k => impl_ComponentTable.f k m) (L, c) ∧ EvF (fun k => spec_ComponentTable.f k m) (L, c) ∧ EvF (fun k => laws_lists9.f k L L) true ∧ EvF (fun k => laws_FnMeanderCounts.l0 k m L 0) true := by
  unfold okT at h
  split at h
  · rename_i L c L2 c2 h1 h2
    simp only [Bool.and_eq_true, beq_iff_eq] at h
    obtain ⟨⟨⟨rfl, rfl⟩, h3⟩, h4⟩ := h
    exact ⟨L, c, EvF.of (fun k => impl_ComponentTable.mono _ k) h1, EvF.of (fun k => spec_ComponentTable.mono _ k) h2, EvF.of (fun k => laws_lists9.mono _ _ k) h3, EvF.of (fun k => (laws_FnMeanderCounts.mono_l k).2.2.2.2.2.2.2.1 _ _ _) h4⟩
  · cases h
theorem tabEv (m : Int) : ∃ L c, EvF (fun k => impl_ComponentTable.f k m) (L, c) ∧ EvF (fun k => spec_ComponentTable.f k m) (L, c) ∧ EvF (fun k => laws_lists9.f k L L) true ∧ EvF (fun k => laws_FnMeanderCounts.l0 k m L 0) true := by
  by_cases h : 1 ≤ m ∧ m ≤ 4
  · have hm : m = 1 ∨ m = 2 ∨ m = 3 ∨ m = 4 := by omega
    rcases hm with rfl | rfl | rfl | rfl
    · exact okT_of okT1
    · exact okT_of okT2
    · exact okT_of okT3
    · exact okT_of okT4
  · refine ⟨[], 2, ⟨0, fun k _ => ?_⟩, ⟨0, fun k _ => ?_⟩, EvF.of (k := 5) (fun k => laws_lists9.mono _ _ k) (by decide), ⟨1, fun k hk => ?_⟩⟩
    · show impl_ComponentTable.f k m = _
      unfold impl_ComponentTable.f
      rw [implIn, decide_eq_false h]; rfl
    · show spec_ComponentTable.f k m = _
      unfold spec_ComponentTable.f
      rw [specIn, decide_eq_false h]; rfl
    · obtain ⟨k, rfl⟩ : ∃ n, k = n + 1 := ⟨k - 1, by omega⟩
      show laws_FnMeanderCounts.l0 (k + 1) m [] 0 = _
      simp only [laws_FnMeanderCounts.l0]
      rw [if_neg (by simp)]
theorem ni1 : impl_CountByComponents.f 3000 1 = some ([1], 0) := by decide +kernel
theorem ns1 : spec_CountByComponents.f 3000 1 = some ([1], 0) := by decide +kernel
theorem ni2 : impl_CountByComponents.f 3000 2 = some ([2, 2], 0) := by decide +kernel
theorem ns2 : spec_CountByComponents.f 3000 2 = some ([2, 2], 0) := by decide +kernel
theorem ni3 : impl_CountByComponents.f 3000 3 = some ([8, 12, 5], 0) := by decide +kernel
theorem ns3 : spec_CountByComponents.f 3000 3 = some ([8, 12, 5], 0) := by decide +kernel
theorem ni4 : impl_CountByComponents.f 3000 4 = some ([42, 84, 56, 14], 0) := by decide +kernel
theorem ns4 : spec_CountByComponents.f 3000 4 = some ([42, 84, 56, 14], 0) := by decide +kernel
theorem ni5 : impl_CountByComponents.f 3000 5 = some ([262, 640, 580, 240, 42], 0) := by decide +kernel
theorem ns5 : spec_CountByComponents.f 3000 5 = some ([262, 640, 580, 240, 42], 0) := by decide +kernel

def NEv (m : Int) : Prop := ∃ C c, EvF (fun k => impl_CountByComponents.f k m) (C, c) ∧ EvF (fun k => spec_CountByComponents.f k m) (C, c) ∧ EvF (fun k => laws_likeInts.f k C C) true ∧ (c = 0 → ∃ L, impl_SystemsOf.f m = some (L, 0) ∧ EvF (fun k => laws_sum.f k C) (wrap64 ((L.length : Int) * (L.length : Int))) ∧ 0 ≤ wrap64 (m - 1) ∧ wrap64 (m - 1) < (C.length : Int) ∧ rd C (wrap64 (m - 1)) = (L.length : Int))
def sysN (m n : Int) : Bool := match impl_SystemsOf.f m with
  | some (L, c) => c == 0 && (L.length : Int) == n
  | none => false
theorem sysN1 : sysN 1 1 = true := by decide +kernel
theorem sysN2 : sysN 2 2 = true := by decide +kernel
theorem sysN3 : sysN 3 5 = true := by decide +kernel
theorem sysN4 : sysN 4 14 = true := by decide +kernel
theorem sysN5 : sysN 5 42 = true := by decide +kernel

theorem okN_of {m : Int} {C : List Int} {n : Int} (h1 : impl_CountByComponents.f 3000 m = some (C, 0)) (h2 : spec_CountByComponents.f 3000 m = some (C, 0)) (h3 : sysN m n = true) (h4 : laws_likeInts.f 3000 C C = some true) (h5 : laws_sum.f 3000 C = some (wrap64 (n * n))) (h6 : 0 ≤ wrap64 (m - 1)) (h7 : wrap64 (m - 1) < (C.length : Int)) (h8 : rd C (wrap64 (m - 1)) = n) : NEv m := by
  unfold sysN at h3
  split at h3
  · rename_i L c hL
    simp only [Bool.and_eq_true, beq_iff_eq] at h3
    obtain ⟨rfl, rfl⟩ := h3
    exact ⟨C, 0, EvF.of (fun k => impl_CountByComponents.mono _ k) h1, EvF.of (fun k => spec_CountByComponents.mono _ k) h2, EvF.of (fun k => laws_likeInts.mono _ _ k) h4, fun _ => ⟨L, hL, EvF.of (fun k => laws_sum.mono _ k) h5, h6, h7, h8⟩⟩
  · cases h3
theorem cntEv (m : Int) : NEv m := by
  by_cases h : 1 ≤ m ∧ m ≤ 5
  · have hm : m = 1 ∨ m = 2 ∨ m = 3 ∨ m = 4 ∨ m = 5 := by omega
    rcases hm with rfl | rfl | rfl | rfl | rfl
    · exact okN_of ni1 ns1 sysN1 (by decide +kernel) (by decide +kernel) (by decide +kernel) (by decide +kernel) (by decide +kernel)
    · exact okN_of ni2 ns2 sysN2 (by decide +kernel) (by decide +kernel) (by decide +kernel) (by decide +kernel) (by decide +kernel)
    · exact okN_of ni3 ns3 sysN3 (by decide +kernel) (by decide +kernel) (by decide +kernel) (by decide +kernel) (by decide +kernel)
    · exact okN_of ni4 ns4 sysN4 (by decide +kernel) (by decide +kernel) (by decide +kernel) (by decide +kernel) (by decide +kernel)
    · exact okN_of ni5 ns5 sysN5 (by decide +kernel) (by decide +kernel) (by decide +kernel) (by decide +kernel) (by decide +kernel)
  · refine ⟨[], 2, ⟨0, fun k _ => ?_⟩, ⟨0, fun k _ => ?_⟩, EvF.of (k := 5) (fun k => laws_likeInts.mono _ _ k) (by decide), fun h => absurd h (by decide)⟩
    · show impl_CountByComponents.f k m = _
      unfold impl_CountByComponents.f
      rw [implIn, decide_eq_false h]; rfl
    · show spec_CountByComponents.f k m = _
      unfold spec_CountByComponents.f
      rw [specIn, decide_eq_false h]; rfl
def okB (m : Int) : Bool := match impl_CountWithRainbow.f 3000 m, spec_CountWithRainbow.f 3000 m with
  | some r, some r2 => r == r2
  | _, _ => false
theorem okB1 : okB 1 = true := by decide +kernel
theorem okB2 : okB 2 = true := by decide +kernel
theorem okB3 : okB 3 = true := by decide +kernel
theorem okB4 : okB 4 = true := by decide +kernel
theorem okB5 : okB 5 = true := by decide +kernel
theorem okB6 : okB 6 = true := by decide +kernel

theorem okB_of {m : Int} (h : okB m = true) : ∃ r, EvF (fun k => impl_CountWithRainbow.f k m) r ∧ EvF (fun k => spec_CountWithRainbow.f k m) r := by
  unfold okB at h
  split at h
  · rename_i r r2 h1 h2
    rw [beq_iff_eq] at h
    subst h
    exact ⟨r, EvF.of (fun k => impl_CountWithRainbow.mono _ k) h1, EvF.of (fun k => spec_CountWithRainbow.mono _ k) h2⟩
  · cases h
theorem rbEv (m : Int) : ∃ r, EvF (fun k => impl_CountWithRainbow.f k m) r ∧ EvF (fun k => spec_CountWithRainbow.f k m) r := by
  by_cases h : 1 ≤ m ∧ m ≤ 6
  · have hm : m = 1 ∨ m = 2 ∨ m = 3 ∨ m = 4 ∨ m = 5 ∨ m = 6 := by omega
    rcases hm with rfl | rfl | rfl | rfl | rfl | rfl
    · exact okB_of okB1
    · exact okB_of okB2
    · exact okB_of okB3
    · exact okB_of okB4
    · exact okB_of okB5
    · exact okB_of okB6
  · refine ⟨(0, 2), ⟨0, fun k _ => ?_⟩, ⟨0, fun k _ => ?_⟩⟩
    · show impl_CountWithRainbow.f k m = _
      unfold impl_CountWithRainbow.f
      rw [implIn, decide_eq_false h]; rfl
    · show spec_CountWithRainbow.f k m = _
      unfold spec_CountWithRainbow.f
      rw [specIn, decide_eq_false h]; rfl

end Go.Proofs.Ytaaemhjdnncgdaa.PM
