/- The contracts of slices.Clone, impl.StabilizeWord, impl.ConjugateWord and spec.ComponentsOf, each as a plain function tells it. Conditions: short lists where the statements say so. -/
import Derived.Test.YtfboiigejaiodaaHandPerm
import Derived.Test.YtfboiigejaiodaaHandP
import Derived.WalkSpells
import Derived.Laws.Tables
import Derived.Laws.Rows
import Derived.Laws.EntriesVeiled
namespace Go.Proofs.Ytfboiigejaiodaa.Hand
open Go.RowKit Go.Proofs.YtfboiigejaiodaaW.PrintWords Go.Proofs.YtfboiigejaiodaaW.PrintLast Go.Proofs.YtfboiigejaiodaaW.PrintMore
set_option linter.unusedVariables false
set_option linter.unusedSimpArgs false

set_option maxHeartbeats 4000000 in
theorem clone_calls (A : Option Addr) (c : Nat) (l : List Int) (w : World) (hr : Kd.C (Kd.int .i64) w A l.length l) (hl : l.length ≤ 1000000) :
    Calls Try.prog 41 #[.slice A l.length c] w fun e w' => ∃ v0_ : Value, e = .returned v0_ ∧ Kd.R (Kd.int .i64) 2 w' w.heap.size (fun _ => True) v0_ l ∧ Below w.heap.size w w' := by
  have hq := Lib.run_eql_slice_nil (P := Try.prog) w 22 2 A l.length c 0 0 Try.underlying22
  have HR := Aside0.mk hr
  have HL := Aside0.mk hl
  cases A with
  | none =>
    have hl0 : l = [] := by
      rcases Nat.eq_zero_or_pos l.length with h | h
      · exact List.eq_nil_of_length_eq_zero h
      · obtain ⟨ad, e, _⟩ := hr.2.2 h
        cases e
    have HL0 := Aside0.mk hl0
    simp only [Option.isNone_none] at hq
    clear hr hl hl0
    go_enter Try.func41, Try.ntmps41
    go_wp2
    go_ret
    exact ⟨_, rfl, by rw [HL0.out]; exact Kd.R_nil _ _ _ _ _, Below.refl _ _⟩
  | some ad =>
    simp only [Option.isNone_some] at hq
    clear hr hl
    go_enter Try.func41, Try.ntmps41
    go_wp2_with ((with_reducible refine gate_builtin (b := .append) (xs := #[.tmp 5, .tmp 6]) rfl ?_); at_builtin; refine Kd.R_append_rows (Kd.int .i64) (w0 := w) w.heap.size rfl (.tmp 5) (.tmp 6) 22 2 (.int .i64 0) 8 rfl Try.underlying22 infoCat rfl (by decide) (by omega) (.slice (some ⟨w.heap.size, 0, none⟩) 0 0) [] l _ _ _ (fun _ => True) (fun _ => False) rfl rfl ?aO ?aR (fun _ _ h => h) (fun _ h => h.elim) ?aF ?aB ?aS ?aL ?_; (case aO => exact ⟨fun k hk => trivial, [], ⟨by simp, .inr ⟨w.heap.size, 0, #[], rfl, Nat.le_refl _, heap_alloc_new w _, Nat.le_refl _, by unfold maxLen; omega, by simp, by simp⟩⟩, Reps.none _ _⟩); (case aR => exact Kd.C_alloc HR.out _); (case aF => exact fun _ _ => trivial); (case aB => exact (Below.refl _ w).alloc (Nat.le_refl _) _); (case aS => simp); (case aL => have := HL.out; simp; omega); intro v2 w2 ho hb hg hat; have n1_ := Aside0.mk ho; have n2_ := Aside0.mk hb; clear ho hb hg hat)
    go_ret
    exact ⟨_, rfl, by simpa using n1_.out, n2_.out⟩
theorem longer_yes (A : Option Addr) (n c : Nat) (w : World) (h : n ≤ 24) : Calls Try.prog 40 #[.slice A n c] w fun e w' => e = .returned (.tuple #[.slice A n c, .int .i64 0]) ∧ w = w' := by
  have hb : decide (24 < (n : Int)) = false := decide_eq_false (by omega)
  clear h
  go_enter Try.func40, Try.ntmps40
  go_wp2
  go_ret2
  exact ⟨rfl, rfl⟩
theorem longer_no (A : Option Addr) (n c : Nat) (w : World) (h : 24 < n) : Calls Try.prog 40 #[.slice A n c] w fun e w' => e = .returned (.tuple #[.slice none 0 0, .int .i64 3]) ∧ w = w' := by
  have hb : decide (24 < (n : Int)) = true := decide_eq_true (by omega)
  clear h
  go_enter Try.func40, Try.ntmps40
  go_wp2
  go_ret2
  exact ⟨rfl, rfl⟩
/-- impl.StabilizeWord in plain words. -/
def impl_StabilizeWord.f (a0 : Int) (l1 : List Int) (a2 : Int) : Option (List Int × Int) := (impl_braidOk.f a0 l1).bind fun y => if y = true then (if a0 = 6 then some ([], 2) else if a2 = 1 ∨ a2 = -1 then (if l1.length ≤ 24 then (if l1.length = 24 then some ([], 3) else some (l1 ++ [wrap64 (a2 * a0)], 0)) else none) else some ([], 2)) else some ([], 2)
set_option maxHeartbeats 8000000 in
set_option maxRecDepth 100000 in
theorem impl_StabilizeWord.calls (a0 : Int) (A1 : Option Addr) (c1 : Nat) (l1 : List Int) (a2 : Int) (r1 : List Int) (r2 : Int) (w : World) (hr1 : Kd.C (Kd.int .i64) w A1 l1.length l1) (hc1 : l1.length ≤ c1) (h : impl_StabilizeWord.f a0 l1 a2 = some (r1, r2)) :
    Calls Try.prog 22 #[.int .i64 a0, .slice A1 l1.length c1, .int .i64 a2] w fun e w' => ∃ v0_ : Value, e = .returned (.tuple #[v0_, .int .i64 r2]) ∧ Kd.R (Kd.int .i64) 2 w' w.heap.size (fun _ => True) v0_ r1 ∧ Below w.heap.size w w' := by
  unfold impl_StabilizeWord.f at h
  obtain ⟨y, h1, h⟩ := Option.bind_eq_some_iff.1 h
  have HC := Aside0.mk (impl_braidOk.calls a0 A1 c1 l1 y w hr1 hc1 h1)
  have HR := Aside0.mk hr1
  clear h1 hr1 hc1
  cases y with
  | false =>
    rw [if_neg (by simp)] at h
    simp only [Option.some.injEq, Prod.mk.injEq] at h
    obtain ⟨rfl, rfl⟩ := h
    go_enter Try.func22, Try.ntmps22
    go_wp2_with fail
    refine HC.out.mono ?_
    rintro e w1 ⟨rfl, hb⟩
    have HB := Aside0.mk hb
    clear HC hb
    go_wp2
    go_ret2
    exact ⟨_, rfl, Kd.R_nil _ _ _ _ _, HB.out⟩
  | true =>
    rw [if_pos rfl] at h
    by_cases h6 : a0 = 6
    · rw [if_pos h6] at h
      simp only [Option.some.injEq, Prod.mk.injEq] at h
      obtain ⟨rfl, rfl⟩ := h
      have h6b : (a0 == 6) = true := beq_iff_eq.mpr h6
      clear h6
      go_enter Try.func22, Try.ntmps22
      go_wp2_with fail
      refine HC.out.mono ?_
      rintro e w1 ⟨rfl, hb⟩
      have HB := Aside0.mk hb
      clear HC hb
      go_wp2
      go_ret2
      exact ⟨_, rfl, Kd.R_nil _ _ _ _ _, HB.out⟩
    · rw [if_neg h6] at h
      have h6b : (a0 == 6) = false := beq_eq_false_iff_ne.mpr h6
      clear h6
      by_cases hs : a2 = 1 ∨ a2 = -1
      · rw [if_pos hs] at h
        by_cases hl : l1.length ≤ 24
        · rw [if_pos hl] at h
          have HCL := Aside0.mk (fun W (hr : Kd.C (Kd.int .i64) W A1 l1.length l1) => clone_calls A1 c1 l1 W hr (by omega))
          have HLL := Aside0.mk hl
          have hsb : ((a2 != 1) = true ∧ (a2 != -1) = false) ∨ (a2 != 1) = false := by
            by_cases e : a2 = 1
            · exact .inr (bne_eq_false_iff_eq.mpr e)
            · exact .inl ⟨bne_iff_ne.mpr e, bne_eq_false_iff_eq.mpr (by omega)⟩
          have HS := Aside0.mk hs
          generalize hx : wrap64 (a2 * a0) = x at h
          have hxw : IntKind.i64.wrap (a2 * a0) = x := (i64_w _).trans hx
          clear hl hs
          go_enter Try.func22, Try.ntmps22
          rcases hsb with ⟨hs1, hs2⟩ | hs1
          all_goals
            go_wp2_with fail
            refine HC.out.mono ?_
            rintro e w1 ⟨rfl, hb⟩
            have HB := Aside0.mk hb
            have HR1 := Aside0.mk (Kd.C_below HR.out hb)
            clear HC hb
            go_wp2_with fail
            refine (HCL.out _ HR1.out).mono ?_
            rintro e w2 ⟨v2, rfl, ho, hb⟩
            have HO2 := Aside0.mk (Kd.R_lower ho (below_size HB.out))
            have HB2 := Aside0.mk (HB.out.trans (hb.mono (below_size HB.out)))
            clear HCL ho hb HB HR1
            go_wp2_with ((with_reducible refine gate_builtin (b := .append) (xs := #[.tmp 25, .tmp 29]) rfl ?_); at_builtin; refine Kd.R_append (Kd.int .i64) (w0 := w) w.heap.size rfl (.tmp 25) (.tmp 29) 22 2 (.int .i64 0) 8 rfl Try.underlying22 infoCat rfl (by decide) (by omega) v2 l1 x [.int .i64 x] (fun _ => True) (fun _ => False) rfl rfl ?aP (fun _ hk => hk.elim) ?aF ?aO ?aB ?aS ?aL ?_; (case aP => exact rfl); (case aB => exact HB2.out); (case aF => exact fun _ _ => trivial); (case aO => exact HO2.out); (case aS => exact below_size HB2.out); (case aL => have := HLL.out; omega); intro v108 w14 ho hb hg hat; have n1_ := Aside0.mk ho; have n2_ := Aside0.mk hb; clear HO2 HB2 ho hb hg hat)
            obtain ⟨A3, c3, e3⟩ := Kd.R_slice n1_.out
            subst e3
            by_cases h24 : l1.length = 24
            · rw [if_pos h24] at h
              simp only [Option.some.injEq, Prod.mk.injEq] at h
              obtain ⟨rfl, rfl⟩ := h
              refine (longer_no A3 _ c3 _ (by simp; omega)).mono ?_
              rintro e w4 ⟨rfl, rfl⟩
              go_wp2
              go_ret2
              exact ⟨_, rfl, Kd.R_nil _ _ _ _ _, n2_.out⟩
            · rw [if_neg h24] at h
              simp only [Option.some.injEq, Prod.mk.injEq] at h
              obtain ⟨rfl, rfl⟩ := h
              refine (longer_yes A3 _ c3 _ (by have := HLL.out; simp; omega)).mono ?_
              rintro e w4 ⟨rfl, rfl⟩
              go_wp2
              go_ret2
              exact ⟨_, rfl, by have := n1_.out; simpa using this, n2_.out⟩
        · rw [if_neg hl] at h
          cases h
      · rw [if_neg hs] at h
        simp only [Option.some.injEq, Prod.mk.injEq] at h
        obtain ⟨rfl, rfl⟩ := h
        have hs1 : (a2 != 1) = true := bne_iff_ne.mpr (by omega)
        have hs2 : (a2 != -1) = true := bne_iff_ne.mpr (by omega)
        clear hs
        go_enter Try.func22, Try.ntmps22
        go_wp2_with fail
        refine HC.out.mono ?_
        rintro e w1 ⟨rfl, hb⟩
        have HB := Aside0.mk hb
        clear HC hb
        go_wp2
        go_ret2
        exact ⟨_, rfl, Kd.R_nil _ _ _ _ _, HB.out⟩
/-- impl.ConjugateWord in plain words. -/
def impl_ConjugateWord.f (a0 : Int) (l1 : List Int) (a2 : Int) : Option (List Int × Int) := (impl_braidOk.f a0 l1).bind fun y => if y = true then ((impl_braidOk.f a0 [a2]).bind fun z => if z = true then (if l1.length ≤ 24 then (if 22 < l1.length then some ([], 3) else some (a2 :: l1 ++ [wrap64 (-a2)], 0)) else none) else some ([], 2)) else some ([], 2)
theorem C_lit {w : World} {g : Nat} {x : Int} (h : w.heap[g]? = some (.cells #[.int .i64 x] 2 (0, 0))) : Kd.C (Kd.int .i64) w (some ⟨g, 0, none⟩) [x].length [x] := by
  have : Kd.R (Kd.int .i64) 2 w 0 (fun _ => True) (.slice (some ⟨g, 0, none⟩) 1 1) [x] := by
    refine ⟨fun k hk => trivial, [.int .i64 x], ?_, ?_⟩
    · exact ⟨by simp; rfl, .inr ⟨g, 1, #[.int .i64 x], rfl, Nat.zero_le _, h, Nat.le_refl _, by unfold maxLen; omega, rfl, rfl⟩⟩
    · exact Reps.snoc (Reps.none _ _) (p := x) (c := [.int .i64 x]) rfl rfl
  exact (Kd.R_reads' this).2.2
theorem cat3 (A1 : Option Addr) (c1 : Nat) (l1 : List Int) (a x : Int) (w : World) (hr : Kd.C (Kd.int .i64) w A1 l1.length l1) (hl : l1.length ≤ 24) :
    Calls Try.prog 43 #[.slice (some ⟨w.heap.size + 1 + 1, 0, none⟩) 3 3] (((w.alloc (.cells #[.int .i64 a] 2)).alloc (.cells #[.int .i64 x] 2)).alloc (.cells #[.slice (some ⟨w.heap.size, 0, none⟩) 1 1, .slice A1 l1.length c1, .slice (some ⟨w.heap.size + 1, 0, none⟩) 1 1] 22))
      fun e w' => ∃ v0_ : Value, e = .returned v0_ ∧ Kd.R (Kd.int .i64) 2 w' w.heap.size (fun _ => True) v0_ (a :: l1 ++ [x]) ∧ Below w.heap.size w w' := by
  have hB : Below w.heap.size w (((w.alloc (.cells #[.int .i64 a] 2)).alloc (.cells #[.int .i64 x] 2)).alloc (.cells #[.slice (some ⟨w.heap.size, 0, none⟩) 1 1, .slice A1 l1.length c1, .slice (some ⟨w.heap.size + 1, 0, none⟩) 1 1] 22)) := (((Below.refl _ w).alloc (Nat.le_refl _) _).alloc (by simp) _).alloc (by simp; omega) _
  have h := concat_calls 3 (fun j => if j = 0 then some ⟨w.heap.size, 0, none⟩ else if j = 1 then A1 else some ⟨w.heap.size + 1, 0, none⟩) (fun j => if j = 0 then 1 else if j = 1 then c1 else 1) (fun j => if j = 0 then [a] else if j = 1 then l1 else [x]) (w.heap.size + 1 + 1)
    (((w.alloc (.cells #[.int .i64 a] 2)).alloc (.cells #[.int .i64 x] 2)).alloc (.cells #[.slice (some ⟨w.heap.size, 0, none⟩) 1 1, .slice A1 l1.length c1, .slice (some ⟨w.heap.size + 1, 0, none⟩) 1 1] 22)) (Nat.le_refl _)
    (by intro j hj; rcases j with _ | _ | _ | j <;> simp <;> omega)
    (by
      intro j hj
      have hg : (((w.alloc (.cells #[.int .i64 a] 2)).alloc (.cells #[.int .i64 x] 2)).alloc (.cells #[.slice (some ⟨w.heap.size, 0, none⟩) 1 1, .slice A1 l1.length c1, .slice (some ⟨w.heap.size + 1, 0, none⟩) 1 1] 22)).heap[w.heap.size + 1 + 1]? = some (.cells #[.slice (some ⟨w.heap.size, 0, none⟩) 1 1, .slice A1 l1.length c1, .slice (some ⟨w.heap.size + 1, 0, none⟩) 1 1] 22 (0, 0)) := by
        have := heap_alloc_new ((w.alloc (.cells #[.int .i64 a] 2)).alloc (.cells #[.int .i64 x] 2)) (.cells #[.slice (some ⟨w.heap.size, 0, none⟩) 1 1, .slice A1 l1.length c1, .slice (some ⟨w.heap.size + 1, 0, none⟩) 1 1] 22)
        simpa using this
      rw [cell_of_row _ _ _ _ _ _ hg]
      rcases j with _ | _ | _ | j
      · rfl
      · rfl
      · rfl
      · omega)
    (by
      intro j hj
      rcases j with _ | _ | _ | j
      · refine C_lit (x := a) ?_
        rw [Below.heap_alloc _ _ _ (by simp; omega), Below.heap_alloc _ _ _ (by simp)]
        exact heap_alloc_new _ _
      · exact Kd.C_alloc (Kd.C_alloc (Kd.C_alloc hr _) _) _
      · refine C_lit (x := x) ?_
        rw [Below.heap_alloc _ _ _ (by simp)]
        have := heap_alloc_new (w.alloc (.cells #[.int .i64 a] 2)) (.cells #[.int .i64 x] 2)
        simpa using this
      · omega)
  refine h.mono ?_
  rintro e w' ⟨v0, rfl, ho, hb⟩
  refine ⟨v0, rfl, ?_, hB.trans (hb.mono (below_size hB))⟩
  have e : flatTo (fun j => if j = 0 then [a] else if j = 1 then l1 else [x]) 3 = a :: l1 ++ [x] := by
    simp [flatTo, List.range_succ]
  rw [e] at ho
  exact Kd.R_lower ho (below_size hB)
set_option maxHeartbeats 8000000 in
set_option maxRecDepth 100000 in
theorem impl_ConjugateWord.calls (a0 : Int) (A1 : Option Addr) (c1 : Nat) (l1 : List Int) (a2 : Int) (r1 : List Int) (r2 : Int) (w : World) (hr1 : Kd.C (Kd.int .i64) w A1 l1.length l1) (hc1 : l1.length ≤ c1) (h : impl_ConjugateWord.f a0 l1 a2 = some (r1, r2)) :
    Calls Try.prog 26 #[.int .i64 a0, .slice A1 l1.length c1, .int .i64 a2] w fun e w' => ∃ v0_ : Value, e = .returned (.tuple #[v0_, .int .i64 r2]) ∧ Kd.R (Kd.int .i64) 2 w' w.heap.size (fun _ => True) v0_ r1 ∧ Below w.heap.size w w' := by
  unfold impl_ConjugateWord.f at h
  obtain ⟨y, h1, h⟩ := Option.bind_eq_some_iff.1 h
  have HC := Aside0.mk (impl_braidOk.calls a0 A1 c1 l1 y w hr1 hc1 h1)
  have HR := Aside0.mk hr1
  clear h1 hr1 hc1
  cases y with
  | false =>
    rw [if_neg (by simp)] at h
    simp only [Option.some.injEq, Prod.mk.injEq] at h
    obtain ⟨rfl, rfl⟩ := h
    go_enter Try.func26, Try.ntmps26
    go_wp2_with fail
    refine HC.out.mono ?_
    rintro e w1 ⟨rfl, hb⟩
    have HB := Aside0.mk hb
    clear HC hb
    go_wp2
    go_ret2
    exact ⟨_, rfl, Kd.R_nil _ _ _ _ _, HB.out⟩
  | true =>
    rw [if_pos rfl] at h
    obtain ⟨z, h2, h⟩ := Option.bind_eq_some_iff.1 h
    have HC2 := Aside0.mk (fun (W : World) (g : Nat) (hr : Kd.C (Kd.int .i64) W (some ⟨g, 0, none⟩) [a2].length [a2]) => impl_braidOk.calls a0 (some ⟨g, 0, none⟩) 1 [a2] z W hr (by simp) h2)
    clear h2
    go_enter Try.func26, Try.ntmps26
    go_wp2_with fail
    refine HC.out.mono ?_
    rintro e w1 ⟨rfl, hb⟩
    have HB := Aside0.mk hb
    have HR1 := Aside0.mk (Kd.C_below HR.out hb)
    clear HC hb
    have hk := HC2.out (w1.alloc (.cells #[.int .i64 a2] 2)) w1.heap.size (C_lit (heap_alloc_new _ _))
    have HK := Aside0.mk hk
    clear hk HC2
    go_wp2_with fail
    refine HK.out.mono ?_
    rintro e w2 ⟨rfl, hb⟩
    have hb2 : Below w1.heap.size w1 w2 := (Below.refl _ w1).alloc (Nat.le_refl _) _ |>.trans (hb.mono (by simp))
    have HB2 := Aside0.mk (HB.out.trans (hb2.mono (below_size HB.out)))
    have HR2 := Aside0.mk (Kd.C_below HR1.out hb2)
    clear HK hb hb2 HB HR1
    cases z with
    | false =>
      rw [if_neg (by simp)] at h
      simp only [Option.some.injEq, Prod.mk.injEq] at h
      obtain ⟨rfl, rfl⟩ := h
      go_wp2
      go_ret2
      exact ⟨_, rfl, Kd.R_nil _ _ _ _ _, HB2.out⟩
    | true =>
      rw [if_pos rfl] at h
      by_cases hl : l1.length ≤ 24
      · rw [if_pos hl] at h
        generalize hx : wrap64 (-a2) = x at h
        have hxw : IntKind.i64.wrap (-a2) = x := (i64_w _).trans hx
        have HLL := Aside0.mk hl
        clear hl
        go_wp2_with fail
        refine (cat3 A1 c1 l1 a2 x w2 HR2.out HLL.out).mono ?_
        rintro e w3 ⟨v3, rfl, ho, hb⟩
        have HO3 := Aside0.mk (Kd.R_lower ho (below_size HB2.out))
        have HB3 := Aside0.mk (HB2.out.trans (hb.mono (below_size HB2.out)))
        clear ho hb HB2 HR2
        generalize hL : a2 :: l1 ++ [x] = L at HO3 h
        have hlen : L.length = l1.length + 2 := by rw [← hL]; simp
        obtain ⟨A3, c3, e3⟩ := Kd.R_slice HO3.out
        subst e3
        have HLEN := Aside0.mk hlen
        clear hL hlen
        go_wp2_with fail
        by_cases h24 : 22 < l1.length
        · rw [if_pos h24] at h
          simp only [Option.some.injEq, Prod.mk.injEq] at h
          obtain ⟨rfl, rfl⟩ := h
          refine (longer_no A3 _ c3 _ (by have := HLEN.out; omega)).mono ?_
          rintro e w4 ⟨rfl, rfl⟩
          go_wp2
          go_ret2
          exact ⟨_, rfl, Kd.R_nil _ _ _ _ _, HB3.out⟩
        · rw [if_neg h24] at h
          simp only [Option.some.injEq, Prod.mk.injEq] at h
          obtain ⟨rfl, rfl⟩ := h
          refine (longer_yes A3 _ c3 _ (by have := HLEN.out; omega)).mono ?_
          rintro e w4 ⟨rfl, rfl⟩
          clear h24
          go_wp2
          go_ret2
          exact ⟨_, rfl, HO3.out, HB3.out⟩
      · rw [if_neg hl] at h
        cases h
def encB (o : List Bool) : List Value := o.map Value.bool
def rdb (o : List Bool) (i : Int) : Bool := o.getD i.toNat false
def ArrB (w : World) (g t : Nat) (o : List Bool) : Prop := w.heap[g]? = some (.cells (encB o).toArray t (0, 0))
theorem ArrB.cell {w : World} {g t : Nat} {o : List Bool} (h : ArrB w g t o) (i : Int) (h0 : 0 ≤ i) (h1 : i < (o.length : Int)) : w.cell? ⟨g, i.toNat, none⟩ = some (.bool (rdb o i)) := by
  obtain ⟨j, rfl⟩ := Int.eq_ofNat_of_zero_le h0
  rw [Int.toNat_natCast, cell_of_row w g j _ t (0, 0) h]
  unfold encB rdb
  rw [Int.toNat_natCast, List.getD_eq_getElem?_getD]
  have : j < o.length := by omega
  simp [List.getElem?_eq_getElem this]
theorem ArrB.frozen {w : World} {g t : Nat} {o : List Bool} (h : ArrB w g t o) (i : Nat) : w.frozen? ⟨g, i, none⟩ = false := frozen_of_row w g i _ t h
theorem ArrB.lt {w : World} {g t : Nat} {o : List Bool} (h : ArrB w g t o) : g < w.heap.size := (Array.getElem?_eq_some_iff.1 h).1
theorem ArrB.set {w : World} {g t : Nat} {o : List Bool} (h : ArrB w g t o) (i : Nat) (v : Bool) : ArrB (w.setCell ⟨g, i, none⟩ (.bool v)) g t (o.set i v) := by
  unfold ArrB at *
  rw [heap_setCell_same w g i _ t _ h]
  congr 2
  unfold encB
  rw [List.map_set]
  simp
theorem ArrB.below {w w' : World} {g t : Nat} {o : List Bool} (h : ArrB w g t o) (hb : Below w.heap.size w w') : ArrB w' g t o := (hb.block g h.lt).trans h
theorem ArrB.new (w : World) (t : Nat) (o : List Bool) (cs : Array Value) (h : cs = (encB o).toArray) : ArrB (w.alloc (.cells cs t)) w.heap.size t o := by
  subst h
  exact heap_alloc_new w _
theorem falses6 : (#[.bool false, .bool false, .bool false, .bool false, .bool false, .bool false] : Array Value) = (encB (List.replicate 6 false)).toArray := rfl
theorem ArrB.alloc {w : World} {g t : Nat} {o : List Bool} (h : ArrB w g t o) (ob : Obj) : ArrB (w.alloc ob) g t o := (Below.heap_alloc w ob g h.lt).trans h
/-- One cycle is marked. -/
def cyc : Nat → List Int → List Bool → Int → Option (List Bool)
  | 0, _, _, _ => none
  | k + 1, p, met, x => if 0 ≤ x then (if x < 6 then (if rdb met x = true then some met else (if x < (p.length : Int) then cyc k p (met.set x.toNat true) (rd p x) else none)) else none) else none
def spec_ComponentsOf.l0 : Nat → Int → List Int → List Bool → Nat → Nat → Option Nat
  | 0, _, _, _, _, _ => none
  | k + 1, n, p, met, out, i => if (i : Int) < n then (if i < 6 then (if rdb met (i : Int) = true then spec_ComponentsOf.l0 k n p met out (i + 1) else (if out ≤ 1000000 then ((cyc k p met (i : Int)).bind fun met' => spec_ComponentsOf.l0 k n p met' (out + 1) (i + 1)) else none)) else none) else some out
/-- spec.ComponentsOf in plain words. -/
def spec_ComponentsOf.f (k : Nat) (a0 : Int) (l1 : List Int) : Option (Int × Int) := (spec_l06Word.f k a0 l1).bind fun y => if y = true then ((spec_l06Permutation.f a0 l1).bind fun p => (spec_ComponentsOf.l0 k a0 p (List.replicate 6 false) 0 0).bind fun m => some ((m : Int), 0)) else some (0, 2)
theorem cyc_mono : ∀ k, ∀ y0 y1 y2, LeO (cyc k y0 y1 y2) (cyc (k + 1) y0 y1 y2)
  | 0 => fun _ _ _ r h => by simp [cyc] at h
  | k + 1 => by
    have ih0 := cyc_mono k
    intro y0 y1 y2
    unfold cyc
    repeat' first
      | (with_reducible exact ih0 _ _ _)
      | (with_reducible exact LeO.refl _)
      | (with_reducible exact LeO.none _)
      | (with_reducible refine LeO.ite ?_ ?_)
      | exact ih0 _ _ _
theorem spec_ComponentsOf.mono_l : ∀ k, ∀ y0 y1 y2 y3 y4, LeO (spec_ComponentsOf.l0 k y0 y1 y2 y3 y4) (spec_ComponentsOf.l0 (k + 1) y0 y1 y2 y3 y4)
  | 0 => fun _ _ _ _ _ r h => by simp [spec_ComponentsOf.l0] at h
  | k + 1 => by
    have ih0 := spec_ComponentsOf.mono_l k
    intro y0 y1 y2 y3 y4
    unfold spec_ComponentsOf.l0
    repeat' first
      | (with_reducible exact ih0 _ _ _ _ _)
      | (with_reducible exact cyc_mono _ _ _ _)
      | (with_reducible exact LeO.refl _)
      | (with_reducible exact LeO.none _)
      | (with_reducible refine LeO.ite ?_ ?_)
      | (with_reducible refine LeO.bind ?_ (fun _ => ?_))
      | exact ih0 _ _ _ _ _
theorem spec_ComponentsOf.mono : ∀ a0 a1 k, LeO (spec_ComponentsOf.f k a0 a1) (spec_ComponentsOf.f (k + 1) a0 a1) := by
  intro a0 a1 k
  unfold spec_ComponentsOf.f
  exact LeO.bind (spec_l06Word.mono _ _ k) (fun _ => LeO.ite (LeO.bind (LeO.refl _) (fun _ => LeO.bind (spec_ComponentsOf.mono_l k _ _ _ _ _) (fun _ => LeO.refl _))) (LeO.refl _))
set_option maxHeartbeats 8000000 in
set_option maxRecDepth 100000 in
theorem spec_ComponentsOf.calls (k : Nat) (a0 : Int) (A1 : Option Addr) (c1 : Nat) (l1 : List Int) (r1 r2 : Int) (w : World) (hr1 : Kd.C (Kd.int .i64) w A1 l1.length l1) (hc1 : l1.length ≤ c1) (h : spec_ComponentsOf.f k a0 l1 = some (r1, r2)) :
    Calls Try.prog 27 #[.int .i64 a0, .slice A1 l1.length c1] w fun e w' => e = .returned (.tuple #[.int .i64 r1, .int .i64 r2]) ∧ Below w.heap.size w w' := by
  unfold spec_ComponentsOf.f at h
  obtain ⟨y, h1, h⟩ := Option.bind_eq_some_iff.1 h
  have HC : Aside0 (Calls Try.prog 31 #[.int .i64 a0, .slice A1 l1.length c1] w fun e w' => e = .returned (.bool y) ∧ ∃ q, w' = w.drewN q) := ⟨(spec_l06Word.calls k a0 A1 c1 l1 y w hr1 hc1 h1).mono fun _ _ h => ⟨h.1, h.2.out⟩⟩
  have HR := Aside0.mk hr1
  have HCC := Aside0.mk hc1
  clear h1 hr1 hc1
  cases y with
  | false =>
    rw [if_neg (by simp)] at h
    simp only [Option.some.injEq, Prod.mk.injEq] at h
    obtain ⟨rfl, rfl⟩ := h
    go_enter Try.func27, Try.ntmps27
    go_wp2_with fail
    refine HC.out.mono ?_
    rintro e w1 ⟨rfl, q, rfl⟩
    clear HC
    go_wp2
    go_ret2
    exact ⟨rfl, pw_below_drewN (Below.refl _ _) q⟩
  | true =>
    rw [if_pos rfl] at h
    obtain ⟨p, h2, h⟩ := Option.bind_eq_some_iff.1 h
    obtain ⟨m, h3, h⟩ := Option.bind_eq_some_iff.1 h
    simp only [Option.some.injEq, Prod.mk.injEq] at h
    obtain ⟨rfl, rfl⟩ := h
    have HC2 := Aside0.mk (fun W (hr : Kd.C (Kd.int .i64) W A1 l1.length l1) => spec_l06Permutation.calls a0 A1 c1 l1 p W hr HCC.out h2)
    have H' := Aside0.mk h3
    clear h2 h3
    go_enter Try.func27, Try.ntmps27
    go_wp2_with fail
    refine HC.out.mono ?_
    rintro e w1 ⟨rfl, q, rfl⟩
    clear HC
    go_wp2_with fail
    refine (HC2.out _ (Kd.C_drewN HR.out q)).mono ?_
    rintro e w2 ⟨v2, rfl, ho, hb⟩
    have HB2 := Aside0.mk (below_step (pw_below_drewN (Below.refl w.heap.size w) q) hb)
    have HO2 := Aside0.mk (show Kd.R (Kd.int .i64) 2 w2 w.heap.size (fun _ => True) v2 p from ho)
    obtain ⟨Ap, cp, ep⟩ := Kd.R_slice HO2.out
    subst ep
    clear HC2 ho hb
    have z1 := Aside0.mk (ArrB.new w2 44 (List.replicate 6 false) _ falses6)
    have z2 := Aside0.mk (Kd.R_alloc HO2.out (.cells #[.bool false, .bool false, .bool false, .bool false, .bool false, .bool false] 44))
    have z3 := Aside0.mk (below_alloc HB2.out (.cells #[.bool false, .bool false, .bool false, .bool false, .bool false, .bool false] 44))
    have HG := Aside0.mk (below_size HB2.out)
    clear HO2 HB2
    go_wp2
    go_loopg [8, 9] k (fun kq v8 v9 w' => ∃ (met : List Bool) (out i : Nat), v8 = .int .i64 (out : Int) ∧ v9 = .int .i64 (i : Int) ∧ Aside0 (spec_ComponentsOf.l0 kq a0 p met out i = some m) ∧ Aside0 (kq ≤ k) ∧ Aside0 (met.length = 6) ∧ Aside0 (ArrB w' w2.heap.size 44 met) ∧ Aside0 (Kd.R (Kd.int .i64) 2 w' w.heap.size (fun _ => True) (.slice Ap p.length cp) p) ∧ Aside0 (Below w.heap.size w w'))
    case atStart => exact ⟨List.replicate 6 false, 0, 0, rfl, rfl, H', ⟨Nat.le_refl _⟩, ⟨by simp⟩, z1, z2, z3⟩
    case round =>
      clear H' z1 z2 z3
      obtain ⟨met, out, i, rfl, rfl, HA, HK1, HM, HO3, HO, HB⟩ := hrel
      cases gk with
      | zero => exact absurd HA.out (by simp [spec_ComponentsOf.l0])
      | succ k1 =>
        have H := HA.out
        clear HA
        simp only [spec_ComponentsOf.l0] at H
        by_cases c1 : (i : Int) < a0
        · rw [if_pos c1] at H
          have c1b : decide ((i : Int) < a0) = true := decide_eq_true c1
          clear c1
          by_cases c2 : i < 6
          · rw [if_pos c2] at H
            have q2 : ((i : Int) < 6) = True := eq_true (by omega)
            have p2 : (0 ≤ (i : Int)) = True := eq_true (by omega)
            have hcell := HO3.out.cell (i : Int) (by omega) (by have := HM.out; omega)
            rw [Int.toNat_natCast] at hcell
            have C2 := Aside0.mk c2
            by_cases c3 : rdb met (i : Int) = true
            · rw [if_pos c3] at H
              rw [c3] at hcell
              have H' := Aside0.mk H
              clear H c3
              go_wp2
              go_roundg k1
              case measure => have := HK1.out; omega
              case rel => exact ⟨met, out, i + 1, rfl, by (try simp only [Int.natCast_add]); rfl, H', ⟨by have := HK1.out; omega⟩, HM, HO3, HO, HB⟩
            · rw [if_neg c3] at H
              rw [Bool.not_eq_true] at c3
              rw [c3] at hcell
              clear c3
              by_cases c4 : out ≤ 1000000
              · rw [if_pos c4] at H
                obtain ⟨met', hm, H⟩ := Option.bind_eq_some_iff.1 H
                have H' := Aside0.mk H
                have HMA := Aside0.mk hm
                clear H hm
                go_wp2
                clear hcell p2 q2 c1b
                go_loopg [10] k1 (fun kq v10 w' => ∃ (mj : List Bool) (x : Int), v10 = .int .i64 x ∧ Aside0 (cyc kq p mj x = some met') ∧ Aside0 (kq ≤ k1) ∧ Aside0 (mj.length = 6) ∧ Aside0 (ArrB w' w2.heap.size 44 mj) ∧ Aside0 (Kd.R (Kd.int .i64) 2 w' w.heap.size (fun _ => True) (.slice Ap p.length cp) p) ∧ Aside0 (Below w.heap.size w w'))
                case atStart => exact ⟨met, (i : Int), rfl, HMA, ⟨Nat.le_refl _⟩, HM, HO3, HO, HB⟩
                case round =>
                  clear HMA HM HO3 HO HB
                  obtain ⟨mj, x, rfl, E3, E1, EM, F3, FR, FB⟩ := hrel
                  cases gk with
                  | zero => exact absurd E3.out (by simp [cyc])
                  | succ k2 =>
                    have e3 := E3.out
                    simp only [cyc] at e3
                    by_cases d1 : 0 ≤ x
                    · rw [if_pos d1] at e3
                      by_cases d2 : x < 6
                      · rw [if_pos d2] at e3
                        have hcell := F3.out.cell x d1 (by have := EM.out; omega)
                        have px := eq_true d1
                        have qx := eq_true d2
                        by_cases d3 : rdb mj x = true
                        · rw [if_pos d3] at e3
                          rw [d3] at hcell
                          obtain rfl := Option.some.inj e3
                          clear e3 d3 d1 d2
                          have hi6 : i < 6 := C2.out
                          go_wp2
                          go_roundg k1
                          case measure => have := HK1.out; omega
                          case rel => exact ⟨mj, out + 1, i + 1, by (try simp only [Int.natCast_add]); rfl, by (try simp only [Int.natCast_add]); rfl, H', ⟨by have := HK1.out; omega⟩, EM, F3, FR, FB⟩
                        · rw [if_neg d3] at e3
                          rw [Bool.not_eq_true] at d3
                          rw [d3] at hcell
                          clear d3
                          by_cases d4 : x < (p.length : Int)
                          · rw [if_pos d4] at e3
                            have E3' := Aside0.mk e3
                            have hf := F3.out.frozen x.toNat
                            have s1 := Aside0.mk (F3.out.set x.toNat true)
                            have hne : some w2.heap.size ≠ (Value.slice Ap p.length cp).ownBlock := Kd.R_ne FR.out F3.out (by decide)
                            have m3 := Aside0.mk (Kd.R_mono (ok' := fun _ => True) (Kd.R_far (p := ⟨w2.heap.size, x.toNat, none⟩) (Kd.R_far1 FR.out rfl hne) (fun k_ hk => hk.2) (.bool true)) (fun _ _ => trivial))
                            have m4 := Aside0.mk (FB.out.setCell (p := ⟨w2.heap.size, x.toNat, none⟩) HG.out (.bool true))
                            obtain ⟨ad, ea, hx⟩ := Kd.at_int (Kd.R_reads' m3.out).2.2 x d1 d4
                            cases ea
                            have qp := eq_true d4
                            clear e3 E3 F3 FR FB d1 d2 d4 hne
                            go_wp2
                            go_roundg k2
                            case measure => have := E1.out; omega
                            case rel => exact ⟨mj.set x.toNat true, rd p x, rfl, E3', ⟨by have := E1.out; omega⟩, ⟨by rw [List.length_set]; exact EM.out⟩, s1, m3, m4⟩
                          · rw [if_neg d4] at e3
                            cases e3
                      · rw [if_neg d2] at e3
                        cases e3
                    · rw [if_neg d1] at e3
                      cases e3
              · rw [if_neg c4] at H
                cases H
          · rw [if_neg c2] at H
            cases H
        · rw [if_neg c1] at H
          have c1b : decide ((i : Int) < a0) = false := decide_eq_false c1
          clear c1
          obtain rfl := Option.some.inj H
          clear H
          go_wp2
          go_ret2
          exact ⟨rfl, HB.out⟩
end Go.Proofs.Ytfboiigejaiodaa.Hand
