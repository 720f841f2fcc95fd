/- The contract of spec.l08Walk: the curve of two arrays of joined places from a place on, as the plain function 'spec_l08Walk.f' tells it. No condition. -/
import Derived.Test.YtopcnhppbmmbbaaHandArcs
import Derived.Laws.Tables
import Derived.Laws.EntriesVeiled
namespace Go.Proofs.Ytopcnhppbmmbbaa.Hand
open Go.RowKit Go.Proofs.YtopcnhppbmmbbaaW.PrintWords Go.Proofs.YtopcnhppbmmbbaaW.PrintLast Go.Proofs.YtopcnhppbmmbbaaW.PrintMore
set_option linter.unusedVariables false
set_option linter.unusedSimpArgs false

theorem R_one {w : World} {base g e : Nat} {ok : Nat → Prop} {x : Int} (hg : w.heap[g]? = some (.cells #[.int .i64 x] e (0, 0))) (hb : base ≤ g) (hok : ok g) : Kd.R (Kd.int .i64) e w base ok (.slice (some ⟨g, 0, none⟩) 1 1) [x] := by
  refine ⟨fun k hk => ?_, [.int .i64 x], ?_, ?_⟩
  · simp [Value.ownBlock] at hk
    subst hk
    exact hok
  · exact ⟨by simp; rfl, .inr ⟨g, 1, #[.int .i64 x], rfl, hb, hg, Nat.le_refl _, by unfold maxLen; omega, rfl, rfl⟩⟩
  · exact Reps.snoc (Reps.none _ _) (p := x) (c := [.int .i64 x]) rfl rfl
def spec_l08Walk.l0 : Nat → List Int → List Int → Int → List Int → Int → Bool → Option (List Int)
  | 0, _, _, _, _, _, _ => none
  | k + 1, o1, o2, i, out, at_, up => if at_ = i then some out else (if out.length < 17592186044416 then (if 0 ≤ at_ then (if at_ < 12 then spec_l08Walk.l0 k o1 o2 i (out ++ [at_]) (if up = true then rd o1 at_ else rd o2 at_) (!up) else none) else none) else none)
def spec_l08Walk.f (k : Nat) (o1 o2 : List Int) (i : Int) : Option (List Int) := if 0 ≤ i then (if i < 12 then spec_l08Walk.l0 k o1 o2 i [i] (rd o1 i) false else none) else none
set_option maxHeartbeats 8000000 in
set_option maxRecDepth 100000 in
theorem spec_l08Walk.calls (k : Nat) (o1 o2 : List Int) (i : Int) (r : List Int) (w : World) (hl1 : o1.length = 12) (hl2 : o2.length = 12) (h : spec_l08Walk.f k o1 o2 i = some r) :
    Calls Try.prog 34 #[.agg (enc o1).toArray, .agg (enc o2).toArray, .int .i64 i] w fun e w' => ∃ v0_ : Value, e = .returned v0_ ∧ Kd.R (Kd.int .i64) 2 w' w.heap.size (fun _ => True) v0_ r ∧ Below w.heap.size w w' := by
  unfold spec_l08Walk.f at h
  by_cases c1 : 0 ≤ i
  · rw [if_pos c1] at h
    by_cases c2 : i < 12
    · rw [if_pos c2] at h
      have H' := Aside0.mk h
      have HL1 := Aside0.mk hl1
      have HL2 := Aside0.mk hl2
      have HC1 := Aside0.mk c1
      have HC2 := Aside0.mk c2
      have a1 : Arr (w.alloc (.cells (enc o1).toArray 49)) w.heap.size 49 o1 := Arr.new w _ o1 _ rfl
      have a2 : Arr ((w.alloc (.cells (enc o1).toArray 49)).alloc (.cells (enc o2).toArray 49)) (w.heap.size + 1) 49 o2 := by
        have := Arr.new (w.alloc (.cells (enc o1).toArray 49)) 49 o2 _ rfl
        simpa using this
      have a3 := (a1.alloc (.cells (enc o2).toArray 49)).alloc (.cells #[.int .i64 i] 2)
      have a4 := a2.alloc (.cells #[.int .i64 i] 2)
      have hc := a3.cell i c1 (by omega)
      have b1 := Aside0.mk a3
      have b2 := Aside0.mk a4
      have p1 := eq_true c1
      have q1 := eq_true c2
      clear h a1 a2 a3 a4 hl1 hl2 c1 c2
      go_enter Try.func34, Try.ntmps34
      go_wp2
      clear hc p1 q1
      go_loopg [7, 8, 9] k (fun kq v7 v8 v9 w' => ∃ (out : List Int) (at_ : Int) (up : Bool), v8 = .int .i64 at_ ∧ v9 = .bool up ∧ Aside0 (spec_l08Walk.l0 kq o1 o2 i out at_ up = some r) ∧ Aside0 (kq ≤ k) ∧ Aside0 (Arr w' w.heap.size 49 o1) ∧ Aside0 (Arr w' (w.heap.size + 1) 49 o2) ∧ Aside0 (Kd.R (Kd.int .i64) 2 w' w.heap.size (fun k_ => k_ ≠ w.heap.size ∧ k_ ≠ w.heap.size + 1) v7 out) ∧ Aside0 (w.heap.size + 2 ≤ w'.heap.size) ∧ Aside0 (Below w.heap.size w w'))
      case atStart =>
        refine ⟨[i], rd o1 i, false, rfl, rfl, H', ⟨Nat.le_refl _⟩, b1, b2, ⟨?_⟩, ⟨by simp⟩, ⟨(((Below.refl _ w).alloc (Nat.le_refl _) _).alloc (by simp) _).alloc (by simp; omega) _⟩⟩
        refine R_one ?_ (by omega) (by omega)
        have := heap_alloc_new ((w.alloc (.cells (enc o1).toArray 49)).alloc (.cells (enc o2).toArray 49)) (.cells #[.int .i64 i] 2)
        simpa using this
      case round =>
        clear H' b1 b2
        obtain ⟨out, at_, up, rfl, rfl, HA, HK1, HO1, HO2, HO5, HZ5, HB⟩ := hrel
        cases gk with
        | zero => exact absurd HA.out (by simp [spec_l08Walk.l0])
        | succ k1 =>
          have H := HA.out
          clear HA
          simp only [spec_l08Walk.l0] at H
          by_cases c3 : at_ = i
          · rw [if_pos c3] at H
            obtain rfl := Option.some.inj H
            have c3b : (at_ != i) = false := bne_eq_false_iff_eq.mpr c3
            clear c3 H
            go_wp2
            go_ret
            exact ⟨_, rfl, Kd.R_mono HO5.out (fun _ _ => trivial), HB.out⟩
          · rw [if_neg c3] at H
            have c3b : (at_ != i) = true := bne_iff_ne.mpr c3
            clear c3
            by_cases c4 : out.length < 17592186044416
            · rw [if_pos c4] at H
              have LM := Aside0.mk c4
              clear c4
              by_cases c5 : 0 ≤ at_
              · rw [if_pos c5] at H
                by_cases c6 : at_ < 12
                · rw [if_pos c6] at H
                  have H' := Aside0.mk H
                  clear H
                  have hf := HL1.out
                  have hg2 := HL2.out
                  have HX := Aside0.mk c5
                  have HY := Aside0.mk c6
                  have p5 := eq_true c5
                  have q6 := eq_true c6
                  clear c5 c6 hf hg2
                  cases up with
                  | true =>
                    go_wp2_with (first | ((with_reducible refine gate_builtin (b := .append) (xs := #[.tmp 20, .tmp 22]) rfl ?_); at_builtin; refine Kd.R_append (Kd.int .i64) (w0 := w) w.heap.size rfl (.tmp 20) (.tmp 22) 29 2 (.int .i64 0) 8 rfl Try.underlying29 infoI64 rfl (by decide) (by omega) u7 out at_ [.int .i64 at_] (fun k_ => k_ ≠ w.heap.size ∧ k_ ≠ w.heap.size + 1) (fun _ => False) rfl rfl ?aP (fun _ hk => hk.elim) ?aF ?aO ?aB ?aS ?aL ?_; (case aP => exact rfl); (case aB => exact HB.out); (case aF => exact fun k_ hk => by have := HZ5.out; omega); (case aO => exact HO5.out); (case aS => exact below_size HB.out); (case aL => have := LM.out; omega); intro v108 w14 ho hb hg hat; have n1_ := Aside0.mk ho; have n2_ := Aside0.mk hb; have n3_ := Aside0.mk (HO1.out.grown hg (fun e_ => (HO5.out.1 _ e_.symm).1 rfl)); have n4_ := Aside0.mk (HO2.out.grown hg (fun e_ => (HO5.out.1 _ e_.symm).2 rfl)); have n5_ := Aside0.mk (show w.heap.size + 2 ≤ w14.heap.size by have := hg.size; have := HZ5.out; omega); have hcell := n3_.out.cell at_ HX.out (by have := HL1.out; have := HY.out; omega); clear HO5 HB HO1 HO2 HZ5 ho hb hg hat))
                    go_roundg k1
                    case measure => have := HK1.out; omega
                    case rel => exact ⟨out ++ [at_], rd o1 at_, false, rfl, rfl, H', ⟨by have := HK1.out; omega⟩, n3_, n4_, n1_, n5_, n2_⟩
                  | false =>
                    go_wp2_with (first | ((with_reducible refine gate_builtin (b := .append) (xs := #[.tmp 20, .tmp 22]) rfl ?_); at_builtin; refine Kd.R_append (Kd.int .i64) (w0 := w) w.heap.size rfl (.tmp 20) (.tmp 22) 29 2 (.int .i64 0) 8 rfl Try.underlying29 infoI64 rfl (by decide) (by omega) u7 out at_ [.int .i64 at_] (fun k_ => k_ ≠ w.heap.size ∧ k_ ≠ w.heap.size + 1) (fun _ => False) rfl rfl ?aP (fun _ hk => hk.elim) ?aF ?aO ?aB ?aS ?aL ?_; (case aP => exact rfl); (case aB => exact HB.out); (case aF => exact fun k_ hk => by have := HZ5.out; omega); (case aO => exact HO5.out); (case aS => exact below_size HB.out); (case aL => have := LM.out; omega); intro v108 w14 ho hb hg hat; have n1_ := Aside0.mk ho; have n2_ := Aside0.mk hb; have n3_ := Aside0.mk (HO1.out.grown hg (fun e_ => (HO5.out.1 _ e_.symm).1 rfl)); have n4_ := Aside0.mk (HO2.out.grown hg (fun e_ => (HO5.out.1 _ e_.symm).2 rfl)); have n5_ := Aside0.mk (show w.heap.size + 2 ≤ w14.heap.size by have := hg.size; have := HZ5.out; omega); have hcell := n4_.out.cell at_ HX.out (by have := HL2.out; have := HY.out; omega); clear HO5 HB HO1 HO2 HZ5 ho hb hg hat))
                    go_roundg k1
                    case measure => have := HK1.out; omega
                    case rel => exact ⟨out ++ [at_], rd o2 at_, true, rfl, rfl, H', ⟨by have := HK1.out; omega⟩, n3_, n4_, n1_, n5_, n2_⟩
                · rw [if_neg c6] at H
                  cases H
              · rw [if_neg c5] at H
                cases H
            · rw [if_neg c4] at H
              cases H
    · rw [if_neg c2] at h
      cases h
  · rw [if_neg c1] at h
    cases h
end Go.Proofs.Ytopcnhppbmmbbaa.Hand
