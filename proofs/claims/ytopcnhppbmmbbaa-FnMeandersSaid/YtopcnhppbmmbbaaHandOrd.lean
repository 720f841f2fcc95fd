/- The contract of spec.OrderOfMeander: for every two texts it answers as the plain function 'spec_OrderOfMeander.f' tells it. No condition. -/
import Derived.Test.YtopcnhppbmmbbaaHandComp
import Derived.Test.YtopcnhppbmmbbaaHandP
namespace Go.Proofs.Ytopcnhppbmmbbaa.Hand
open Go.RowKit Go.Proofs.YtopcnhppbmmbbaaW.PrintWords Go.Proofs.YtopcnhppbmmbbaaW.PrintLast Go.Proofs.YtopcnhppbmmbbaaW.PrintMore
set_option linter.unusedVariables false
set_option linter.unusedSimpArgs false

/-- spec.OrderOfMeander in plain words. -/
def spec_OrderOfMeander.f (k : Nat) (a0 a1 : ByteArray) : Option (List Int × Int) := (spec_l08Code.f k a0 a1).bind fun c => if c = 0 then ((spec_l08Components.f k a0 a1).bind fun m => if m = 1 then ((spec_l08Arcs.f k a0).bind fun A => (spec_l08Arcs.f k a1).bind fun B => (spec_l08Walk.f k A.1 B.1 0).bind fun l => some (l, 0)) else some (([] : List Int), 5)) else some (([] : List Int), c)
theorem spec_OrderOfMeander.mono : ∀ a0 a1 k, LeO (spec_OrderOfMeander.f k a0 a1) (spec_OrderOfMeander.f (k + 1) a0 a1) := by
  intro a0 a1 k
  unfold spec_OrderOfMeander.f
  repeat' first
      | (with_reducible exact spec_l08Code.mono _ _ _)
      | (with_reducible exact spec_l08Components.mono _ _ _)
      | (with_reducible exact spec_l08Arcs.mono _ _)
      | (with_reducible exact spec_l08Walk.mono _ _ _ _)
      | (with_reducible exact LeO.refl _)
      | (with_reducible exact LeO.none _)
      | (with_reducible refine LeO.ite ?_ ?_)
      | (with_reducible refine LeO.bind ?_ (fun _ => ?_))
set_option maxHeartbeats 8000000 in
set_option maxRecDepth 100000 in
theorem spec_OrderOfMeander.calls (k : Nat) (a0 a1 : ByteArray) (r1 : List Int) (r2 : Int) (w : World) (h : spec_OrderOfMeander.f k a0 a1 = some (r1, r2)) :
    Calls Try.prog 12 #[.string a0, .string a1] w fun e w' => ∃ v0_ : Value, e = .returned (.tuple #[v0_, .int .i64 r2]) ∧ Kd.R (Kd.int .i64) 2 w' w.heap.size (fun _ => True) v0_ r1 ∧ Below w.heap.size w w' := by
  unfold spec_OrderOfMeander.f at h
  obtain ⟨c, h1, h⟩ := Option.bind_eq_some_iff.1 h
  have HC1 := Aside0.mk (spec_l08Code.calls k a0 a1 c w h1)
  clear h1
  by_cases c1 : c = 0
  · rw [if_pos c1] at h
    subst c1
    obtain ⟨m, h2, h⟩ := Option.bind_eq_some_iff.1 h
    have HC2 := Aside0.mk (fun W => spec_l08Components.calls k a0 a1 m W h2)
    clear h2
    by_cases c2 : m = 1
    · rw [if_pos c2] at h
      subst c2
      obtain ⟨⟨o1, b1⟩, h3, h⟩ := Option.bind_eq_some_iff.1 h
      obtain ⟨⟨o2, b2⟩, h4, h⟩ := Option.bind_eq_some_iff.1 h
      obtain ⟨l, h5, h⟩ := Option.bind_eq_some_iff.1 h
      simp only [Option.some.injEq, Prod.mk.injEq] at h
      obtain ⟨rfl, rfl⟩ := h
      have HL1 := Aside0.mk (spec_l08Arcs.len h3)
      have HL2 := Aside0.mk (spec_l08Arcs.len h4)
      have HC3 := Aside0.mk (fun W => spec_l08Arcs.calls k a0 o1 b1 W h3)
      have HC4 := Aside0.mk (fun W => spec_l08Arcs.calls k a1 o2 b2 W h4)
      have HC5 := Aside0.mk (fun W => spec_l08Walk.calls k o1 o2 0 l W (spec_l08Arcs.len h3) (spec_l08Arcs.len h4) h5)
      have HI1 := Aside0.mk (show (Try.prog.info? 49).map (·.size) = some (enc o1).toArray.size by rw [encSize HL1.out]; kernel_rfl)
      have HI2 := Aside0.mk (show (Try.prog.info? 49).map (·.size) = some (enc o2).toArray.size by rw [encSize HL2.out]; kernel_rfl)
      clear h3 h4 h5
      go_enter Try.func12, Try.ntmps12
      go_wp2_with fail
      refine HC1.out.mono ?_
      rintro e w1 ⟨rfl, hb1⟩
      have HB1 := Aside0.mk hb1
      clear HC1 hb1
      go_wp2_with fail
      refine (HC2.out _).mono ?_
      rintro e w2 ⟨rfl, hb2⟩
      have HB2 := Aside0.mk (HB1.out.trans (hb2.mono (below_size HB1.out)))
      clear HC2 hb2 HB1
      go_wp2_with fail
      refine (HC3.out _).mono ?_
      rintro e w3 ⟨rfl, hb3⟩
      have HB3 := Aside0.mk (HB2.out.trans (hb3.mono (below_size HB2.out)))
      clear HC3 hb3 HB2
      go_wp2_with (refine wpList_store_row rfl 49 _ _ rfl w3.heap.size (enc o1).toArray rfl rfl 49 (enc (List.replicate 12 0)).toArray (Arr.new w3 49 (List.replicate 12 0) _ zeros12) HI1.out (by rw [encSize HL1.out]; rfl) (enc_one _) ?_)
      refine (HC4.out _).mono ?_
      rintro e w4 ⟨rfl, hb4⟩
      have a1 := ((Arr.new w3 49 (List.replicate 12 0) _ zeros12).row o1).below hb4
      have hb5 := (below_setRow (below_alloc HB3.out (.cells (enc (List.replicate 12 0)).toArray 49)) (below_size HB3.out) (enc o1).toArray).trans (hb4.mono (by rw [size_setRow]; have := below_size HB3.out; simp; omega))
      have hlt : w3.heap.size < w4.heap.size := a1.lt
      have HA1 := Aside0.mk a1
      have HB4 := Aside0.mk hb5
      have HLT := Aside0.mk hlt
      clear HC4 hb4 a1 hb5 hlt HB3
      have z1 := Aside0.mk ((HA1.out.alloc (.cells #[.int .i64 0, .int .i64 0, .int .i64 0, .int .i64 0, .int .i64 0, .int .i64 0, .int .i64 0, .int .i64 0, .int .i64 0, .int .i64 0, .int .i64 0, .int .i64 0] 49)).row_far (by have := HLT.out; omega : w3.heap.size ≠ w4.heap.size) (enc o2).toArray)
      have z2 := Aside0.mk ((Arr.new w4 49 (List.replicate 12 0) #[.int .i64 0, .int .i64 0, .int .i64 0, .int .i64 0, .int .i64 0, .int .i64 0, .int .i64 0, .int .i64 0, .int .i64 0, .int .i64 0, .int .i64 0, .int .i64 0] zeros12).row o2)
      have z4 := Aside0.mk (below_setRow (below_alloc HB4.out (.cells #[.int .i64 0, .int .i64 0, .int .i64 0, .int .i64 0, .int .i64 0, .int .i64 0, .int .i64 0, .int .i64 0, .int .i64 0, .int .i64 0, .int .i64 0, .int .i64 0] 49)) (below_size HB4.out) (enc o2).toArray)
      go_wp2_with (first | (refine wpList_store_row rfl 49 _ _ rfl w4.heap.size (enc o2).toArray rfl rfl 49 (enc (List.replicate 12 0)).toArray (Arr.new w4 49 (List.replicate 12 0) _ zeros12) HI2.out (by rw [encSize HL2.out]; rfl) (enc_one _) ?_) | (refine wpList_load_row rfl 49 _ rfl w3.heap.size rfl 49 (enc o1).toArray (0, 0) _ z1.out Try.underlying49 rfl HI1.out ?_) | (refine wpList_load_row rfl 49 _ rfl w4.heap.size rfl 49 (enc o2).toArray (0, 0) _ z2.out Try.underlying49 rfl HI2.out ?_))
      refine (HC5.out _).mono ?_
      rintro e w5 ⟨v0, rfl, hr, hb6⟩
      have HB6 := Aside0.mk (z4.out.trans (hb6.mono (below_size z4.out)))
      have HR := Aside0.mk (Kd.R_lower hr (below_size z4.out))
      clear HC5 hr hb6 z1 z2 z4 HB4 HA1
      go_wp2
      go_ret2
      exact ⟨_, rfl, HR.out, HB6.out⟩
    · rw [if_neg c2] at h
      simp only [Option.some.injEq, Prod.mk.injEq] at h
      obtain ⟨rfl, rfl⟩ := h
      have c2b : (m != 1) = true := bne_iff_ne.mpr c2
      clear c2
      go_enter Try.func12, Try.ntmps12
      go_wp2_with fail
      refine HC1.out.mono ?_
      rintro e w1 ⟨rfl, hb1⟩
      have HB1 := Aside0.mk hb1
      clear HC1 hb1
      go_wp2_with fail
      refine (HC2.out _).mono ?_
      rintro e w2 ⟨rfl, hb2⟩
      have HB2 := Aside0.mk (HB1.out.trans (hb2.mono (below_size HB1.out)))
      clear HC2 hb2 HB1
      go_wp2
      go_ret2
      exact ⟨_, rfl, Kd.R_nil _ _ _ _ _, HB2.out⟩
  · rw [if_neg c1] at h
    simp only [Option.some.injEq, Prod.mk.injEq] at h
    obtain ⟨rfl, rfl⟩ := h
    have c1b : (c != 0) = true := bne_iff_ne.mpr c1
    clear c1
    go_enter Try.func12, Try.ntmps12
    go_wp2_with fail
    refine HC1.out.mono ?_
    rintro e w1 ⟨rfl, hb1⟩
    have HB1 := Aside0.mk hb1
    clear HC1 hb1
    go_wp2
    go_ret2
    exact ⟨_, rfl, Kd.R_nil _ _ _ _ _, HB1.out⟩
end Go.Proofs.Ytopcnhppbmmbbaa.Hand
