/- The contracts of both RadicalOf. No condition. -/
import Derived.Test.YtmpdloamgiejhaaHandRad
import Derived.Test.YtmpdloamgiejhaaHandGram
namespace Go.Proofs.Ytmpdloamgiejhaa.Hand
open Go.RowKit Go.Proofs.YtmpdloamgiejhaaW.PrintWords Go.Proofs.YtmpdloamgiejhaaW.PrintLast Go.Proofs.YtmpdloamgiejhaaW.PrintMore
set_option linter.unusedVariables false
set_option linter.unusedSimpArgs false

/-- The kernel of a table, in plain words. -/
def kerG (p : Int) (T : List (List Int)) : List (List Int) × Nat := g0 p (iv2 p) T.length T.length T.length 0 T 0
def kerV (p : Int) (T : List (List Int)) (i : Nat) : Nat := (fz ((kerG p T).1.getD i []) T.length 0).getD 0
def kerO (p : Int) (T : List (List Int)) : List (List Int) := ko p (kerG p T).1 (kerV p T) (kerG p T).2 T.length T.length 0 []
def kerH (p : Int) (T : List (List Int)) : List (List Int) × Nat := g0 p (iv2 p) (kerO p T).length T.length T.length 0 (kerO p T) 0
def kerB (p : Int) (T : List (List Int)) : Bool := decide (2 ≤ p ∧ p ≤ 100) && decide ((kerG p T).1.length = T.length) && decide ((kerG p T).2 ≤ T.length) && (List.range (kerG p T).2).all (fun i => (fz ((kerG p T).1.getD i []) T.length 0).isSome) && decide ((kerH p T).1.length = (kerO p T).length)
def kerF (p : Int) (T : List (List Int)) : Option (List (List Int)) := if Sqr T ∧ kerB p T = true then some (kerH p T).1 else none
/-- The radical of a table, in plain words. -/
def radG (p : Int) (T : List (List Int)) : List (List Int) × Nat := r0 p (iv1 p) T.length T.length T.length 0 (trs T T.length T.length) 0
def radL (p : Int) (T : List (List Int)) : List Int := ls ((radG p T).1.take (radG p T).2) T.length (radG p T).2 0 (lf T.length 0 (List.replicate T.length 0))
def radO (p : Int) (T : List (List Int)) : List (List Int) := os p ((radG p T).1.take (radG p T).2) (radL p T) T.length T.length 0 []
def radH (p : Int) (T : List (List Int)) : List (List Int) × Nat := r0 p (iv1 p) (radO p T).length T.length T.length 0 (radO p T) 0
def radB (p : Int) (T : List (List Int)) : Bool := decide (2 ≤ p ∧ p ≤ 100) && decide ((radG p T).2 ≤ T.length)
def radF (p : Int) (T : List (List Int)) : Option (List (List Int)) := if Sqr T ∧ radB p T = true then some ((radH p T).1.take (radH p T).2) else none
theorem ker_S (w0 w : World) (v : Value) (T R : List (List Int)) (p : Int) (hB : Below w0.heap.size w0 w) (hS : Kd.S (Kd.slice 2 (Kd.int .i64)) 34 w w0.heap.size (fun _ => True) v T) (h : kerF p T = some R) :
    Calls Try.prog 33 #[v, .int .i64 p] w fun e w' => ∃ v', e = .returned v' ∧ Kd.S (Kd.slice 2 (Kd.int .i64)) 34 w' w0.heap.size (fun _ => True) v' R ∧ Below w0.heap.size w0 w' := by
  unfold kerF at h
  split at h
  · rename_i hc
    obtain ⟨⟨h1, h2, h3⟩, hb⟩ := hc
    obtain rfl := Option.some.inj h
    unfold kerB at hb
    simp only [Bool.and_eq_true, decide_eq_true_eq] at hb
    obtain ⟨⟨⟨⟨⟨hp1, hp2⟩, hb1⟩, hb2⟩, hb3⟩, hb4⟩ := hb
    obtain ⟨A, c, rfl⟩ := Kd.S_slice hS
    obtain ⟨g, bs, cs, rfl, _, hcc, hmax, hT, _⟩ := Tab.of_S hS h3 h1 h1
    have hpv : ∀ i, i < (kerG p T).2 → fz ((kerG p T).1.getD i []) T.length 0 = some (kerV p T i) := by
      intro i hi
      have := List.all_eq_true.1 hb3 i (List.mem_range.2 hi)
      unfold kerV
      cases e : fz ((kerG p T).1.getD i []) T.length 0 with
      | none => rw [e] at this; cases this
      | some k => rfl
    refine (ker_calls 3000 (iv2 p) w0 w g T.length c bs cs T (kerG p T).1 (kerO p T) (kerH p T).1 p (kerG p T).2 (kerH p T).2 (kerV p T) hB hT rfl h1 h2 (by omega) hcc hmax (inv2_some hp1 hp2) rfl hb1 hb2 hpv rfl rfl hb4).mono ?_
    rintro e w' ⟨ga, cc, bo, co, rfl, hT2, hc2, hb5⟩
    have hS2 := hT2.to_S h1
    rw [hb4, hc2] at hS2
    exact ⟨_, rfl, hS2, hb5⟩
  · cases h
theorem rad_S (w0 w : World) (v : Value) (T R : List (List Int)) (p : Int) (hB : Below w0.heap.size w0 w) (hS : Kd.S (Kd.slice 2 (Kd.int .i64)) 34 w w0.heap.size (fun _ => True) v T) (h : radF p T = some R) :
    Calls Try.prog 34 #[.int .i64 p, v] w fun e w' => ∃ v', e = .returned v' ∧ Kd.S (Kd.slice 2 (Kd.int .i64)) 34 w' w0.heap.size (fun _ => True) v' R ∧ Below w0.heap.size w0 w' := by
  unfold radF at h
  split at h
  · rename_i hc
    obtain ⟨⟨h1, h2, h3⟩, hb⟩ := hc
    obtain rfl := Option.some.inj h
    unfold radB at hb
    simp only [Bool.and_eq_true, decide_eq_true_eq] at hb
    obtain ⟨⟨hp1, hp2⟩, hb2⟩ := hb
    obtain ⟨A, c, rfl⟩ := Kd.S_slice hS
    obtain ⟨g, bs, cs, rfl, _, hcc, hmax, hT, _⟩ := Tab.of_S hS h3 h1 h1
    refine (rad_calls 3000 (iv1 p) w0 w g T.length c bs cs T (radG p T).1 [] (radO p T) (radH p T).1 (radL p T) p (radG p T).2 (radH p T).2 hB hT rfl h1 h2 (by omega) hcc hmax (inv1_some hp1 hp2) rfl hb2 rfl rfl rfl).mono ?_
    rintro e w' ⟨ga, cc, bo, co, rfl, hT2, hc2, hl2, hb5⟩
    have hS2 := hT2.to_S h1
    rw [hl2, hc2] at hS2
    exact ⟨_, rfl, hS2, hb5⟩
  · cases h
theorem S_none (w : World) (base : Nat) : Kd.S (Kd.slice 2 (Kd.int .i64)) 34 w base (fun _ => True) (.slice none 0 0) [] :=
  ⟨fun _ => 0, fun _ _ => trivial, [], ⟨by simp, .inl ⟨rfl, rfl⟩⟩, Reps.none _ _⟩
def impl_RadicalOf.f (a0 a1 a2 a3 : Int) : Option (List (List Int) × Int) := (impl_GramTable.f 3000 a0 a1 a2 a3).bind fun t => if t.2 = 0 then (kerF a0 t.1).bind fun R => some (R, 0) else some ([], t.2)
def spec_RadicalOf.f (a0 a1 a2 a3 : Int) : Option (List (List Int) × Int) := (spec_l04Two.f 3000 a0 a1 a2 a3).bind fun b => if b = true then (spec_l04Gram.f 3000 a0 a1 a2 a3).bind fun t => (radF a0 t).bind fun R => some (R, 0) else some ([], 2)
theorem impl_RadicalOf.calls (a0 a1 a2 a3 : Int) (R : List (List Int)) (r2 : Int) (w : World) (h : impl_RadicalOf.f a0 a1 a2 a3 = some (R, r2)) :
    Calls Try.prog 14 #[.int .i64 a0, .int .i64 a1, .int .i64 a2, .int .i64 a3] w fun e w' => ∃ v', e = .returned (.tuple #[v', .int .i64 r2]) ∧ Kd.S (Kd.slice 2 (Kd.int .i64)) 34 w' w.heap.size (fun _ => True) v' R ∧ Below w.heap.size w w' := by
  unfold impl_RadicalOf.f at h
  obtain ⟨⟨T, code⟩, h1, h⟩ := Option.bind_eq_some_iff.1 h
  simp only at h
  have H1 := Aside0.mk h1
  have H := Aside0.mk h
  clear h1 h
  go_enter Try.func14, Try.ntmps14
  go_wp2_with fail
  refine (impl_GramTable.calls 3000 a0 a1 a2 a3 T code _ H1.out).mono ?_
  rintro e w1 ⟨v0, rfl, hS, hB⟩
  have HS := Aside0.mk hS
  have HB := Aside0.mk hB
  have h := H.out
  clear hS hB H H1
  by_cases hc : code = 0
  · rw [if_pos hc] at h
    obtain ⟨d, h2, h⟩ := Option.bind_eq_some_iff.1 h
    simp only [Option.some.injEq, Prod.mk.injEq] at h
    obtain ⟨rfl, rfl⟩ := h
    have H2 := Aside0.mk h2
    subst hc
    clear h2
    go_wp2_with fail
    refine (ker_S w _ v0 T d a0 HB.out HS.out H2.out).mono ?_
    rintro e w2 ⟨v2, rfl, hS2, hB2⟩
    have HB2 := Aside0.mk hB2
    have HS2 := Aside0.mk hS2
    clear hB2 hS2
    obtain ⟨Av, cv, ev⟩ := Kd.S_slice HS2.out
    subst ev
    go_wp2_with fail
    go_ret2
    exact ⟨_, rfl, HS2.out, HB2.out⟩
  · rw [if_neg hc] at h
    simp only [Option.some.injEq, Prod.mk.injEq] at h
    obtain ⟨rfl, rfl⟩ := h
    have c1 : (code != 0) = true := by rw [bne_iff_ne]; exact hc
    clear hc
    go_wp2_with fail
    go_ret2
    exact ⟨_, rfl, S_none _ _, HB.out⟩
theorem spec_RadicalOf.calls (a0 a1 a2 a3 : Int) (R : List (List Int)) (r2 : Int) (w : World) (h : spec_RadicalOf.f a0 a1 a2 a3 = some (R, r2)) :
    Calls Try.prog 15 #[.int .i64 a0, .int .i64 a1, .int .i64 a2, .int .i64 a3] w fun e w' => ∃ v', e = .returned (.tuple #[v', .int .i64 r2]) ∧ Kd.S (Kd.slice 2 (Kd.int .i64)) 34 w' w.heap.size (fun _ => True) v' R ∧ Below w.heap.size w w' := by
  unfold spec_RadicalOf.f at h
  obtain ⟨b, h1, h⟩ := Option.bind_eq_some_iff.1 h
  have H1 := Aside0.mk h1
  have H := Aside0.mk h
  clear h1 h
  go_enter Try.func15, Try.ntmps15
  go_wp2_with fail
  refine (spec_l04Two.calls 3000 a0 a1 a2 a3 b _ H1.out).mono ?_
  rintro e w1 ⟨rfl, ⟨nd, rfl⟩⟩
  obtain ⟨w1, hw1⟩ : ∃ w1, w1 = w.drewN nd := ⟨_, rfl⟩
  rw [← hw1]
  have HB := Aside0.mk (show Below w.heap.size w w1 by rw [hw1]; exact pw_below_drewN (Below.refl _ _) nd)
  have HZ := Aside0.mk (show w1.heap.size = w.heap.size by rw [hw1]; rfl)
  have h := H.out
  clear H H1 hw1
  cases b with
  | true =>
    rw [if_pos rfl] at h
    obtain ⟨T, h2, h⟩ := Option.bind_eq_some_iff.1 h
    obtain ⟨d, h3, h⟩ := Option.bind_eq_some_iff.1 h
    simp only [Option.some.injEq, Prod.mk.injEq] at h
    obtain ⟨rfl, rfl⟩ := h
    have H2 := Aside0.mk h2
    have H3 := Aside0.mk h3
    clear h2 h3
    go_wp2_with fail
    refine (spec_l04Gram.calls 3000 a0 a1 a2 a3 T _ H2.out).mono ?_
    rintro e w2 ⟨v0, rfl, hS, hB⟩
    rw [HZ.out] at hS hB
    have HS := Aside0.mk hS
    have HB2 := Aside0.mk (below_step HB.out (by rw [HZ.out]; exact hB))
    clear hS hB
    go_wp2_with fail
    refine (rad_S w _ v0 T d a0 HB2.out HS.out H3.out).mono ?_
    rintro e w3 ⟨v3, rfl, hS3, hB3⟩
    have HB3 := Aside0.mk hB3
    have HS3 := Aside0.mk hS3
    clear hB3 hS3
    obtain ⟨Av, cv, ev⟩ := Kd.S_slice HS3.out
    subst ev
    go_wp2_with fail
    go_ret2
    exact ⟨_, rfl, HS3.out, HB3.out⟩
  | false =>
    rw [if_neg (by decide)] at h
    simp only [Option.some.injEq, Prod.mk.injEq] at h
    obtain ⟨rfl, rfl⟩ := h
    go_wp2_with fail
    go_ret2
    exact ⟨_, rfl, S_none _ _, HB.out⟩
end Go.Proofs.Ytmpdloamgiejhaa.Hand
