/- The contracts of GramDeterminant and GramRank of the program and of the reference. No condition. -/
import Derived.Test.YtmpdloamgiejhaaHandG
namespace Go.Proofs.Ytmpdloamgiejhaa.Hand
open Go.RowKit Go.Proofs.YtmpdloamgiejhaaW.PrintWords Go.Proofs.YtmpdloamgiejhaaW.PrintLast Go.Proofs.YtmpdloamgiejhaaW.PrintMore
set_option linter.unusedVariables false
set_option linter.unusedSimpArgs false

/-- Square tables that the eliminations bear. -/
def Sqr (T : List (List Int)) : Prop := 0 < T.length ∧ T.length ≤ 100 ∧ ∀ r ∈ T, r.length = T.length
instance (T : List (List Int)) : Decidable (Sqr T) := by unfold Sqr; infer_instance
def iv1 (p x : Int) : Int := (spec_l01Inverse.f 3000 p x).getD 0
def iv2 (p x : Int) : Int := (impl_inverse.f 3000 x p).getD 0
theorem inv1_go (p x : Int) (h2 : 2 ≤ p) (h1 : p ≤ 100) : ∀ (d k : Nat) (i : Int), 1 ≤ i → p - i ≤ (d : Int) → d < k → ∃ r, spec_l01Inverse.l0 k p x i = some r := by
  intro d
  induction d with
  | zero =>
    intro k i hi hd hk
    obtain ⟨k, rfl⟩ : ∃ m, k = m + 1 := ⟨k - 1, by omega⟩
    simp only [spec_l01Inverse.l0]
    rw [if_neg (by omega)]
    exact ⟨_, rfl⟩
  | succ d ih =>
    intro k i hi hd hk
    obtain ⟨k, rfl⟩ : ∃ m, k = m + 1 := ⟨k - 1, by omega⟩
    simp only [spec_l01Inverse.l0, spec_l01Mod.f]
    by_cases h : i < p
    · rw [if_pos h, if_neg (show ¬ p = 0 by omega), Option.bind_some, if_neg (show ¬ p = 0 by omega)]
      split
      · exact ⟨_, rfl⟩
      · rw [show wrap64 (i + 1) = i + 1 by unfold wrap64; omega]
        exact ih k (i + 1) (by omega) (by omega) (by omega)
    · rw [if_neg h]; exact ⟨_, rfl⟩
theorem inv1_some {p : Int} (h2 : 2 ≤ p) (h1 : p ≤ 100) (x : Int) : spec_l01Inverse.f 3000 p x = some (iv1 p x) := by
  obtain ⟨r, hr⟩ := inv1_go p x h2 h1 100 3000 1 (by omega) (by omega) (by omega)
  unfold iv1 spec_l01Inverse.f
  rw [hr]; rfl
theorem pow_go (a p : Int) (h2 : 2 ≤ p) (n : Int) (hn : n ≤ 100) : ∀ (d k : Nat) (i out : Int), 0 ≤ i → n - i ≤ (d : Int) → d < k → ∃ r, impl_power.l0 k a p out n i = some r := by
  intro d
  induction d with
  | zero =>
    intro k i out hi hd hk
    obtain ⟨k, rfl⟩ : ∃ m, k = m + 1 := ⟨k - 1, by omega⟩
    simp only [impl_power.l0]
    rw [if_neg (by omega)]
    exact ⟨_, rfl⟩
  | succ d ih =>
    intro k i out hi hd hk
    obtain ⟨k, rfl⟩ : ∃ m, k = m + 1 := ⟨k - 1, by omega⟩
    simp only [impl_power.l0]
    by_cases h : i < n
    · rw [if_pos h, if_neg (show ¬ p = 0 by omega), show wrap64 (i + 1) = i + 1 by unfold wrap64; omega]
      exact ih k (i + 1) _ (by omega) (by omega) (by omega)
    · rw [if_neg h]; exact ⟨_, rfl⟩
theorem inv2_some {p : Int} (h2 : 2 ≤ p) (h1 : p ≤ 100) (x : Int) : impl_inverse.f 3000 x p = some (iv2 p x) := by
  obtain ⟨r, hr⟩ := pow_go x p h2 (wrap64 (p - 2)) (by unfold wrap64; omega) 100 3000 0 1 (by omega) (by unfold wrap64; omega) (by omega)
  have e : impl_inverse.f 3000 x p = some r := by
    unfold impl_inverse.f impl_power.f
    rw [hr]; rfl
  unfold iv2
  rw [e]; rfl
def detF (T : List (List Int)) (p : Int) : Option Int := if p ≠ 0 ∧ Sqr T then dt0 3000 p T.length T.length 0 T (1 % p) else none
def echF (p : Int) (T : List (List Int)) : Option (Int × Int) := if (2 ≤ p ∧ p ≤ 100) ∧ Sqr T then some ((e0 p (iv1 p) T.length T.length 0 T 1 0).1, ((e0 p (iv1 p) T.length T.length 0 T 1 0).2 : Int)) else none
def iechF (T : List (List Int)) (p : Int) : Option Int := if (2 ≤ p ∧ p ≤ 100) ∧ Sqr T then some ((g0 p (iv2 p) T.length T.length T.length 0 T 0).2 : Int) else none
theorem det_S (w0 w : World) (v : Value) (T : List (List Int)) (p r : Int) (hB : Below w0.heap.size w0 w) (hS : Kd.S (Kd.slice 2 (Kd.int .i64)) 34 w w0.heap.size (fun _ => True) v T) (h : detF T p = some r) :
    Calls Try.prog 27 #[v, .int .i64 p] w fun e w' => e = .returned (.int .i64 r) ∧ Below w0.heap.size w0 w' := by
  unfold detF at h
  split at h
  · rename_i hc
    obtain ⟨hp, h1, h2, h3⟩ := hc
    obtain ⟨A, c, rfl⟩ := Kd.S_slice hS
    obtain ⟨g, bs, cs, rfl, _, hcc, hmax, hT, _⟩ := Tab.of_S hS h3 h1 h1
    exact det_calls 3000 w0 w g T.length c bs cs T p r hB hT rfl h2 hcc hmax hp h
  · cases h
theorem ech_S (w0 w : World) (v : Value) (T : List (List Int)) (p d r : Int) (hB : Below w0.heap.size w0 w) (hS : Kd.S (Kd.slice 2 (Kd.int .i64)) 34 w w0.heap.size (fun _ => True) v T) (h : echF p T = some (d, r)) :
    Calls Try.prog 28 #[.int .i64 p, v] w fun e w' => e = .returned (.tuple #[.int .i64 d, .int .i64 r]) ∧ Below w0.heap.size w0 w' := by
  unfold echF at h
  split at h
  · rename_i hc
    obtain ⟨⟨hp1, hp2⟩, h1, h2, h3⟩ := hc
    simp only [Option.some.injEq, Prod.mk.injEq] at h
    obtain ⟨rfl, rfl⟩ := h
    obtain ⟨A, c, rfl⟩ := Kd.S_slice hS
    obtain ⟨g, bs, cs, rfl, _, hcc, hmax, hT, _⟩ := Tab.of_S hS h3 h1 h1
    exact ech_calls 3000 (iv1 p) w0 w g T.length c bs cs T p _ _ hB hT rfl h2 (by omega) (inv1_some hp1 hp2) rfl
  · cases h
theorem iech_S (w0 w : World) (v : Value) (T : List (List Int)) (p r : Int) (hB : Below w0.heap.size w0 w) (hS : Kd.S (Kd.slice 2 (Kd.int .i64)) 34 w w0.heap.size (fun _ => True) v T) (h : iechF T p = some r) :
    Calls Try.prog 29 #[v, .int .i64 (T.length : Int), .int .i64 p] w fun e w' => e = .returned (.int .i64 r) ∧ Below w0.heap.size w0 w' := by
  unfold iechF at h
  split at h
  · rename_i hc
    obtain ⟨⟨hp1, hp2⟩, h1, h2, h3⟩ := hc
    obtain rfl := Option.some.inj h
    obtain ⟨A, c, rfl⟩ := Kd.S_slice hS
    obtain ⟨g, bs, cs, rfl, _, hcc, hmax, hT, _⟩ := Tab.of_S hS h3 h1 h1
    exact (iech_calls 3000 (iv2 p) w0 w g T.length T.length c bs cs T _ p _ hB hT rfl h2 h2 (by omega) hcc hmax (inv2_some hp1 hp2) rfl).mono fun _ _ h => ⟨h.1, h.2.1⟩
  · cases h
/-! #### the functions -/
def impl_GramDeterminant.f (a0 a1 a2 a3 : Int) : Option (Int × Int) := (impl_GramTable.f 3000 a0 a1 a2 a3).bind fun t => if t.2 = 0 then (detF t.1 a0).bind fun d => some (d, 0) else some (0, t.2)
def spec_GramDeterminant.f (a0 a1 a2 a3 : Int) : Option (Int × Int) := (spec_l04Two.f 3000 a0 a1 a2 a3).bind fun b => if b = true then (spec_l04Gram.f 3000 a0 a1 a2 a3).bind fun t => (echF a0 t).bind fun d => some (d.1, 0) else some (0, 2)
def impl_GramRank.f (a0 a1 a2 a3 : Int) : Option (Int × Int) := (impl_GramTable.f 3000 a0 a1 a2 a3).bind fun t => if t.2 = 0 then (iechF t.1 a0).bind fun d => some (d, 0) else some (0, t.2)
def spec_GramRank.f (a0 a1 a2 a3 : Int) : Option (Int × Int) := (spec_l04Two.f 3000 a0 a1 a2 a3).bind fun b => if b = true then (spec_l04Gram.f 3000 a0 a1 a2 a3).bind fun t => (echF a0 t).bind fun d => some (d.2, 0) else some (0, 2)
theorem impl_GramDeterminant.calls (a0 a1 a2 a3 r1 r2 : Int) (w : World) (h : impl_GramDeterminant.f a0 a1 a2 a3 = some (r1, r2)) :
    Calls Try.prog 9 #[.int .i64 a0, .int .i64 a1, .int .i64 a2, .int .i64 a3] w fun e w' => e = .returned (.tuple #[.int .i64 r1, .int .i64 r2]) ∧ Below w.heap.size w w' := by
  unfold impl_GramDeterminant.f at h
  obtain ⟨⟨T, code⟩, h1, h⟩ := Option.bind_eq_some_iff.1 h
  simp only at h
  have H1 := Aside0.mk h1
  have H := Aside0.mk h
  clear h1 h
  go_enter Try.func9, Try.ntmps9
  go_wp2_with fail
  refine (impl_GramTable.calls 3000 a0 a1 a2 a3 T code _ H1.out).mono ?_
  rintro e w1 ⟨v0, rfl, hS, hB⟩
  have HS := Aside0.mk hS
  have HB := Aside0.mk hB
  have h := H.out
  clear hS hB H H1
  by_cases hc : code = 0
  · rw [if_pos hc] at h
    obtain ⟨d, h2, h⟩ := Option.bind_eq_some_iff.1 h
    simp only [Option.some.injEq, Prod.mk.injEq] at h
    obtain ⟨rfl, rfl⟩ := h
    have H2 := Aside0.mk h2
    subst hc
    clear h2
    go_wp2_with fail
    refine (det_S w _ v0 T a0 d HB.out HS.out H2.out).mono ?_
    rintro e w2 ⟨rfl, hB2⟩
    have HB2 := Aside0.mk hB2
    clear hB2
    go_wp2_with fail
    go_ret2
    exact ⟨rfl, HB2.out⟩
  · rw [if_neg hc] at h
    simp only [Option.some.injEq, Prod.mk.injEq] at h
    obtain ⟨rfl, rfl⟩ := h
    have c1 : (code != 0) = true := by rw [bne_iff_ne]; exact hc
    clear hc
    go_wp2_with fail
    go_ret2
    exact ⟨rfl, HB.out⟩
theorem impl_GramRank.calls (a0 a1 a2 a3 r1 r2 : Int) (w : World) (h : impl_GramRank.f a0 a1 a2 a3 = some (r1, r2)) :
    Calls Try.prog 11 #[.int .i64 a0, .int .i64 a1, .int .i64 a2, .int .i64 a3] w fun e w' => e = .returned (.tuple #[.int .i64 r1, .int .i64 r2]) ∧ Below w.heap.size w w' := by
  unfold impl_GramRank.f at h
  obtain ⟨⟨T, code⟩, h1, h⟩ := Option.bind_eq_some_iff.1 h
  simp only at h
  have H1 := Aside0.mk h1
  have H := Aside0.mk h
  clear h1 h
  go_enter Try.func11, Try.ntmps11
  go_wp2_with fail
  refine (impl_GramTable.calls 3000 a0 a1 a2 a3 T code _ H1.out).mono ?_
  rintro e w1 ⟨v0, rfl, hS, hB⟩
  have HS := Aside0.mk hS
  have HB := Aside0.mk hB
  have h := H.out
  clear hS hB H H1
  by_cases hc : code = 0
  · rw [if_pos hc] at h
    obtain ⟨d, h2, h⟩ := Option.bind_eq_some_iff.1 h
    simp only [Option.some.injEq, Prod.mk.injEq] at h
    obtain ⟨rfl, rfl⟩ := h
    have H2 := Aside0.mk h2
    obtain ⟨A, c, rfl⟩ := Kd.S_slice HS.out
    subst hc
    clear h2
    go_wp2_with fail
    refine (iech_S w _ (.slice A T.length c) T a0 d HB.out HS.out H2.out).mono ?_
    rintro e w2 ⟨rfl, hB2⟩
    have HB2 := Aside0.mk hB2
    clear hB2
    go_wp2_with fail
    go_ret2
    exact ⟨rfl, HB2.out⟩
  · rw [if_neg hc] at h
    simp only [Option.some.injEq, Prod.mk.injEq] at h
    obtain ⟨rfl, rfl⟩ := h
    have c1 : (code != 0) = true := by rw [bne_iff_ne]; exact hc
    clear hc
    go_wp2_with fail
    go_ret2
    exact ⟨rfl, HB.out⟩
theorem spec_GramDeterminant.calls (a0 a1 a2 a3 r1 r2 : Int) (w : World) (h : spec_GramDeterminant.f a0 a1 a2 a3 = some (r1, r2)) :
    Calls Try.prog 10 #[.int .i64 a0, .int .i64 a1, .int .i64 a2, .int .i64 a3] w fun e w' => e = .returned (.tuple #[.int .i64 r1, .int .i64 r2]) ∧ Below w.heap.size w w' := by
  unfold spec_GramDeterminant.f at h
  obtain ⟨b, h1, h⟩ := Option.bind_eq_some_iff.1 h
  have H1 := Aside0.mk h1
  have H := Aside0.mk h
  clear h1 h
  go_enter Try.func10, Try.ntmps10
  go_wp2_with fail
  refine (spec_l04Two.calls 3000 a0 a1 a2 a3 b _ H1.out).mono ?_
  rintro e w1 ⟨rfl, ⟨nd, rfl⟩⟩
  obtain ⟨w1, hw1⟩ : ∃ w1, w1 = w.drewN nd := ⟨_, rfl⟩
  rw [← hw1]
  have HB := Aside0.mk (show Below w.heap.size w w1 by rw [hw1]; exact pw_below_drewN (Below.refl _ _) nd)
  have HZ := Aside0.mk (show w1.heap.size = w.heap.size by rw [hw1]; rfl)
  have h := H.out
  clear H H1 hw1
  cases b with
  | true =>
    rw [if_pos rfl] at h
    obtain ⟨T, h2, h⟩ := Option.bind_eq_some_iff.1 h
    obtain ⟨⟨d, r⟩, h3, h⟩ := Option.bind_eq_some_iff.1 h
    simp only [Option.some.injEq, Prod.mk.injEq] at h
    obtain ⟨rfl, rfl⟩ := h
    have H2 := Aside0.mk h2
    have H3 := Aside0.mk h3
    clear h2 h3
    go_wp2_with fail
    refine (spec_l04Gram.calls 3000 a0 a1 a2 a3 T _ H2.out).mono ?_
    rintro e w2 ⟨v0, rfl, hS, hB⟩
    rw [HZ.out] at hS hB
    have HS := Aside0.mk hS
    have HB2 := Aside0.mk (below_step HB.out (by rw [HZ.out]; exact hB))
    clear hS hB
    go_wp2_with fail
    refine (ech_S w _ v0 T a0 d r HB2.out HS.out H3.out).mono ?_
    rintro e w3 ⟨rfl, hB3⟩
    have HB3 := Aside0.mk hB3
    clear hB3
    go_wp2_with fail
    go_ret2
    exact ⟨rfl, HB3.out⟩
  | false =>
    rw [if_neg (by decide)] at h
    simp only [Option.some.injEq, Prod.mk.injEq] at h
    obtain ⟨rfl, rfl⟩ := h
    go_wp2_with fail
    go_ret2
    exact ⟨rfl, HB.out⟩
theorem spec_GramRank.calls (a0 a1 a2 a3 r1 r2 : Int) (w : World) (h : spec_GramRank.f a0 a1 a2 a3 = some (r1, r2)) :
    Calls Try.prog 12 #[.int .i64 a0, .int .i64 a1, .int .i64 a2, .int .i64 a3] w fun e w' => e = .returned (.tuple #[.int .i64 r1, .int .i64 r2]) ∧ Below w.heap.size w w' := by
  unfold spec_GramRank.f at h
  obtain ⟨b, h1, h⟩ := Option.bind_eq_some_iff.1 h
  have H1 := Aside0.mk h1
  have H := Aside0.mk h
  clear h1 h
  go_enter Try.func12, Try.ntmps12
  go_wp2_with fail
  refine (spec_l04Two.calls 3000 a0 a1 a2 a3 b _ H1.out).mono ?_
  rintro e w1 ⟨rfl, ⟨nd, rfl⟩⟩
  obtain ⟨w1, hw1⟩ : ∃ w1, w1 = w.drewN nd := ⟨_, rfl⟩
  rw [← hw1]
  have HB := Aside0.mk (show Below w.heap.size w w1 by rw [hw1]; exact pw_below_drewN (Below.refl _ _) nd)
  have HZ := Aside0.mk (show w1.heap.size = w.heap.size by rw [hw1]; rfl)
  have h := H.out
  clear H H1 hw1
  cases b with
  | true =>
    rw [if_pos rfl] at h
    obtain ⟨T, h2, h⟩ := Option.bind_eq_some_iff.1 h
    obtain ⟨⟨d, r⟩, h3, h⟩ := Option.bind_eq_some_iff.1 h
    simp only [Option.some.injEq, Prod.mk.injEq] at h
    obtain ⟨rfl, rfl⟩ := h
    have H2 := Aside0.mk h2
    have H3 := Aside0.mk h3
    clear h2 h3
    go_wp2_with fail
    refine (spec_l04Gram.calls 3000 a0 a1 a2 a3 T _ H2.out).mono ?_
    rintro e w2 ⟨v0, rfl, hS, hB⟩
    rw [HZ.out] at hS hB
    have HS := Aside0.mk hS
    have HB2 := Aside0.mk (below_step HB.out (by rw [HZ.out]; exact hB))
    clear hS hB
    go_wp2_with fail
    refine (ech_S w _ v0 T a0 d r HB2.out HS.out H3.out).mono ?_
    rintro e w3 ⟨rfl, hB3⟩
    have HB3 := Aside0.mk hB3
    clear hB3
    go_wp2_with fail
    go_ret2
    exact ⟨rfl, HB3.out⟩
  | false =>
    rw [if_neg (by decide)] at h
    simp only [Option.some.injEq, Prod.mk.injEq] at h
    obtain ⟨rfl, rfl⟩ := h
    go_wp2_with fail
    go_ret2
    exact ⟨rfl, HB.out⟩
end Go.Proofs.Ytmpdloamgiejhaa.Hand
