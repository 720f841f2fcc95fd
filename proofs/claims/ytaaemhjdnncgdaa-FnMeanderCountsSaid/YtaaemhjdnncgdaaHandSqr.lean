/- Square tables, and what both determinants tell of them. No condition. -/
import Derived.Test.YtaaemhjdnncgdaaHandDet
import Derived.Test.YtaaemhjdnncgdaaHandEch
namespace Go.Proofs.Ytaaemhjdnncgdaa.Hand
open Go.RowKit Go.Proofs.YtaaemhjdnncgdaaW.PrintWords Go.Proofs.YtaaemhjdnncgdaaW.PrintLast Go.Proofs.YtaaemhjdnncgdaaW.PrintMore
set_option linter.unusedVariables false
set_option linter.unusedSimpArgs false

/-- Square tables that the eliminations bear. -/
def Sqr (T : List (List Int)) : Prop := 0 < T.length ∧ T.length ≤ 100 ∧ ∀ r ∈ T, r.length = T.length
instance (T : List (List Int)) : Decidable (Sqr T) := by unfold Sqr; infer_instance
def iv1 (p x : Int) : Int := (spec_l01Inverse.f 3000 p x).getD 0
def iv2 (p x : Int) : Int := (impl_inverse.f 3000 x p).getD 0
theorem inv1_go (p x : Int) (h2 : 2 ≤ p) (h1 : p ≤ 100) : ∀ (d k : Nat) (i : Int), 1 ≤ i → p - i ≤ (d : Int) → d < k → ∃ r, spec_l01Inverse.l0 k p x i = some r := by
  intro d
  induction d with
  | zero =>
    intro k i hi hd hk
    obtain ⟨k, rfl⟩ : ∃ m, k = m + 1 := ⟨k - 1, by omega⟩
    simp only [spec_l01Inverse.l0]
    rw [if_neg (by omega)]
    exact ⟨_, rfl⟩
  | succ d ih =>
    intro k i hi hd hk
    obtain ⟨k, rfl⟩ : ∃ m, k = m + 1 := ⟨k - 1, by omega⟩
    simp only [spec_l01Inverse.l0, spec_l01Mod.f]
    by_cases h : i < p
    · rw [if_pos h, if_neg (show ¬ p = 0 by omega), Option.bind_some, if_neg (show ¬ p = 0 by omega)]
      split
      · exact ⟨_, rfl⟩
      · rw [show wrap64 (i + 1) = i + 1 by unfold wrap64; omega]
        exact ih k (i + 1) (by omega) (by omega) (by omega)
    · rw [if_neg h]; exact ⟨_, rfl⟩
theorem inv1_some {p : Int} (h2 : 2 ≤ p) (h1 : p ≤ 100) (x : Int) : spec_l01Inverse.f 3000 p x = some (iv1 p x) := by
  obtain ⟨r, hr⟩ := inv1_go p x h2 h1 100 3000 1 (by omega) (by omega) (by omega)
  unfold iv1 spec_l01Inverse.f
  rw [hr]; rfl
theorem pow_go (a p : Int) (h2 : 2 ≤ p) (n : Int) (hn : n ≤ 100) : ∀ (d k : Nat) (i out : Int), 0 ≤ i → n - i ≤ (d : Int) → d < k → ∃ r, impl_power.l0 k a p out n i = some r := by
  intro d
  induction d with
  | zero =>
    intro k i out hi hd hk
    obtain ⟨k, rfl⟩ : ∃ m, k = m + 1 := ⟨k - 1, by omega⟩
    simp only [impl_power.l0]
    rw [if_neg (by omega)]
    exact ⟨_, rfl⟩
  | succ d ih =>
    intro k i out hi hd hk
    obtain ⟨k, rfl⟩ : ∃ m, k = m + 1 := ⟨k - 1, by omega⟩
    simp only [impl_power.l0]
    by_cases h : i < n
    · rw [if_pos h, if_neg (show ¬ p = 0 by omega), show wrap64 (i + 1) = i + 1 by unfold wrap64; omega]
      exact ih k (i + 1) _ (by omega) (by omega) (by omega)
    · rw [if_neg h]; exact ⟨_, rfl⟩
theorem inv2_some {p : Int} (h2 : 2 ≤ p) (h1 : p ≤ 100) (x : Int) : impl_inverse.f 3000 x p = some (iv2 p x) := by
  obtain ⟨r, hr⟩ := pow_go x p h2 (wrap64 (p - 2)) (by unfold wrap64; omega) 100 3000 0 1 (by omega) (by unfold wrap64; omega) (by omega)
  have e : impl_inverse.f 3000 x p = some r := by
    unfold impl_inverse.f impl_power.f
    rw [hr]; rfl
  unfold iv2
  rw [e]; rfl
def detF (T : List (List Int)) (p : Int) : Option Int := if p ≠ 0 ∧ Sqr T then dt0 3000 p T.length T.length 0 T (1 % p) else none
def echF (p : Int) (T : List (List Int)) : Option (Int × Int) := if (2 ≤ p ∧ p ≤ 100) ∧ Sqr T then some ((e0 p (iv1 p) T.length T.length 0 T 1 0).1, ((e0 p (iv1 p) T.length T.length 0 T 1 0).2 : Int)) else none
theorem det_S (w0 w : World) (v : Value) (T : List (List Int)) (p r : Int) (hB : Below w0.heap.size w0 w) (hS : Kd.S (Kd.slice 2 (Kd.int .i64)) 40 w w0.heap.size (fun _ => True) v T) (h : detF T p = some r) :
    Calls Try.prog 35 #[v, .int .i64 p] w fun e w' => e = .returned (.int .i64 r) ∧ Below w0.heap.size w0 w' := by
  unfold detF at h
  split at h
  · rename_i hc
    obtain ⟨hp, h1, h2, h3⟩ := hc
    obtain ⟨A, c, rfl⟩ := Kd.S_slice hS
    obtain ⟨g, bs, cs, rfl, _, hcc, hmax, hT⟩ := Tab.of_S hS h3 h1 h1
    exact det_calls 3000 w0 w g T.length c bs cs T p r hB hT rfl h2 hcc hmax hp h
  · cases h
theorem ech_S (w0 w : World) (v : Value) (T : List (List Int)) (p d r : Int) (hB : Below w0.heap.size w0 w) (hS : Kd.S (Kd.slice 2 (Kd.int .i64)) 40 w w0.heap.size (fun _ => True) v T) (h : echF p T = some (d, r)) :
    Calls Try.prog 32 #[.int .i64 p, v] w fun e w' => e = .returned (.tuple #[.int .i64 d, .int .i64 r]) ∧ Below w0.heap.size w0 w' := by
  unfold echF at h
  split at h
  · rename_i hc
    obtain ⟨⟨hp1, hp2⟩, h1, h2, h3⟩ := hc
    simp only [Option.some.injEq, Prod.mk.injEq] at h
    obtain ⟨rfl, rfl⟩ := h
    obtain ⟨A, c, rfl⟩ := Kd.S_slice hS
    obtain ⟨g, bs, cs, rfl, _, hcc, hmax, hT⟩ := Tab.of_S hS h3 h1 h1
    exact ech_calls 3000 (iv1 p) w0 w g T.length c bs cs T p _ _ hB hT rfl h2 (by omega) (inv1_some hp1 hp2) rfl
  · cases h
end Go.Proofs.Ytaaemhjdnncgdaa.Hand
