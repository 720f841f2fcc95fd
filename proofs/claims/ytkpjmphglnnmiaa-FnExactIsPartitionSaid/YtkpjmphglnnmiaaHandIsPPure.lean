/- The reference's test of a partition and the implementation's say the same: plain Lean. No condition. -/
import Derived.Test.YtkpjmphglnnmiaaHandIsP
namespace Go.Proofs.Ytkpjmphglnnmiaa.Hand
set_option linter.unusedVariables false

/-- The labels from nought below k. -/
def rng (k : Nat) : List Int := (List.range k).map (fun (n : Nat) => (n : Int))
theorem rng_len (k : Nat) : (rng k).length = k := by simp [rng]
theorem rng_succ (k : Nat) : rng (k + 1) = rng k ++ [(k : Int)] := by simp [rng, List.range_succ]
theorem rng_mem (k : Nat) (x : Int) : x ∈ rng k ↔ 0 ≤ x ∧ x < (k : Int) := by
  unfold rng
  rw [List.mem_map]
  constructor
  · rintro ⟨n, hn, rfl⟩
    rw [List.mem_range] at hn
    omega
  · rintro ⟨h0, h1⟩
    exact ⟨x.toNat, by rw [List.mem_range]; omega, by omega⟩
theorem rng_idx : ∀ (k : Nat) (x : Int), 0 ≤ x → x < (k : Int) → ((rng k).idxOf x : Int) = x
  | 0, x, h0, h1 => by omega
  | k + 1, x, h0, h1 => by
    rw [rng_succ, List.idxOf_append]
    by_cases h : x ∈ rng k
    · rw [if_pos h]
      exact rng_idx k x h0 ((rng_mem k x).1 h).2
    · rw [if_neg h, rng_len]
      have e : x = (k : Int) := by
        have := mt (rng_mem k x).2 h
        omega
      subst e
      simp
/-- The name of place j. -/
def nmAt (m : Nat) (b : List Int) (j : Nat) : Int := if j < m then ((nmS (pl b) j).idxOf (pl b j) : Int) else 0
theorem nmB_at (m : Nat) (b : List Int) : ∀ i, i ≤ 8 → ∀ j, j < 8 → (nmB (pl b) i).getD j 0 = nmAt i b j
  | 0, _, j, hj => by
    rw [nmB, nmAt, if_neg (by omega), List.getD_eq_getElem?_getD, List.getElem?_replicate]
    simp [hj]
  | i + 1, hi, j, hj => by
    have ih := nmB_at m b i (by omega) j hj
    rw [nmB, List.getD_eq_getElem?_getD, List.getElem?_set]
    by_cases e : i = j
    · subst e
      rw [if_pos rfl, nmB_len, if_pos (by omega), nmAt, if_pos (by omega)]
      rfl
    · rw [if_neg e, ← List.getD_eq_getElem?_getD, ih]
      unfold nmAt
      by_cases h : j < i
      · rw [if_pos h, if_pos (by omega)]
      · rw [if_neg h, if_neg (by omega)]
theorem ball_step (i : Nat) (hi : i < 8) (p : Nat → Prop) : (∀ j, i ≤ j → j < 8 → p j) ↔ (p i ∧ ∀ j, i + 1 ≤ j → j < 8 → p j) := by
  constructor
  · intro h
    exact ⟨h i (Nat.le_refl _) hi, fun j hj => h j (by omega)⟩
  · rintro ⟨h0, h1⟩ j hj h8
    by_cases e : j = i
    · subst e; exact h0
    · exact h1 j (by omega) h8
theorem isQ_iff (N : Nat) (b : List Int) (hby : ∀ x ∈ b, 0 ≤ x ∧ x ≤ 255) : ∀ (d i k : Nat), i + d = 8 → (i ≤ 2 * N → nmS (pl b) i = rng k) →
    (isQ N b d i k = true ↔ ∀ j, i ≤ j → j < 8 → b.getD j 0 = nmAt (2 * N) b j)
  | 0, i, k, hd, hk => by
    rw [isQ]
    exact ⟨fun _ j h1 h2 => by omega, fun _ => rfl⟩
  | d + 1, i, k, hd, hk => by
    rw [isQ, ball_step i (by omega)]
    by_cases h : 2 * N ≤ i
    · rw [if_pos (by omega), show nmAt (2 * N) b i = 0 by rw [nmAt, if_neg (by omega)]]
      by_cases h0 : b.getD i 0 = 0
      · rw [if_pos h0, isQ_iff N b hby d (i + 1) k (by omega) (fun h => by omega)]
        exact ⟨fun h => ⟨h0, h⟩, fun h => h.2⟩
      · rw [if_neg h0]
        exact ⟨fun h => absurd h (by simp), fun h => absurd h.1 h0⟩
    · rw [if_neg (by omega), show nmAt (2 * N) b i = ((nmS (pl b) i).idxOf (pl b i) : Int) by rw [nmAt, if_pos (by omega)]]
      have hs := hk (by omega)
      have hx : 0 ≤ b.getD i 0 := (pl_range hby i).1
      have hp : pl b i = b.getD i 0 := rfl
      rw [hs, hp]
      generalize hX : b.getD i 0 = x at hx hp ⊢
      by_cases h1 : (k : Int) < x
      · rw [if_pos h1]
        have hm : x ∉ rng k := by rw [rng_mem]; omega
        rw [List.idxOf_eq_length hm, rng_len]
        exact ⟨fun h => absurd h (by simp), fun h => by omega⟩
      · rw [if_neg h1]
        by_cases h2 : x = (k : Int)
        · rw [if_pos h2]
          have hm : x ∉ rng k := by rw [rng_mem]; omega
          have ih := isQ_iff N b hby d (i + 1) (k + 1) (by omega) (fun h => by rw [nmS, hs, hp, if_neg hm, rng_succ, h2])
          rw [show ((k + 1 : Nat) : Int) = (k : Int) + 1 by omega] at ih
          rw [ih, List.idxOf_eq_length hm, rng_len]
          exact ⟨fun h => ⟨h2, h⟩, fun h => h.2⟩
        · rw [if_neg h2]
          have hm : x ∈ rng k := by rw [rng_mem]; omega
          rw [isQ_iff N b hby d (i + 1) k (by omega) (fun h => by rw [nmS, hs, hp, if_pos hm]), rng_idx k x hx (by omega)]
          exact ⟨fun h => ⟨rfl, h⟩, fun h => h.2⟩
theorem list_ext8 (a b : List Int) (ha : a.length = 8) (hb : b.length = 8) : a = b ↔ ∀ j, 0 ≤ j → j < 8 → a.getD j 0 = b.getD j 0 := by
  constructor
  · rintro rfl j _ _; rfl
  · intro h
    apply List.ext_getElem (by omega)
    intro j h1 h2
    have := h j (Nat.zero_le _) (by omega)
    rw [List.getD_eq_getElem?_getD, List.getD_eq_getElem?_getD, List.getElem?_eq_getElem h1, List.getElem?_eq_getElem h2] at this
    exact this
theorem isQ_named (N : Nat) (h4 : N ≤ 4) (b : List Int) (hb : b.length = 8) (hby : ∀ x ∈ b, 0 ≤ x ∧ x ≤ 255) : decide (b = nmB (pl b) (2 * N)) = isQ N b 8 0 0 := by
  have h := isQ_iff N b hby 8 0 0 rfl (fun _ => rfl)
  have e : b = nmB (pl b) (2 * N) ↔ isQ N b 8 0 0 = true := by
    refine ((list_ext8 b _ hb (nmB_len _ _)).trans ?_).trans h.symm
    constructor
    · intro h j h0 h8; rw [h j h0 h8, nmB_at 0 b _ (by omega) j h8]
    · intro h j h0 h8; rw [h j h0 h8, nmB_at 0 b _ (by omega) j h8]
  by_cases q : b = nmB (pl b) (2 * N)
  · rw [decide_eq_true q, e.1 q]
  · rw [decide_eq_false q]
    cases hq : isQ N b 8 0 0 with
    | true => exact absurd (e.2 hq) q
    | false => rfl
end Go.Proofs.Ytkpjmphglnnmiaa.Hand
