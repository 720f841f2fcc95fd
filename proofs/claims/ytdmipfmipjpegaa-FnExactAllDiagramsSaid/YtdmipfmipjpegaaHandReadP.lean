/- The plain law of reading: the bytes that the reference joins bracket by bracket are those that the program joins place by place. No condition. -/
import Derived.Test.YtdmipfmipjpegaaHandRead
namespace Go.Proofs.Ytdmipfmipjpegaa.Hand
open Go.RowKit Go.Proofs.YtdmipfmipjpegaaW.PrintWords Go.Proofs.YtdmipfmipjpegaaW.PrintLast Go.Proofs.YtdmipfmipjpegaaW.PrintMore
set_option linter.unusedVariables false
set_option linter.unusedSimpArgs false

/-- The partners of the places, read from the left, and the places of the brackets that are open. -/
def pscan (N : Nat) (t : Nat → Int) : Nat → Option (List Nat × List Nat)
  | 0 => some (List.replicate N 0, [])
  | i + 1 => match pscan N t i with
    | none => none
    | some (p, st) => if t i = 40 then some (p, st ++ [i]) else if t i = 41 ∧ st ≠ [] then some ((p.set (st.getD (st.length - 1) 0) i).set i (st.getD (st.length - 1) 0), st.take (st.length - 1)) else none
/-- The bytes of the diagram in which places are joined, after k of them. -/
def jB (n : Nat) (p : List Nat) : Nat → List Int
  | 0 => List.replicate 16 0
  | k + 1 => (jB n p k).set (pl n k) ((pl n (p.getD k 0) : Nat) : Int)
theorem jB_len (n : Nat) (p : List Nat) : ∀ k, (jB n p k).length = 16
  | 0 => by simp [jB]
  | k + 1 => by rw [jB, List.length_set, jB_len n p k]
theorem pl_inj {n i j : Nat} (hi : i < 2 * n) (hj : j < 2 * n) (h : pl n i = pl n j) : i = j := by
  unfold pl at h
  split at h <;> split at h <;> omega
theorem pl_pl {n i : Nat} (hi : i < 2 * n) : pl n (pl n i) = i := by
  by_cases h : i < n
  · have e : pl n i = i := by unfold pl; rw [if_pos h]
    rw [e, e]
  · have e : pl n i = 3 * n - 1 - i := by unfold pl; rw [if_neg h]
    rw [e]
    unfold pl
    rw [if_neg (by omega)]
    omega
theorem getD_set (l : List Int) (i j : Nat) (v : Int) : (l.set i v).getD j 0 = if i = j ∧ i < l.length then v else l.getD j 0 := by
  simp only [List.getD_eq_getElem?_getD, List.getElem?_set]
  by_cases h : i = j
  · subst h
    by_cases h2 : i < l.length
    · simp [h2]
    · simp [h2]
  · simp [h]
theorem getD_setN (l : List Nat) (i j : Nat) (v : Nat) : (l.set i v).getD j 0 = if i = j ∧ i < l.length then v else l.getD j 0 := by
  simp only [List.getD_eq_getElem?_getD, List.getElem?_set]
  by_cases h : i = j
  · subst h
    by_cases h2 : i < l.length
    · simp [h2]
    · simp [h2]
  · simp [h]
/-- Both readings go in step. -/
theorem both (n : Nat) (hn : n ≤ 8) (t : Nat → Int) : ∀ i, i ≤ 2 * n →
    (scan n t i = none ∧ pscan (2 * n) t i = none) ∨
    ∃ b p st, scan n t i = some (b, st) ∧ pscan (2 * n) t i = some (p, st) ∧ p.length = 2 * n ∧ b.length = 16 ∧ (∀ j, j < st.length → st.getD j 0 < i) ∧
      (∀ j, j < i → (∀ m, m < st.length → st.getD m 0 ≠ j) → b.getD (pl n j) 0 = ((pl n (p.getD j 0) : Nat) : Int)) ∧ (∀ m, 2 * n ≤ m → b.getD m 0 = 0) ∧ (∀ j, p.getD j 0 < 2 * n ∨ n = 0) := by
  intro i
  induction i with
  | zero =>
    intro _
    refine .inr ⟨List.replicate 16 0, List.replicate (2 * n) 0, [], rfl, rfl, by simp, by simp, fun j hj => by simp at hj, fun j hj => by omega, fun m hm => ?_, fun j => ?_⟩
    · simp only [List.getD_eq_getElem?_getD, List.getElem?_replicate]
      split <;> rfl
    · simp only [List.getD_eq_getElem?_getD, List.getElem?_replicate]
      split
      · exact .inl (by simp; omega)
      · by_cases h : n = 0
        · exact .inr h
        · exact .inl (by simp; omega)
  | succ i ih =>
    intro hi
    rcases ih (by omega) with ⟨h1, h2⟩ | ⟨b, p, st, h1, h2, hp, hb, hst, hrel, hz, hlow⟩
    · exact .inl ⟨by simp [scan, h1], by simp [pscan, h2]⟩
    · simp only [scan, pscan, h1, h2]
      by_cases c1 : t i = 40
      · rw [if_pos c1, if_pos c1]
        refine .inr ⟨b, p, st ++ [i], rfl, rfl, hp, hb, fun j hj => ?_, fun j hj hn => ?_, hz, hlow⟩
        · rw [List.length_append, List.length_singleton] at hj
          by_cases hj2 : j < st.length
          · rw [getD_appN _ _ _ hj2]
            have := hst j hj2
            omega
          · have : j = st.length := by omega
            subst this
            simp [List.getD_eq_getElem?_getD]
        · by_cases e : j = i
          · exfalso
            refine hn st.length (by simp) ?_
            simp [List.getD_eq_getElem?_getD, e]
          · refine hrel j (by omega) (fun m hm => ?_)
            have := hn m (by simp; omega)
            rw [getD_appN _ _ _ hm] at this
            exact this
      · rw [if_neg c1, if_neg c1]
        by_cases c2 : t i = 41 ∧ st ≠ []
        · rw [if_pos c2, if_pos c2]
          have hl : 0 < st.length := List.length_pos_iff.2 c2.2
          have hc := hst (st.length - 1) (by omega)
          generalize hcc : st.getD (st.length - 1) 0 = c at hc
          have hpl := pl_lt (n := n) (i := c) (by omega)
          have hpli := pl_lt (n := n) (i := i) (by omega)
          have hne : pl n c ≠ pl n i := fun h => by have := pl_inj (by omega) (by omega) h; omega
          refine .inr ⟨_, _, _, rfl, rfl, by simp [hp], by rw [jn_len, hb], fun j hj => ?_, fun j hj hn => ?_, fun m hm => ?_, fun j => ?_⟩
          · rw [List.length_take] at hj
            rw [List.getD_eq_getElem?_getD, List.getElem?_take_of_lt (by omega), ← List.getD_eq_getElem?_getD]
            have := hst j (by omega)
            omega
          · have L : (jn b (pl n c) (pl n i)).getD (pl n j) 0 = if j = i then ((pl n c : Nat) : Int) else if j = c then ((pl n i : Nat) : Int) else b.getD (pl n j) 0 := by
              unfold jn
              rw [getD_set, List.length_set, hb]
              by_cases e : j = i
              · rw [if_pos e, if_pos ⟨by rw [e], by omega⟩]
              · rw [if_neg e, if_neg (fun h => e (pl_inj (by omega) (by omega) h.1).symm), getD_set, hb]
                by_cases e2 : j = c
                · rw [if_pos e2, if_pos ⟨by rw [e2], by omega⟩]
                · rw [if_neg e2, if_neg (fun h => e2 (pl_inj (by omega) (by omega) h.1).symm)]
            have R : ((p.set c i).set i c).getD j 0 = if j = i then c else if j = c then i else p.getD j 0 := by
              rw [getD_setN, List.length_set, hp]
              by_cases e : j = i
              · rw [if_pos e, if_pos ⟨e.symm, by omega⟩]
              · rw [if_neg e, if_neg (fun h => e h.1.symm), getD_setN, hp]
                by_cases e2 : j = c
                · rw [if_pos e2, if_pos ⟨e2.symm, by omega⟩]
                · rw [if_neg e2, if_neg (fun h => e2 h.1.symm)]
            rw [L, R]
            by_cases e : j = i
            · rw [if_pos e, if_pos e]
            · rw [if_neg e, if_neg e]
              by_cases e2 : j = c
              · rw [if_pos e2, if_pos e2]
              · rw [if_neg e2, if_neg e2]
                refine hrel j (by omega) (fun m hm hmj => ?_)
                by_cases hm2 : m = st.length - 1
                · subst hm2
                  exact e2 (hmj.symm.trans hcc)
                · refine hn m (by rw [List.length_take]; omega) ?_
                  rw [List.getD_eq_getElem?_getD, List.getElem?_take_of_lt (by omega), ← List.getD_eq_getElem?_getD]
                  exact hmj
          · unfold jn
            rw [getD_set, getD_set, if_neg (fun h => by omega), if_neg (fun h => by omega)]
            exact hz m hm
          · rw [getD_setN, getD_setN]
            split
            · exact .inl (by omega)
            · split
              · exact .inl (by omega)
              · exact hlow j
        · rw [if_neg c2, if_neg c2]
          exact .inl ⟨rfl, rfl⟩
theorem jB_at (n : Nat) (hn : n ≤ 8) (p : List Nat) (hp : ∀ j, p.getD j 0 < 2 * n) : ∀ k, k ≤ 2 * n → (∀ j, j < k → (jB n p k).getD (pl n j) 0 = ((pl n (p.getD j 0) : Nat) : Int)) ∧ ∀ m, 2 * n ≤ m → (jB n p k).getD m 0 = 0 := by
  intro k
  induction k with
  | zero =>
    intro _
    refine ⟨fun j hj => by omega, fun m hm => ?_⟩
    simp only [jB, List.getD_eq_getElem?_getD, List.getElem?_replicate]
    split <;> rfl
  | succ k ih =>
    intro hk
    obtain ⟨h1, h2⟩ := ih (by omega)
    have hpk := pl_lt (n := n) (i := k) (by omega)
    refine ⟨fun j hj => ?_, fun m hm => ?_⟩
    · simp only [jB]
      rw [getD_set, jB_len]
      by_cases e : k = j
      · subst e
        rw [if_pos ⟨rfl, by omega⟩]
      · rw [if_neg (fun h => e (pl_inj (by omega) (by omega) h.1))]
        exact h1 j (by omega)
    · simp only [jB]
      rw [getD_set, if_neg (fun h => by omega)]
      exact h2 m hm
/-- What both read is alike. -/
theorem read_same (n : Nat) (h0 : 1 ≤ n) (hn : n ≤ 8) (t : Nat → Int) : readB n t = match pscan (2 * n) t (2 * n) with
    | some (p, []) => (jB n p (2 * n), true)
    | _ => (List.replicate 16 0, false) := by
  unfold readB
  rcases both n hn t (2 * n) (Nat.le_refl _) with ⟨h1, h2⟩ | ⟨b, p, st, h1, h2, hp, hb, hst, hrel, hz, hlow⟩
  · rw [h1, h2]
  · rw [h1, h2]
    cases st with
    | cons a l => rfl
    | nil =>
      simp only [Prod.mk.injEq, and_true]
      have hl : ∀ j, p.getD j 0 < 2 * n := fun j => (hlow j).resolve_right (by omega)
      obtain ⟨g1, g2⟩ := jB_at n hn p hl (2 * n) (Nat.le_refl _)
      refine List.ext_getElem (by rw [hb, jB_len]) (fun m hm1 hm2 => ?_)
      have e1 : b.getD m 0 = b[m] := by rw [List.getD_eq_getElem?_getD, List.getElem?_eq_getElem hm1]; rfl
      have e2 : (jB n p (2 * n)).getD m 0 = (jB n p (2 * n))[m] := by rw [List.getD_eq_getElem?_getD, List.getElem?_eq_getElem hm2]; rfl
      rw [← e1, ← e2]
      by_cases hm : m < 2 * n
      · have hj := pl_lt hm
        have := hrel (pl n m) hj (fun m hm => by simp at hm)
        have h3 := g1 (pl n m) hj
        rw [pl_pl hm] at this h3
        rw [this, h3]
      · rw [hz m (by omega), g2 m (by omega)]
end Go.Proofs.Ytdmipfmipjpegaa.Hand
