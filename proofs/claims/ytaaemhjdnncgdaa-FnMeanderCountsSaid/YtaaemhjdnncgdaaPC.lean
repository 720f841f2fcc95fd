/- ComponentDeterminant of the program and of the reference: plain lemmas. No condition. -/
import Derived.Test.YtaaemhjdnncgdaaPE
import Derived.Test.YtaaemhjdnncgdaaPW
namespace Go.Proofs.Ytaaemhjdnncgdaa.PC
open Go.RowKit Go.Proofs.Ytaaemhjdnncgdaa.Hand Go.Proofs.YtaaemhjdnncgdaaW.PrintWords Go.Proofs.YtaaemhjdnncgdaaW.PrintLast Go.Proofs.Ytaaemhjdnncgdaa.PA Go.Proofs.Ytaaemhjdnncgdaa.PE Go.Proofs.Ytaaemhjdnncgdaa.PW
set_option linter.unusedVariables false
set_option linter.unusedSimpArgs false


/-! #### raised tables -/
theorem rr1_go {n m : Nat} {f : Int → Option Int} {g : Int → Int} {r : Nat} {L : List (List Int)} (hf : ∀ j k, f (ent L j k) = some (g (ent L j k))) (hr : r < m) : ∀ (d i : Nat) (L' : List (List Int)), i + d = n → Dm n m L' → (∀ j k, ent L' j k = if j = r ∧ k < i then g (ent L j k) else ent L j k) →
    ∃ R, rr1 f r d i L' = some R ∧ Dm n m R ∧ ∀ j k, ent R j k = if j = r ∧ k < n then g (ent L j k) else ent L j k := by
  intro d
  induction d with
  | zero =>
    intro i L' hi hD he
    obtain rfl : i = n := by omega
    exact ⟨L', rfl, hD, he⟩
  | succ d ih =>
    intro i L' hi hD he
    have a1 : ent L' r i = ent L r i := by rw [he, if_neg (by omega)]
    rw [rr1, a1, hf, Option.bind_some]
    refine ih (i + 1) _ (by omega) (hD.put r i _ hr) fun j k => ?_
    rw [put_ent _ _ _ _ (by rw [hD.1]; exact hr) (by rw [hD.2 r hr]; omega), he j k]
    by_cases e : r = j
    · by_cases e2 : i = k
      · rw [if_pos ⟨e, e2⟩, if_pos ⟨e.symm, by omega⟩, ← e2, e]
      · rw [if_neg (fun h => e2 h.2)]
        by_cases e3 : k < i
        · rw [if_pos ⟨e.symm, e3⟩, if_pos ⟨e.symm, by omega⟩]
        · rw [if_neg (fun h => e3 h.2), if_neg (fun h => by omega)]
    · rw [if_neg (fun h => e h.1), if_neg (fun h => e h.1.symm), if_neg (fun h => e h.1.symm)]
theorem rr0_go {n m : Nat} {f : Int → Option Int} {g : Int → Int} {L : List (List Int)} (hf : ∀ j k, f (ent L j k) = some (g (ent L j k))) : ∀ (d r : Nat) (L' : List (List Int)), r + d = m → Dm n m L' → (∀ j k, k < n → ent L' j k = if j < r then g (ent L j k) else ent L j k) →
    ∃ R, rr0 f n d r L' = some R ∧ Dm n m R ∧ ∀ j k, j < m → k < n → ent R j k = g (ent L j k) := by
  intro d
  induction d with
  | zero =>
    intro r L' hr hD he
    exact ⟨L', rfl, hD, fun j k hj hk => by rw [he j k hk, if_pos (by omega)]⟩
  | succ d ih =>
    intro r L' hr hD he
    have hrm : r < m := by omega
    have hrow : ∀ k, k < n → ent L' r k = ent L r k := fun k hk => by rw [he r k hk, if_neg (by omega)]
    have key : ∀ (d i : Nat) (M : List (List Int)), i + d = n → Dm n m M → (∀ j k, k < n → ent M j k = if j = r ∧ k < i then g (ent L r k) else ent L' j k) → ∃ R, rr1 f r d i M = some R ∧ Dm n m R ∧ ∀ j k, k < n → ent R j k = if j = r then g (ent L r k) else ent L' j k := by
      intro d
      induction d with
      | zero =>
        intro i M hi hDM heM
        refine ⟨M, rfl, hDM, fun j k hk => ?_⟩
        rw [heM j k hk]
        by_cases e : j = r
        · rw [if_pos ⟨e, by omega⟩, if_pos e]
        · rw [if_neg (fun h => e h.1), if_neg e]
      | succ d ih2 =>
        intro i M hi hDM heM
        have hin : i < n := by omega
        have a1 : ent M r i = ent L r i := by rw [heM r i hin, if_neg (by omega), hrow i hin]
        rw [rr1, a1, hf, Option.bind_some]
        refine ih2 (i + 1) _ (by omega) (hDM.put r i _ hrm) fun j k hk => ?_
        rw [put_ent _ _ _ _ (by rw [hDM.1]; exact hrm) (by rw [hDM.2 r hrm]; omega), heM j k hk]
        by_cases e : r = j
        · by_cases e2 : i = k
          · rw [if_pos ⟨e, e2⟩, if_pos ⟨e.symm, by omega⟩, ← e2]
          · rw [if_neg (fun h => e2 h.2)]
            by_cases e3 : k < i
            · rw [if_pos ⟨e.symm, e3⟩, if_pos ⟨e.symm, by omega⟩]
            · rw [if_neg (fun h => e3 h.2), if_neg (fun h => by omega)]
        · rw [if_neg (fun h => e h.1), if_neg (fun h => e h.1.symm), if_neg (fun h => e h.1.symm)]
    obtain ⟨R, h1, hDR, heR⟩ := key n 0 L' (by omega) hD fun j k _ => by rw [if_neg (by omega)]
    rw [rr0, h1, Option.bind_some]
    refine ih (r + 1) R (by omega) hDR fun j k hk => ?_
    rw [heR j k hk]
    by_cases e : j = r
    · subst e; rw [if_pos rfl, if_pos (by omega)]
    · rw [if_neg e, he j k hk]
      by_cases e2 : j < r
      · rw [if_pos e2, if_pos (by omega)]
      · rw [if_neg e2, if_neg (by omega)]
/-! #### the component tables -/
def okC (m : Int) : Bool := match impl_ComponentTable.f 3000 m, spec_l08Table.f 3000 m with
  | some (T, c), some T2 => T == T2 && decide (c = 0) && decide (0 < T.length ∧ T.length ≤ 100) && T.all (fun r => decide (r.length = T.length) && r.all fun x => decide (0 ≤ x ∧ x ≤ 100))
  | _, _ => false
set_option maxRecDepth 100000
theorem okC1 : okC 1 = true := by decide +kernel
theorem okC2 : okC 2 = true := by decide +kernel
theorem okC3 : okC 3 = true := by decide +kernel
theorem okC4 : okC 4 = true := by decide +kernel
theorem table_of {m : Int} (h : okC m = true) : ∃ T, impl_ComponentTable.f 3000 m = some (T, 0) ∧ spec_l08Table.f 3000 m = some T ∧ 0 < T.length ∧ T.length ≤ 100 ∧ (∀ r ∈ T, r.length = T.length) ∧ ∀ r ∈ T, ∀ x ∈ r, 0 ≤ x ∧ x ≤ 100 := by
  unfold okC at h
  split at h
  · rename_i T c T2 h1 h2
    simp only [Bool.and_eq_true, beq_iff_eq, decide_eq_true_eq, List.all_eq_true] at h
    obtain ⟨⟨⟨rfl, rfl⟩, h3, h4⟩, h5⟩ := h
    exact ⟨T, h1, h2, h3, h4, fun r hr => (h5 r hr).1, fun r hr x hx => (h5 r hr).2 x hx⟩
  · cases h
theorem dm_of {T : List (List Int)} (h : ∀ r ∈ T, r.length = T.length) : Dm T.length T.length T := by
  refine ⟨rfl, fun j hj => h _ ?_⟩
  rw [List.getD_eq_getElem?_getD, List.getElem?_eq_getElem hj]
  exact List.getElem_mem _
theorem ent_range {T : List (List Int)} (h : ∀ r ∈ T, ∀ x ∈ r, 0 ≤ x ∧ x ≤ 100) (j k : Nat) : 0 ≤ ent T j k ∧ ent T j k ≤ 100 := by
  unfold ent
  by_cases hj : j < T.length
  · rw [List.getD_eq_getElem?_getD (i := j), List.getElem?_eq_getElem hj, Option.getD_some]
    by_cases hk : k < T[j].length
    · rw [List.getD_eq_getElem?_getD, List.getElem?_eq_getElem hk]
      exact h _ (List.getElem_mem _) _ (List.getElem_mem _)
    · rw [List.getD_eq_getElem?_getD, List.getElem?_eq_none (by omega)]; simp
  · rw [List.getD_eq_getElem?_getD (i := j), List.getElem?_eq_none (by omega)]; simp
theorem numE3 (p c : Int) : spec_l04Numbers.f 3000 p c = some (isP p && decide (0 ≤ c ∧ c ≤ p - 1)) ∧ impl_fieldOk.f 3000 p c = some (isP p && decide (0 ≤ c ∧ c ≤ p - 1)) :=
  ⟨up_f (f := fun k => spec_l04Numbers.f k p c) (spec_l04Numbers.mono p c) (numE p c).1 2700, up_f (f := fun k => impl_fieldOk.f k p c) (impl_fieldOk.mono p c) (numE p c).2 2700⟩
theorem compDet (p c m : Int) : ∃ a b, spec_ComponentDeterminant.f p c m = some (a, b) ∧ impl_ComponentDeterminant.f p c m = some (a, b) := by
  unfold spec_ComponentDeterminant.f impl_ComponentDeterminant.f
  rw [(numE3 p c).1, (numE3 p c).2, Option.bind_some]
  rw [specIn, Option.bind_some]
  by_cases h : 1 ≤ m ∧ m ≤ 4
  · obtain ⟨T, hi, hs, h0, h9, hr, hx⟩ : ∃ T, impl_ComponentTable.f 3000 m = some (T, 0) ∧ spec_l08Table.f 3000 m = some T ∧ 0 < T.length ∧ T.length ≤ 100 ∧ (∀ r ∈ T, r.length = T.length) ∧ ∀ r ∈ T, ∀ x ∈ r, 0 ≤ x ∧ x ≤ 100 := by
      have hm : m = 1 ∨ m = 2 ∨ m = 3 ∨ m = 4 := by omega
      rcases hm with rfl | rfl | rfl | rfl
      · exact table_of okC1
      · exact table_of okC2
      · exact table_of okC3
      · exact table_of okC4
    rw [hi, decide_eq_true h]
    simp only [Option.bind_some]
    cases hn : (isP p && decide (0 ≤ c ∧ c ≤ p - 1)) with
    | false => exact ⟨0, 2, rfl, rfl⟩
    | true =>
      rw [Bool.and_eq_true, decide_eq_true_eq] at hn
      obtain ⟨hp, hc0, hc1⟩ := hn
      obtain ⟨h2, h1⟩ := isP_range hp
      have hD := dm_of hr
      have hw : ∀ x : Int, 0 ≤ x → x ≤ 100 → impl_power.f 3000 c x p = some (pw p c x.toNat 1) ∧ spec_l02Power.f 3000 p c x = some (pw p c x.toNat 1) := by
        intro x x0 x1
        constructor
        · unfold impl_power.f
          exact implPow h2 h1 hc0 (by omega) x x1 x.toNat 3000 1 0 (by omega) (by omega) (by omega) (by omega) (by omega)
        · unfold spec_l02Power.f
          rw [if_neg (by omega), Int.emod_eq_of_lt (by omega) (by omega)]
          have := specPow h2 h1 hc0 (show c < p by omega) x.toNat 3000 1 (by omega) (by omega) (by omega) (by omega)
          rw [Int.toNat_of_nonneg x0] at this
          exact this
      obtain ⟨R1, hR1, hD1, he1⟩ := rr0_go (n := T.length) (f := fun x => impl_power.f 3000 c x p) (g := fun x => pw p c x.toNat 1) (L := T) (fun j k => (hw _ (ent_range hx j k).1 (ent_range hx j k).2).1) T.length 0 T (by omega) hD fun j k _ => by rw [if_neg (by omega)]
      obtain ⟨R2, hR2, hD2, he2⟩ := rr0_go (n := T.length) (f := fun x => spec_l02Power.f 3000 p c x) (g := fun x => pw p c x.toNat 1) (L := T) (fun j k => (hw _ (ent_range hx j k).1 (ent_range hx j k).2).2) T.length 0 T (by omega) hD fun j k _ => by rw [if_neg (by omega)]
      obtain rfl : R1 = R2 := tab_ext hD1 hD2 fun j k hj hk => by rw [he1 j k hj hk, he2 j k hj hk]
      have hl : R1.length = T.length := hD1.1
      have hRg : Rg p R1 := Rg.of h2 hD1 fun j k hj hk => by rw [he1 j k hj hk]; exact pw_range h2 hc0 _ _ (by omega) (by omega)
      have hrows : ∀ r ∈ R1, r.length = R1.length := by
        intro r hr1
        obtain ⟨j, hj, rfl⟩ := List.getElem_of_mem hr1
        have := hD1.2 j (by rw [← hl]; exact hj)
        rw [List.getD_eq_getElem?_getD, List.getElem?_eq_getElem hj, Option.getD_some] at this
        rw [this, hl]
      have hS : Sqr R1 := ⟨by omega, by omega, hrows⟩
      have hD3 : Dm R1.length R1.length R1 := by rw [hl]; exact hD1
      have d1 : detF R1 p = some (e0 p (iv1 p) R1.length R1.length 0 R1 1 0).1 := by
        unfold detF
        rw [if_pos ⟨by omega, hS⟩, Int.emod_eq_of_lt (by omega) (by omega)]
        exact dt0_spec hp (by omega) R1.length 0 R1 1 (by omega) hD3 hRg (by omega) (by omega)
      have d2 : echF p R1 = some ((e0 p (iv1 p) R1.length R1.length 0 R1 1 0).1, ((e0 p (iv1 p) R1.length R1.length 0 R1 1 0).2 : Int)) := by
        unfold echF
        rw [if_pos ⟨⟨h2, by omega⟩, hS⟩]
      rw [if_pos (by simp), hs, Option.bind_some, if_pos ⟨h0, h9, hr⟩, hR2, Option.bind_some, d2, Option.bind_some, if_pos (by simp), if_pos ⟨h0, h9, hr⟩, hR1, Option.bind_some, d1, Option.bind_some]
      exact ⟨_, _, rfl, rfl⟩
  · have hi : impl_ComponentTable.f 3000 m = some ([], 2) := by
      unfold impl_ComponentTable.f
      rw [implIn, decide_eq_false h]; rfl
    rw [hi, decide_eq_false h, if_neg (fun h => by simp at h)]
    simp only [Option.bind_some]
    rw [if_neg (fun h => by simp at h)]
    exact ⟨0, 2, rfl, rfl⟩

end Go.Proofs.Ytaaemhjdnncgdaa.PC
