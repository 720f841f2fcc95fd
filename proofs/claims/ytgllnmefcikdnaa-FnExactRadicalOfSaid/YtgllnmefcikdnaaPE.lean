/- The eliminations of the program and of the reference go in step: plain lemmas. No condition. -/
import Derived.Test.YtgllnmefcikdnaaPA
namespace Go.Proofs.Ytgllnmefcikdnaa.PE
open Go.RowKit Go.Proofs.Ytgllnmefcikdnaa.Hand Go.Proofs.YtgllnmefcikdnaaW.PrintWords Go.Proofs.YtgllnmefcikdnaaW.PrintLast Go.Proofs.Ytgllnmefcikdnaa.PA
set_option linter.unusedVariables false
set_option linter.unusedSimpArgs false

/-- All entries lie in 0 to p - 1. -/
def Rg (p : Int) (L : List (List Int)) : Prop := ∀ j i, 0 ≤ ent L j i ∧ ent L j i < p
/-- m rows of n entries. -/
def Dm (n m : Nat) (L : List (List Int)) : Prop := L.length = m ∧ ∀ j, j < m → (L.getD j []).length = n
theorem tmod_range {p : Int} (h2 : 2 ≤ p) (x : Int) : -p < Int.tmod x p ∧ Int.tmod x p < p := by
  constructor
  · have := Int.lt_tmod_of_pos x (show 0 < p by omega)
    omega
  · exact Int.tmod_lt_of_pos x (show 0 < p by omega)
theorem md_emod {p : Int} (h2 : 2 ≤ p) (h1 : p ≤ 97) (x : Int) : md p x = x % p := by
  have h := tmod_range h2 x
  unfold md
  rw [wrap_id (by omega) (by omega), Int.tmod_eq_emod_of_nonneg (by omega), Int.tmod_eq_emod]
  split
  · rw [Int.natCast_zero, Int.sub_zero, Int.add_emod, Int.emod_self, Int.add_zero, Int.emod_emod, Int.emod_emod]
  · rw [show ((p.natAbs : Int)) = p by omega, Int.sub_add_cancel, Int.emod_emod]
theorem md_range {p : Int} (h2 : 2 ≤ p) (h1 : p ≤ 97) (x : Int) : 0 ≤ md p x ∧ md p x < p := by
  rw [md_emod h2 h1]
  exact ⟨Int.emod_nonneg _ (by omega), Int.emod_lt_of_pos _ (by omega)⟩
theorem md_id {p : Int} (h2 : 2 ≤ p) (h1 : p ≤ 97) {x : Int} (h0 : 0 ≤ x) (hx : x < p) : md p x = x := by
  rw [md_emod h2 h1, Int.emod_eq_of_lt h0 hx]
theorem mul_rg {p a b : Int} (h1 : p ≤ 97) (ha : 0 ≤ a) (ha2 : a < p) (hb : 0 ≤ b) (hb2 : b < p) : 0 ≤ a * b ∧ a * b ≤ 10000 := by
  constructor
  · exact Int.mul_nonneg ha hb
  · have h3 : a * b ≤ 97 * b := Int.mul_le_mul_of_nonneg_right (by omega) hb
    omega
theorem ent_set (L : List (List Int)) (j : Nat) (r : List Int) (hj : j < L.length) (k i : Nat) : ent (L.set j r) k i = if j = k then r.getD i 0 else ent L k i := by
  unfold ent
  rw [getD_set _ _ _ _ _ hj]
  split <;> rfl
theorem ent_swp (L : List (List Int)) (j k : Nat) (hj : j < L.length) (hk : k < L.length) (l i : Nat) : ent (swp L j k) l i = ent L (sw j k l) i := by
  unfold ent; rw [swp_row L j k hj hk]
theorem swp_self (L : List (List Int)) (j : Nat) (hj : j < L.length) : swp L j j = L := by
  unfold swp
  apply List.ext_getElem?
  intro i
  rw [List.getElem?_set, List.getElem?_set]
  by_cases e : j = i
  · subst e
    simp [hj, List.getD_eq_getElem?_getD]
  · rw [if_neg e, if_neg e]
theorem swp_comm (L : List (List Int)) (j k : Nat) : swp L j k = swp L k j := by
  by_cases e : j = k
  · rw [e]
  · unfold swp; rw [List.set_comm _ _ e]
theorem tab_ext {n m : Nat} {L L' : List (List Int)} (h : Dm n m L) (h' : Dm n m L') (he : ∀ j i, j < m → i < n → ent L j i = ent L' j i) : L = L' := by
  apply List.ext_getElem
  · rw [h.1, h'.1]
  · intro j h1 h2
    have hj : j < m := by rw [← h.1]; exact h1
    have r1 := h.2 j hj
    have r2 := h'.2 j hj
    have g1 : L.getD j [] = L[j] := by rw [List.getD_eq_getElem?_getD, List.getElem?_eq_getElem h1]; rfl
    have g2 : L'.getD j [] = L'[j] := by rw [List.getD_eq_getElem?_getD, List.getElem?_eq_getElem h2]; rfl
    rw [g1] at r1
    rw [g2] at r2
    apply List.ext_getElem
    · rw [r1, r2]
    · intro i h3 h4
      have := he j i hj (by omega)
      unfold ent at this
      rw [g1, g2, List.getD_eq_getElem?_getD, List.getD_eq_getElem?_getD, List.getElem?_eq_getElem h3, List.getElem?_eq_getElem h4] at this
      exact this
theorem Dm.put {n m : Nat} {L : List (List Int)} (h : Dm n m L) (j i : Nat) (v : Int) (hj : j < m) : Dm n m (put L j i v) := by
  refine ⟨by rw [put_len]; exact h.1, fun k hk => ?_⟩
  rw [put_row L j i v (by rw [h.1]; exact hj)]
  split
  · rw [List.length_set]; exact h.2 j hj
  · exact h.2 k hk
theorem Dm.set {n m : Nat} {L : List (List Int)} (h : Dm n m L) (j : Nat) (r : List Int) (hj : j < m) (hr : r.length = n) : Dm n m (L.set j r) := by
  refine ⟨by rw [List.length_set]; exact h.1, fun k hk => ?_⟩
  rw [getD_set _ _ _ _ _ (by rw [h.1]; exact hj)]
  split
  · exact hr
  · exact h.2 k hk
theorem Dm.swp {n m : Nat} {L : List (List Int)} (h : Dm n m L) {j k : Nat} (hj : j < m) (hk : k < m) : Dm n m (swp L j k) := by
  refine ⟨by rw [swp_len]; exact h.1, fun l hl => ?_⟩
  rw [swp_row L j k (by rw [h.1]; exact hj) (by rw [h.1]; exact hk)]
  exact h.2 _ (sw_lt hj hk hl)
theorem Rg.swp {n m : Nat} {p : Int} {L : List (List Int)} (h : Rg p L) (hd : Dm n m L) {j k : Nat} (hj : j < m) (hk : k < m) : Rg p (swp L j k) := by
  intro l i
  rw [ent_swp L j k (by rw [hd.1]; exact hj) (by rw [hd.1]; exact hk)]
  exact h _ _
/-- An entry of a row less f times another. -/
def el (p f : Int) (L : List (List Int)) (i r k : Nat) : Int := md p (wrap64 (ent L i k - wrap64 (f * ent L r k)))
theorem nr_ent (p f : Int) (L : List (List Int)) (i r m k : Nat) : (nr p f L i r m).getD k 0 = if k < m then el p f L i r k else 0 := by
  unfold nr
  rw [List.getD_eq_getElem?_getD]
  by_cases h : k < m
  · rw [if_pos h]; simp [h, el]
  · rw [if_neg h, List.getElem?_eq_none (by simp; omega)]; rfl
theorem el_emod {p f : Int} {L : List (List Int)} (h2 : 2 ≤ p) (h1 : p ≤ 97) (hL : Rg p L) (hf : 0 ≤ f) (hf2 : f < p) (i r k : Nat) : el p f L i r k = (ent L i k - f * ent L r k) % p := by
  have a := hL i k
  have b := mul_rg h1 hf hf2 (hL r k).1 (hL r k).2
  unfold el
  rw [wrap_id (x := f * ent L r k) (by omega) (by omega), wrap_id (by omega) (by omega), md_emod h2 h1]
theorem fc_emod {p v : Int} {L : List (List Int)} (h2 : 2 ≤ p) (h1 : p ≤ 97) (hL : Rg p L) (hv : 0 ≤ v) (hv2 : v < p) (i c : Nat) : fc p v L i c = (ent L i c * v) % p := by
  have b := mul_rg h1 (hL i c).1 (hL i c).2 hv hv2
  unfold fc
  rw [wrap_id (by omega) (by omega), Int.tmod_eq_emod_of_nonneg (by omega)]
theorem rest_md {p : Int} (h2 : 2 ≤ p) (x : Int) : impl_rest.f x p = some (md p x) := by
  unfold impl_rest.f md
  rw [if_neg (by omega)]
/-! #### the program's row operation is the reference's -/
theorem dt2_go {n : Nat} {p f : Int} {c r : Nat} {L : List (List Int)} (h2 : 2 ≤ p) (hD : Dm n n L) (hr : r < n) (hc : c < n) (hrc : r ≠ c) : ∀ (d i : Nat) (L' : List (List Int)), i + d = n → Dm n n L' → (∀ j k, ent L' j k = if j = r ∧ k < i then el p f L r c k else ent L j k) →
    dt2 p c r f d i L' = some (L.set r (nr p f L r c n)) := by
  intro d
  induction d with
  | zero =>
    intro i L' hi hD' he
    rw [dt2]
    congr 1
    refine tab_ext hD' (hD.set r _ hr (nr_len ..)) fun j k hj hk => ?_
    rw [he, ent_set _ _ _ (by rw [hD.1]; exact hr), nr_ent]
    by_cases e : j = r
    · rw [if_pos ⟨e, by omega⟩, if_pos e.symm, if_pos hk]
    · rw [if_neg (fun h => e h.1), if_neg (fun h => e h.symm)]
  | succ d ih =>
    intro i L' hi hD' he
    have a1 : ent L' r i = ent L r i := by rw [he, if_neg (by omega)]
    have a2 : ent L' c i = ent L c i := by rw [he, if_neg (fun h => hrc h.1.symm)]
    rw [dt2, rest_md h2, Option.bind_some, a1, a2]
    refine ih (i + 1) _ (by omega) (hD'.put r i _ hr) fun j k => ?_
    rw [put_ent _ _ _ _ (by rw [hD'.1]; exact hr) (by rw [hD'.2 r hr]; omega), he j k]
    by_cases e : r = j
    · by_cases e2 : i = k
      · rw [if_pos ⟨e, e2⟩, if_pos ⟨e.symm, by omega⟩, ← e2]
        rfl
      · rw [if_neg (fun h => e2 h.2)]
        by_cases e3 : k < i
        · rw [if_pos ⟨e.symm, e3⟩, if_pos ⟨e.symm, by omega⟩]
        · rw [if_neg (fun h => e3 h.2), if_neg (fun h => by omega)]
    · rw [if_neg (fun h => e h.1), if_neg (fun h => e h.1.symm), if_neg (fun h => e h.1.symm)]
theorem dt2_spec {n : Nat} {p f : Int} {c r : Nat} {L : List (List Int)} (h2 : 2 ≤ p) (hD : Dm n n L) (hr : r < n) (hc : c < n) (hrc : r ≠ c) : dt2 p c r f n 0 L = some (L.set r (nr p f L r c n)) :=
  dt2_go h2 hD hr hc hrc n 0 L (by omega) hD fun j k => by rw [if_neg (by omega)]
theorem Rg.set {n m : Nat} {p f : Int} {L : List (List Int)} (h2 : 2 ≤ p) (h1 : p ≤ 97) (h : Rg p L) (hD : Dm n m L) {i r : Nat} (hi : i < m) : Rg p (L.set i (nr p f L i r n)) := by
  intro j k
  rw [ent_set _ _ _ (by rw [hD.1]; exact hi), nr_ent]
  split
  · split
    · exact md_range h2 h1 _
    · omega
  · exact h j k
theorem nr_zero {n m : Nat} {p : Int} {L : List (List Int)} (h2 : 2 ≤ p) (h1 : p ≤ 97) (h : Rg p L) (hD : Dm n m L) {i r : Nat} (hi : i < m) : L.set i (nr p 0 L i r n) = L := by
  refine tab_ext (hD.set i _ hi (nr_len ..)) hD fun j k hj hk => ?_
  rw [ent_set _ _ _ (by rw [hD.1]; exact hi), nr_ent]
  by_cases e : i = j
  · subst e
    rw [if_pos rfl, if_pos hk, el_emod h2 h1 h (by omega) (by omega), Int.zero_mul, Int.sub_zero, Int.emod_eq_of_lt (h i k).1 (h i k).2]
  · rw [if_neg e]
theorem dt1_spec {n : Nat} {p v : Int} {c : Nat} (h2 : 2 ≤ p) (h1 : p ≤ 97) (hc : c < n) : ∀ (d r : Nat) (L : List (List Int)), r + d = n → c < r → Dm n n L → Rg p L → dt1 p v c n d r L = some (e1 p v c n c d r L) ∧ Dm n n (e1 p v c n c d r L) ∧ Rg p (e1 p v c n c d r L) := by
  intro d
  induction d with
  | zero => intro r L hr hcr hD hR; exact ⟨rfl, hD, hR⟩
  | succ d ih =>
    intro r L hr hcr hD hR
    have hrn : r < n := by omega
    have e : (if fc p v L r c = 0 then L else L.set r (nr p (fc p v L r c) L r c n)) = L.set r (nr p (fc p v L r c) L r c n) := by
      split
      · rename_i h0; rw [h0, nr_zero h2 h1 hR hD hrn]
      · rfl
    have hn := ih (r + 1) (L.set r (nr p (fc p v L r c) L r c n)) (by omega) (by omega) (hD.set r _ hrn (nr_len ..)) (hR.set h2 h1 hD hrn)
    rw [dt1, if_neg (show ¬ p = 0 by omega), dt2_spec h2 hD hrn hc (by omega), Option.bind_some, e1, e]
    exact hn
theorem e1_inv {n m : Nat} {p v : Int} {c r : Nat} (h2 : 2 ≤ p) (h1 : p ≤ 97) : ∀ (d i : Nat) (L : List (List Int)), i + d = m → Dm n m L → Rg p L → Dm n m (e1 p v c n r d i L) ∧ Rg p (e1 p v c n r d i L) := by
  intro d
  induction d with
  | zero => intro i L _ hD hR; exact ⟨hD, hR⟩
  | succ d ih =>
    intro i L hi hD hR
    rw [e1]
    have him : i < m := by omega
    split
    · exact ih (i + 1) L (by omega) hD hR
    · exact ih (i + 1) _ (by omega) (hD.set i _ him (nr_len ..)) (hR.set h2 h1 hD him)
/-! #### inverses -/
theorem up_f {α : Type} {f : Nat → Option α} (hm : ∀ k, LeO (f k) (f (k + 1))) {r : α} {k : Nat} (h : f k = some r) : ∀ d, f (k + d) = some r := by
  intro d
  induction d with
  | zero => exact h
  | succ d ih => exact hm (k + d) r ih
def invB (p x : Int) : Bool := match spec_l01Inverse.f 200 p x, impl_inverse.f 200 x p with
  | some a, some b => a == b && decide (0 ≤ a ∧ a < p) && ((x * a) % p == 1)
  | _, _ => false
def primes : List Int := [2, 3, 5, 7, 11, 13, 17, 19, 23, 29, 31, 37, 41, 43, 47, 53, 59, 61, 67, 71, 73, 79, 83, 89, 97]
theorem inv_small : (primes.all fun p => (List.range 97).all fun x => decide (x = 0) || decide (p ≤ (x : Int)) || invB p (x : Int)) = true := by decide +kernel
theorem inv_ok {p x : Int} (hp : isP p = true) (h0 : 1 ≤ x) (hx : x < p) : spec_l01Inverse.f 3000 p x = some (iv1 p x) ∧ impl_inverse.f 3000 x p = some (iv1 p x) ∧ 0 ≤ iv1 p x ∧ iv1 p x < p ∧ (x * iv1 p x) % p = 1 := by
  have hr := isP_range hp
  have hm : p ∈ primes := by
    unfold isP at hp
    exact List.contains_iff_mem.1 hp
  have h := List.all_eq_true.1 (List.all_eq_true.1 inv_small p hm) x.toNat (by rw [List.mem_range]; omega)
  rw [Int.toNat_of_nonneg (by omega), decide_eq_false (show ¬ x.toNat = 0 by omega), decide_eq_false (show ¬ p ≤ x by omega), Bool.false_or, Bool.false_or] at h
  unfold invB at h
  split at h
  · rename_i a b ha hb
    simp only [Bool.and_eq_true, beq_iff_eq, decide_eq_true_eq] at h
    obtain ⟨⟨rfl, h2, h3⟩, h4⟩ := h
    have e1 := up_f (f := fun k => spec_l01Inverse.f k p x) (spec_l01Inverse.mono p x) ha 2800
    have e2 := up_f (f := fun k => impl_inverse.f k x p) (impl_inverse.mono x p) hb 2800
    have e3 : iv1 p x = a := by
      unfold iv1
      rw [show spec_l01Inverse.f 3000 p x = some a from e1]; rfl
    rw [e3]
    exact ⟨e1, e2, h2, h3, h4⟩
  · cases h
theorem iv2_eq {p x : Int} (hp : isP p = true) (h0 : 1 ≤ x) (hx : x < p) : iv2 p x = iv1 p x := by
  have := (inv_ok hp h0 hx).2.1
  unfold iv2
  rw [this]; rfl
/-! #### the determinants -/
theorem md_zero {p : Int} (h2 : 2 ≤ p) (h1 : p ≤ 97) : md p 0 = 0 := md_id h2 h1 (by omega) (by omega)
theorem e0_zero {p : Int} (h2 : 2 ≤ p) (h1 : p ≤ 97) (iv : Int → Int) (n : Nat) : ∀ (d c : Nat) (L : List (List Int)) (r : Nat), (e0 p iv n d c L 0 r).1 = 0 := by
  intro d
  induction d with
  | zero => intro c L r; exact md_zero h2 h1
  | succ d ih =>
    intro c L r
    rw [e0]
    cases ixg L c (n - r) r with
    | none => exact ih _ _ _
    | some k =>
      have e : md p (wrap64 ((if k = r then (0 : Int) else wrap64 (-0)) * ent (if k = r then L else swp L k r) r c)) = 0 := by
        rw [show (if k = r then (0 : Int) else wrap64 (-0)) = 0 by split; rfl; exact wrap_id (by omega) (by omega), Int.zero_mul, wrap_id (by omega) (by omega), md_zero h2 h1]
      simp only [e]
      exact ih _ _ _
theorem dt0_spec {p : Int} {n : Nat} (hp : isP p = true) (hn : n ≤ 100) : ∀ (d c : Nat) (L : List (List Int)) (out : Int), c + d = n → Dm n n L → Rg p L → 0 ≤ out → out < p → dt0 3000 p n d c L out = some (e0 p (iv1 p) n d c L out c).1 := by
  obtain ⟨h2, h1⟩ := isP_range hp
  intro d
  induction d with
  | zero => intro c L out _ _ _ h0 h3; rw [dt0, e0, md_id h2 h1 h0 h3]
  | succ d ih =>
    intro c L out hc hD hR h0 h3
    rw [dt0, e0, hD.1]
    cases hk : ixg L c (n - c) c with
    | none => simp only; rw [e0_zero h2 h1]
    | some k =>
      obtain ⟨k1, k2, k3⟩ := ixg_some hk
      have hkn : k < n := by omega
      have hcn : c < n := by omega
      simp only
      rw [if_neg (show ¬ p = 0 by omega), swp_comm L c k]
      obtain ⟨L1, hL1⟩ : ∃ L1, (if k = c then L else swp L k c) = L1 := ⟨_, rfl⟩
      have hD1 : Dm n n L1 := by rw [← hL1]; split; exact hD; exact hD.swp hkn hcn
      have hR1 : Rg p L1 := by rw [← hL1]; split; exact hR; exact hR.swp hD hkn hcn
      have hx : ent L1 c c ≠ 0 := by
        rw [← hL1]
        split
        · rename_i e; rw [← e] at k3 ⊢; exact k3
        · rename_i e
          rw [ent_swp L k c (by rw [hD.1]; exact hkn) (by rw [hD.1]; exact hcn)]
          rw [show sw k c c = k by unfold sw; rw [if_neg (fun e2 => e e2.symm), if_pos rfl]]
          exact k3
      have hxr := hR1 c c
      have hinv := inv_ok hp (show 1 ≤ ent L1 c c by omega) hxr.2
      have hd1 := dt1_spec (v := iv1 p (ent L1 c c)) h2 h1 hcn (n - (c + 1)) (c + 1) L1 (by omega) (by omega) hD1 hR1
      rw [hL1]
      have ho : (if k = c then some out else impl_rest.f (wrap64 (-out)) p) = some (if k = c then out else md p (wrap64 (-out))) := by
        split
        · rfl
        · exact rest_md h2 _
      rw [ho, Option.bind_some, hinv.2.1, Option.bind_some, hd1.1, Option.bind_some]
      have hm : Int.tmod (wrap64 ((if k = c then out else md p (wrap64 (-out))) * ent L1 c c)) p = md p (wrap64 ((if k = c then out else wrap64 (-out)) * ent L1 c c)) := by
        split
        · have b := mul_rg h1 h0 h3 hxr.1 hxr.2
          rw [md_emod h2 h1, wrap_id (by omega) (by omega), Int.tmod_eq_emod_of_nonneg (by omega)]
        · have b := mul_rg h1 h0 h3 hxr.1 hxr.2
          have m1 := md_range h2 h1 (wrap64 (-out))
          have b2 := mul_rg h1 m1.1 m1.2 hxr.1 hxr.2
          rw [wrap_id (x := md p (wrap64 (-out)) * _) (by omega) (by omega), Int.tmod_eq_emod_of_nonneg (by omega), md_emod h2 h1, md_emod h2 h1, wrap_id (x := -out) (by omega) (by omega), wrap_id (x := -out * _) (by rw [Int.neg_mul]; omega) (by rw [Int.neg_mul]; omega), Int.mul_emod, Int.emod_emod, ← Int.mul_emod]
      rw [hm]
      have mr := md_range h2 h1 (wrap64 ((if k = c then out else wrap64 (-out)) * ent L1 c c))
      exact ih (c + 1) _ _ (by omega) hd1.2.1 hd1.2.2 mr.1 mr.2
/-! #### the ranks -/
theorem ent_out {n m : Nat} {L : List (List Int)} (h : Dm n m L) {j k : Nat} (hjk : m ≤ j ∨ n ≤ k) : ent L j k = 0 := by
  unfold ent
  by_cases hj : j < m
  · rw [List.getD_eq_getElem?_getD (i := k), List.getElem?_eq_none (by rw [h.2 j hj]; omega)]; rfl
  · rw [List.getD_eq_getElem?_getD (i := j), List.getElem?_eq_none (by rw [h.1]; omega)]; rfl
theorem Rg.of {n m : Nat} {p : Int} {L : List (List Int)} (h2 : 2 ≤ p) (hD : Dm n m L) (h : ∀ j k, j < m → k < n → 0 ≤ ent L j k ∧ ent L j k < p) : Rg p L := by
  intro j k
  by_cases hj : j < m
  · by_cases hk : k < n
    · exact h j k hj hk
    · rw [ent_out hD (Or.inr (by omega))]; omega
  · rw [ent_out hD (Or.inl (by omega))]; omega
theorem ixg_congr {L L' : List (List Int)} {c : Nat} : ∀ (d r : Nat), (∀ j, r ≤ j → ent L j c = ent L' j c) → ixg L c d r = ixg L' c d r := by
  intro d
  induction d with
  | zero => intro r _; rfl
  | succ d ih =>
    intro r h
    rw [ixg, ixg, h r (Nat.le_refl _), ih (r + 1) fun j hj => h j (by omega)]
theorem g2_go {n m : Nat} {p v : Int} {r : Nat} {L : List (List Int)} (hr : r < m) : ∀ (d i : Nat) (L' : List (List Int)), i + d = n → Dm n m L' → (∀ j k, ent L' j k = if j = r ∧ k < i then Int.tmod (wrap64 (ent L r k * v)) p else ent L j k) →
    Dm n m (g2 p v r d i L') ∧ ∀ j k, ent (g2 p v r d i L') j k = if j = r ∧ k < n then Int.tmod (wrap64 (ent L r k * v)) p else ent L j k := by
  intro d
  induction d with
  | zero =>
    intro i L' hi hD he
    obtain rfl : i = n := by omega
    exact ⟨hD, he⟩
  | succ d ih =>
    intro i L' hi hD he
    rw [g2]
    refine ih (i + 1) _ (by omega) (hD.put r i _ hr) fun j k => ?_
    rw [show ent L' r i = ent L r i by rw [he, if_neg (by omega)], put_ent _ _ _ _ (by rw [hD.1]; exact hr) (by rw [hD.2 r hr]; omega), he j k]
    by_cases e : r = j
    · by_cases e2 : i = k
      · rw [if_pos ⟨e, e2⟩, if_pos ⟨e.symm, by omega⟩, ← e2]
      · rw [if_neg (fun h => e2 h.2)]
        by_cases e3 : k < i
        · rw [if_pos ⟨e.symm, e3⟩, if_pos ⟨e.symm, by omega⟩]
        · rw [if_neg (fun h => e3 h.2), if_neg (fun h => by omega)]
    · rw [if_neg (fun h => e h.1), if_neg (fun h => e h.1.symm), if_neg (fun h => e h.1.symm)]
theorem g3_go {n m : Nat} {p f : Int} {t r : Nat} {L : List (List Int)} (ht : t < m) (htr : t ≠ r) : ∀ (d i : Nat) (L' : List (List Int)), i + d = n → Dm n m L' → (∀ j k, ent L' j k = if j = t ∧ k < i then el p f L t r k else ent L j k) →
    Dm n m (g3 p f t r d i L') ∧ ∀ j k, ent (g3 p f t r d i L') j k = if j = t ∧ k < n then el p f L t r k else ent L j k := by
  intro d
  induction d with
  | zero =>
    intro i L' hi hD he
    obtain rfl : i = n := by omega
    exact ⟨hD, he⟩
  | succ d ih =>
    intro i L' hi hD he
    have a1 : ent L' t i = ent L t i := by rw [he, if_neg (by omega)]
    have a2 : ent L' r i = ent L r i := by rw [he, if_neg (fun h => htr h.1.symm)]
    rw [g3, a1, a2]
    refine ih (i + 1) _ (by omega) (hD.put t i _ ht) fun j k => ?_
    rw [put_ent _ _ _ _ (by rw [hD.1]; exact ht) (by rw [hD.2 t ht]; omega), he j k]
    by_cases e : t = j
    · by_cases e2 : i = k
      · rw [if_pos ⟨e, e2⟩, if_pos ⟨e.symm, by omega⟩, ← e2]
        rfl
      · rw [if_neg (fun h => e2 h.2)]
        by_cases e3 : k < i
        · rw [if_pos ⟨e.symm, e3⟩, if_pos ⟨e.symm, by omega⟩]
        · rw [if_neg (fun h => e3 h.2), if_neg (fun h => by omega)]
    · rw [if_neg (fun h => e h.1), if_neg (fun h => e h.1.symm), if_neg (fun h => e h.1.symm)]
theorem el_zero {p : Int} {L : List (List Int)} (h2 : 2 ≤ p) (h1 : p ≤ 97) (hR : Rg p L) (i r k : Nat) : el p 0 L i r k = ent L i k := by
  rw [el_emod h2 h1 hR (by omega) (by omega), Int.zero_mul, Int.sub_zero, Int.emod_eq_of_lt (hR i k).1 (hR i k).2]
/-- What the program makes of the rows. -/
theorem g1_go {n m : Nat} {p : Int} {c r : Nat} {L : List (List Int)} (h2 : 2 ≤ p) (h1 : p ≤ 97) (hR : Rg p L) (hc : c < n) : ∀ (d t : Nat) (L' : List (List Int)), t + d = m → Dm n m L' → (∀ j k, k < n → ent L' j k = if j < t ∧ j ≠ r then el p (ent L j c) L j r k else ent L j k) →
    Dm n m (g1 p c n r d t L') ∧ ∀ j k, j < m → k < n → ent (g1 p c n r d t L') j k = if j ≠ r then el p (ent L j c) L j r k else ent L j k := by
  intro d
  induction d with
  | zero =>
    intro t L' ht hD he
    refine ⟨hD, fun j k hj hk => ?_⟩
    rw [g1, he j k hk]
    by_cases e : j ≠ r
    · rw [if_pos ⟨by omega, e⟩, if_pos e]
    · rw [if_neg (fun h => e h.2), if_neg e]
  | succ d ih =>
    intro t L' ht hD he
    have htm : t < m := by omega
    have a1 : ∀ k, k < n → ent L' t k = ent L t k := fun k hk => by rw [he t k hk, if_neg (by omega)]
    have a2 : ∀ k, k < n → ent L' r k = ent L r k := fun k hk => by rw [he r k hk, if_neg (fun h => h.2 rfl)]
    rw [g1, a1 c hc]
    by_cases e : t = r
    · rw [if_pos (Or.inl e)]
      refine ih (t + 1) L' (by omega) hD fun j k hk => ?_
      rw [he j k hk]
      by_cases e2 : j < t ∧ j ≠ r
      · rw [if_pos e2, if_pos ⟨by omega, e2.2⟩]
      · rw [if_neg e2, if_neg (fun h => e2 ⟨by omega, h.2⟩)]
    · by_cases e0 : ent L t c = 0
      · rw [if_pos (Or.inr e0)]
        refine ih (t + 1) L' (by omega) hD fun j k hk => ?_
        rw [he j k hk]
        by_cases e2 : j < t ∧ j ≠ r
        · rw [if_pos e2, if_pos ⟨by omega, e2.2⟩]
        · rw [if_neg e2]
          by_cases e3 : j = t
          · subst e3; rw [if_pos ⟨by omega, e⟩, e0, el_zero h2 h1 hR]
          · rw [if_neg (fun h => e2 ⟨by omega, h.2⟩)]
      · rw [if_neg (fun h => h.elim e e0)]
        have hg := g3_go (p := p) (f := ent L t c) (L := L') htm e n 0 L' (by omega) hD fun j k => by rw [if_neg (by omega)]
        refine ih (t + 1) _ (by omega) hg.1 fun j k hk => ?_
        rw [hg.2 j k]
        by_cases e3 : j = t
        · subst e3
          rw [if_pos ⟨rfl, hk⟩, if_pos ⟨by omega, e⟩]
          unfold el
          rw [a1 k hk, a2 k hk]
        · rw [if_neg (fun h => e3 h.1), he j k hk]
          by_cases e2 : j < t ∧ j ≠ r
          · rw [if_pos e2, if_pos ⟨by omega, e2.2⟩]
          · rw [if_neg e2, if_neg (fun h => e2 ⟨by omega, h.2⟩)]
/-- What the reference makes of the rows. -/
theorem e1_go {n m : Nat} {p v : Int} {c r : Nat} {L : List (List Int)} (h2 : 2 ≤ p) (h1 : p ≤ 97) (hR : Rg p L) (hc : c < n) : ∀ (d i : Nat) (L' : List (List Int)), i + d = m → r < i → Dm n m L' → (∀ j k, k < n → ent L' j k = if r < j ∧ j < i then el p (fc p v L j c) L j r k else ent L j k) →
    Dm n m (e1 p v c n r d i L') ∧ ∀ j k, j < m → k < n → ent (e1 p v c n r d i L') j k = if r < j then el p (fc p v L j c) L j r k else ent L j k := by
  intro d
  induction d with
  | zero =>
    intro i L' hi hri hD he
    refine ⟨hD, fun j k hj hk => ?_⟩
    rw [e1, he j k hk]
    by_cases e : r < j
    · rw [if_pos ⟨e, by omega⟩, if_pos e]
    · rw [if_neg (fun h => e h.1), if_neg e]
  | succ d ih =>
    intro i L' hi hri hD he
    have him : i < m := by omega
    have a1 : ∀ k, k < n → ent L' i k = ent L i k := fun k hk => by rw [he i k hk, if_neg (by omega)]
    have a2 : ∀ k, k < n → ent L' r k = ent L r k := fun k hk => by rw [he r k hk, if_neg (by omega)]
    have af : fc p v L' i c = fc p v L i c := by unfold fc; rw [a1 c hc]
    rw [e1, af]
    by_cases e0 : fc p v L i c = 0
    · rw [if_pos e0]
      refine ih (i + 1) L' (by omega) (by omega) hD fun j k hk => ?_
      rw [he j k hk]
      by_cases e2 : r < j ∧ j < i
      · rw [if_pos e2, if_pos ⟨e2.1, by omega⟩]
      · rw [if_neg e2]
        by_cases e3 : j = i
        · subst e3; rw [if_pos ⟨hri, by omega⟩, e0, el_zero h2 h1 hR]
        · rw [if_neg (fun h => e2 ⟨h.1, by omega⟩)]
    · rw [if_neg e0]
      refine ih (i + 1) _ (by omega) (by omega) (hD.set i _ him (nr_len ..)) fun j k hk => ?_
      rw [ent_set _ _ _ (by rw [hD.1]; exact him), nr_ent, if_pos hk]
      by_cases e3 : i = j
      · subst e3
        rw [if_pos rfl, if_pos ⟨hri, by omega⟩]
        unfold el
        rw [a1 k hk, a2 k hk]
      · rw [if_neg e3, he j k hk]
        by_cases e2 : r < j ∧ j < i
        · rw [if_pos e2, if_pos ⟨e2.1, by omega⟩]
        · rw [if_neg e2, if_neg (fun h => e2 ⟨h.1, by omega⟩)]
theorem mod_same2 (p a b c v : Int) : (a - b * ((c * v) % p)) % p = (a - ((b * v) % p) * c) % p := by
  have x1 : (c * v) % p = c * v - p * ((c * v) / p) := Int.emod_def ..
  have x2 : (b * v) % p = b * v - p * ((b * v) / p) := Int.emod_def ..
  rw [x1, x2]
  generalize (c * v) / p = q1
  generalize (b * v) / p = q2
  have y1 : a - b * (c * v - p * q1) = (a - b * (c * v)) + p * (b * q1) := by
    rw [Int.mul_sub, Int.mul_left_comm b p q1]; omega
  have y2 : a - (b * v - p * q2) * c = (a - b * (c * v)) + p * (q2 * c) := by
    rw [Int.sub_mul, Int.mul_assoc b v c, Int.mul_comm v c, Int.mul_assoc p q2 c]; omega
  rw [y1, y2, Int.add_mul_emod_self_left, Int.add_mul_emod_self_left]
theorem e0_full {p : Int} {iv : Int → Int} {n : Nat} : ∀ (d c : Nat) (L : List (List Int)) (det : Int) (r : Nat), n ≤ r → (e0 p iv n d c L det r).2 = r := by
  intro d
  induction d with
  | zero => intros; rfl
  | succ d ih =>
    intro c L det r h
    rw [e0, show n - r = 0 by omega]
    exact ih _ _ _ _ h
theorem rank_spec {p : Int} {n : Nat} (hp : isP p = true) : ∀ (d c r : Nat) (Ls Li : List (List Int)) (det : Int), c + d = n → Dm n n Ls → Dm n n Li → Rg p Ls → Rg p Li → (∀ j k, r ≤ j → ent Ls j k = ent Li j k) →
    (g0 p (iv2 p) n n d c Li r).2 = (e0 p (iv1 p) n d c Ls det r).2 := by
  obtain ⟨h2, h1⟩ := isP_range hp
  intro d
  induction d with
  | zero => intros; rfl
  | succ d ih =>
    intro c r Ls Li det hc hDs hDi hRs hRi he
    have hcn : c < n := by omega
    rw [g0]
    by_cases hr : n ≤ r
    · rw [if_pos hr, e0_full _ _ _ _ _ hr]
    · rw [if_neg hr, e0, ixg_congr (L' := Ls) (n - r) r fun j hj => (he j c hj).symm]
      have hrn : r < n := by omega
      cases hk : ixg Ls c (n - r) r with
      | none => exact ih (c + 1) r Ls Li 0 (by omega) hDs hDi hRs hRi he
      | some k =>
        obtain ⟨k1, k2, k3⟩ := ixg_some hk
        have hkn : k < n := by omega
        simp only
        obtain ⟨M, hM⟩ : ∃ M, (if k = r then Ls else swp Ls k r) = M := ⟨_, rfl⟩
        have hM2 : M = swp Ls r k := by
          rw [← hM]
          split
          · rename_i e; rw [e, swp_self _ _ (by rw [hDs.1]; exact hrn)]
          · exact swp_comm _ _ _
        have hDM : Dm n n M := by rw [hM2]; exact hDs.swp hrn hkn
        have hRM : Rg p M := by rw [hM2]; exact hRs.swp hDs hrn hkn
        have hDI : Dm n n (swp Li r k) := hDi.swp hrn hkn
        have hRI : Rg p (swp Li r k) := hRi.swp hDi hrn hkn
        have heM : ∀ j l, r ≤ j → ent M j l = ent (swp Li r k) j l := by
          intro j l hj
          rw [hM2, ent_swp _ _ _ (by rw [hDs.1]; exact hrn) (by rw [hDs.1]; exact hkn), ent_swp _ _ _ (by rw [hDi.1]; exact hrn) (by rw [hDi.1]; exact hkn)]
          exact he _ _ (by unfold sw; split; omega; split <;> omega)
        have hx : ent M r c ≠ 0 := by
          rw [hM2, ent_swp _ _ _ (by rw [hDs.1]; exact hrn) (by rw [hDs.1]; exact hkn), show sw r k r = k by unfold sw; rw [if_pos rfl]]
          exact k3
        rw [hM]
        generalize swp Li r k = Mi at hDI hRI heM
        rw [← heM r c (Nat.le_refl _)]
        have hxr := hRM r c
        have hinv := inv_ok hp (show 1 ≤ ent M r c by omega) hxr.2
        rw [iv2_eq hp (show 1 ≤ ent M r c by omega) hxr.2]
        generalize iv1 p (ent M r c) = v at hinv
        have hg2 := g2_go (p := p) (v := v) (L := Mi) hrn n 0 Mi (by omega) hDI fun j k => by rw [if_neg (by omega)]
        generalize g2 p v r n 0 Mi = M2 at hg2
        have hsc : ∀ l, l < n → ent M2 r l = (ent M r l * v) % p := by
          intro l hl
          have hb := hRI r l
          have b := mul_rg h1 hb.1 hb.2 hinv.2.2.1 hinv.2.2.2.1
          rw [hg2.2 r l, if_pos ⟨rfl, hl⟩, wrap_id (by omega) (by omega), Int.tmod_eq_emod_of_nonneg (by omega), heM r l (Nat.le_refl _)]
        have hR2 : Rg p M2 := Rg.of h2 hg2.1 fun j l hj hl => by
          by_cases e : j = r
          · subst e; rw [hsc l hl]; exact ⟨Int.emod_nonneg _ (by omega), Int.emod_lt_of_pos _ (by omega)⟩
          · rw [hg2.2 j l, if_neg (fun h => e h.1)]; exact hRI j l
        have hg1 := g1_go (c := c) (r := r) (L := M2) h2 h1 hR2 hcn n 0 M2 (by omega) hg2.1 fun j k hk => by rw [if_neg (by omega)]
        have he1 := e1_go (v := v) (c := c) (r := r) (L := M) h2 h1 hRM hcn (n - (r + 1)) (r + 1) M (by omega) (by omega) hDM fun j k hk => by rw [if_neg (by omega)]
        have hRe := (e1_inv (v := v) (c := c) (r := r) h2 h1 (n - (r + 1)) (r + 1) M (by omega) hDM hRM).2
        have hRg := Rg.of h2 hg1.1 fun j l hj hl => by
          rw [hg1.2 j l hj hl]
          split
          · exact md_range h2 h1 _
          · exact hR2 j l
        refine ih (c + 1) (r + 1) _ _ _ (by omega) he1.1 hg1.1 hRe hRg fun j l hj => ?_
        by_cases hjn : j < n
        · by_cases hln : l < n
          · rw [he1.2 j l hjn hln, hg1.2 j l hjn hln, if_pos (by omega), if_pos (by omega)]
            have fr := fc_emod h2 h1 hRM hinv.2.2.1 hinv.2.2.2.1 j c
            have f0 : 0 ≤ fc p v M j c := by rw [fr]; exact Int.emod_nonneg _ (by omega)
            have f1 : fc p v M j c < p := by rw [fr]; exact Int.emod_lt_of_pos _ (by omega)
            rw [el_emod h2 h1 hRM f0 f1, el_emod h2 h1 hR2 (hR2 j c).1 (hR2 j c).2, fr, hsc l hln, hg2.2 j c, hg2.2 j l, if_neg (by omega), if_neg (by omega), ← heM j c (by omega), ← heM j l (by omega)]
            exact (mod_same2 p _ _ _ _).symm
          · rw [ent_out he1.1 (Or.inr (by omega)), ent_out hg1.1 (Or.inr (by omega))]
        · rw [ent_out he1.1 (Or.inl (by omega)), ent_out hg1.1 (Or.inl (by omega))]

end Go.Proofs.Ytgllnmefcikdnaa.PE
