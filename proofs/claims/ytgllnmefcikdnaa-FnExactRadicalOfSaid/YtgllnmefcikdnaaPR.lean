/- The reductions of the program and of the reference are the same; both find the same radical: plain lemmas. No condition. -/
import Derived.Test.YtgllnmefcikdnaaPE
import Derived.Test.YtgllnmefcikdnaaHandRadOf
namespace Go.Proofs.Ytgllnmefcikdnaa.PR
open Go.RowKit Go.Proofs.Ytgllnmefcikdnaa.Hand Go.Proofs.YtgllnmefcikdnaaW.PrintWords Go.Proofs.YtgllnmefcikdnaaW.PrintLast Go.Proofs.Ytgllnmefcikdnaa.PA Go.Proofs.Ytgllnmefcikdnaa.PE
set_option linter.unusedVariables false
set_option linter.unusedSimpArgs false

theorem ixg_none : ∀ {L : List (List Int)} {c d j : Nat}, ixg L c d j = none → ∀ t, j ≤ t → t < j + d → ent L t c = 0 := by
  intro L c d
  induction d with
  | zero => intro j _ t h1 h2; omega
  | succ d ih =>
    intro j h t h1 h2
    simp only [ixg] at h
    by_cases h0 : ent L j c = 0
    · rw [if_pos h0] at h
      by_cases e : t = j
      · rw [e]; exact h0
      · exact ih h t (by omega) (by omega)
    · rw [if_neg h0] at h; cases h
theorem g3_nr {n m : Nat} {p f : Int} {t r : Nat} {L : List (List Int)} (hD : Dm n m L) (ht : t < m) (htr : t ≠ r) : g3 p f t r n 0 L = L.set t (nr p f L t r n) := by
  have hg := g3_go (p := p) (f := f) (L := L) ht htr n 0 L (by omega) hD fun j k => by rw [if_neg (by omega)]
  refine tab_ext hg.1 (hD.set t _ ht (nr_len ..)) fun j k hj hk => ?_
  rw [hg.2 j k, ent_set _ _ _ (by rw [hD.1]; exact ht), nr_ent, if_pos hk]
  by_cases e : t = j
  · rw [if_pos ⟨e.symm, hk⟩, if_pos e]
  · rw [if_neg (fun h => e h.1.symm), if_neg e]
theorem h1_g1 {n m : Nat} {p : Int} {c r : Nat} : ∀ (d t : Nat) (L : List (List Int)), t + d = m → Dm n m L → h1 p c n r d t L = g1 p c n r d t L := by
  intro d
  induction d with
  | zero => intros; rfl
  | succ d ih =>
    intro t L ht hD
    rw [h1, g1]
    by_cases e : t = r ∨ ent L t c = 0
    · rw [if_pos e, if_pos e]; exact ih _ _ (by omega) hD
    · rw [if_neg e, if_neg e, g3_nr hD (by omega) (fun h => e (.inl h))]
      exact ih _ _ (by omega) (hD.set t _ (by omega) (nr_len ..))
/-- A step of the elimination: row k comes to place r, times v; all others are made 0 in column c. -/
structure Stp (p : Int) (n m c r k : Nat) (v : Int) (L L' : List (List Int)) : Prop where
  dm : Dm n m L'
  rg : Rg p L'
  inv : (ent L k c * v) % p = 1
  row : ∀ j, j < n → ent L' r j = (ent L k j * v) % p
  els : ∀ t j, t < m → j < n → t ≠ r → ent L' t j = (ent L (sw r k t) j - ent L (sw r k t) c * ((ent L k j * v) % p)) % p
def stp (p : Int) (n m c r k : Nat) (L : List (List Int)) : List (List Int) := g1 p c n r m 0 (g2 p (iv2 p (ent (swp L r k) r c)) r n 0 (swp L r k))
def stq (p : Int) (n m c r k : Nat) (L : List (List Int)) : List (List Int) := h1 p c n r m 0 ((swp L k r).set r (ld p (iv1 p (ent L k c)) (L.getD k []) n))
theorem sw_r (r k : Nat) : sw r k r = k := by unfold sw; rw [if_pos rfl]
theorem stp_spec {p : Int} {n m c r k : Nat} {L : List (List Int)} (hp : isP p = true) (hD : Dm n m L) (hR : Rg p L) (hc : c < n) (hr : r < m) (hk : k < m) (hx : ent L k c ≠ 0) :
    (∃ v, Stp p n m c r k v L (stp p n m c r k L)) ∧ stq p n m c r k L = stp p n m c r k L := by
  obtain ⟨h2, h1⟩ := isP_range hp
  have hxr := hR k c
  have hinv := inv_ok hp (show 1 ≤ ent L k c by omega) hxr.2
  have hiv := iv2_eq hp (show 1 ≤ ent L k c by omega) hxr.2
  have hM : ∀ j l, ent (swp L r k) j l = ent L (sw r k j) l := fun j l => ent_swp _ _ _ (by rw [hD.1]; exact hr) (by rw [hD.1]; exact hk) _ _
  have hDM := hD.swp hr hk
  have hRM := hR.swp hD hr hk
  unfold stp stq
  rw [hM r c, sw_r, hiv, swp_comm L k r]
  generalize iv1 p (ent L k c) = v at hinv
  generalize swp L r k = M at hM hDM hRM
  have hMr : ∀ l, ent M r l = ent L k l := fun l => by rw [hM, sw_r]
  have hg2 := g2_go (p := p) (v := v) (L := M) hr n 0 M (by omega) hDM fun j k => by rw [if_neg (by omega)]
  have hL2 : M.set r (ld p v (L.getD k []) n) = g2 p v r n 0 M := by
    refine tab_ext (hDM.set r _ hr (ld_len ..)) hg2.1 fun j l hj hl => ?_
    rw [ent_set _ _ _ (by rw [hDM.1]; exact hr), hg2.2 j l]
    by_cases e : r = j
    · rw [if_pos e, if_pos ⟨e.symm, hl⟩, hMr]
      unfold ld
      simp [List.getD_eq_getElem?_getD, hl, ent]
    · rw [if_neg e, if_neg (fun h => e h.1.symm)]
  rw [hL2]
  generalize g2 p v r n 0 M = M2 at hg2
  have hsc : ∀ l, l < n → ent M2 r l = (ent L k l * v) % p := by
    intro l hl
    have hb := hR k l
    have b := mul_rg h1 hb.1 hb.2 hinv.2.2.1 hinv.2.2.2.1
    rw [hg2.2 r l, if_pos ⟨rfl, hl⟩, hMr, wrap_id (by omega) (by omega), Int.tmod_eq_emod_of_nonneg (by omega)]
  have hR2 : Rg p M2 := Rg.of h2 hg2.1 fun j l hj hl => by
    by_cases e : j = r
    · subst e; rw [hsc l hl]; exact ⟨Int.emod_nonneg _ (by omega), Int.emod_lt_of_pos _ (by omega)⟩
    · rw [hg2.2 j l, if_neg (fun h => e h.1)]; exact hRM j l
  have hg1 := g1_go (c := c) (r := r) (L := M2) h2 h1 hR2 hc m 0 M2 (by omega) hg2.1 fun j k hk => by rw [if_neg (by omega)]
  refine ⟨⟨v, hg1.1, ?_, hinv.2.2.2.2, fun j hj => ?_, fun t j ht hj htr => ?_⟩, h1_g1 m 0 M2 (by omega) hg2.1⟩
  · exact Rg.of h2 hg1.1 fun j l hj hl => by
      rw [hg1.2 j l hj hl]
      split
      · exact md_range h2 h1 _
      · exact hR2 j l
  · rw [hg1.2 r j hr hj, if_neg (fun h => h rfl), hsc j hj]
  · rw [hg1.2 t j ht hj, if_pos htr, el_emod h2 h1 hR2 (hR2 t c).1 (hR2 t c).2, hsc j hj, hg2.2 t j, hg2.2 t c, if_neg (fun h => htr h.1), if_neg (fun h => htr h.1), hM, hM]
theorem r0_full {p : Int} {iv : Int → Int} {m n : Nat} : ∀ (d c : Nat) (L : List (List Int)) (r : Nat), m ≤ r → r0 p iv m n d c L r = (L, r) := by
  intro d
  induction d with
  | zero => intros; rfl
  | succ d ih =>
    intro c L r h
    rw [r0, show m - r = 0 by omega]
    exact ih _ _ _ h
/-- The reference's reduction is the program's. -/
theorem r0_g0 {p : Int} {n m : Nat} (hp : isP p = true) : ∀ (d c : Nat) (L : List (List Int)) (r : Nat), c + d = n → Dm n m L → Rg p L → r0 p (iv1 p) m n d c L r = g0 p (iv2 p) m n d c L r := by
  intro d
  induction d with
  | zero => intros; rfl
  | succ d ih =>
    intro c L r hc hD hR
    by_cases hr : m ≤ r
    · rw [r0_full _ _ _ _ hr, g0, if_pos hr]
    · rw [r0, g0, if_neg hr]
      cases hk : ixg L c (m - r) r with
      | none => exact ih _ _ _ (by omega) hD hR
      | some k =>
        obtain ⟨k1, k2, k3⟩ := ixg_some hk
        have hs := stp_spec (n := n) (m := m) (c := c) (r := r) (k := k) hp hD hR (by omega) (by omega) (by omega) k3
        obtain ⟨⟨v, hS⟩, hq⟩ := hs
        have e1 : ∀ X, r0 p (iv1 p) m n d (c + 1) (stq p n m c r k L) X = r0 p (iv1 p) m n d (c + 1) (stp p n m c r k L) X := fun X => by rw [hq]
        exact (e1 (r + 1)).trans (ih (c + 1) (stp p n m c r k L) (r + 1) (by omega) hS.dm hS.rg)
/-! #### sums -/
def sm (f : Nat → Int) : Nat → Int
  | 0 => 0
  | m + 1 => sm f m + f m
theorem sm_congr {f g : Nat → Int} : ∀ m, (∀ j, j < m → f j = g j) → sm f m = sm g m := by
  intro m
  induction m with
  | zero => intro _; rfl
  | succ m ih => intro h; rw [sm, sm, ih fun j hj => h j (by omega), h m (by omega)]
theorem sm_sub (f g : Nat → Int) : ∀ m, sm (fun j => f j - g j) m = sm f m - sm g m := by
  intro m
  induction m with
  | zero => rfl
  | succ m ih => rw [sm, sm, sm, ih]; omega
theorem sm_mul (c : Int) (f : Nat → Int) : ∀ m, sm (fun j => c * f j) m = c * sm f m := by
  intro m
  induction m with
  | zero => simp [sm]
  | succ m ih => rw [sm, sm, ih, Int.mul_add]
theorem sm_out {f : Nat → Int} {g : Int} {r : Nat} : ∀ m, m ≤ r → sm (fun j => if j = r then g else f j) m = sm f m := by
  intro m h
  exact sm_congr m fun j hj => if_neg (by omega)
theorem sm_at {f : Nat → Int} {g : Int} {r : Nat} : ∀ m, r < m → sm (fun j => if j = r then g else f j) m = sm f m - f r + g := by
  intro m
  induction m with
  | zero => intro h; omega
  | succ m ih =>
    intro h
    rw [sm, sm]
    by_cases e : m = r
    · rw [if_pos e, sm_out m (by omega), e]; omega
    · rw [if_neg e, ih (by omega)]; omega
theorem sm_sw (f : Nat → Int) {r k m : Nat} (hr : r < m) (hk : k < m) : sm (fun j => f (sw r k j)) m = sm f m := by
  have e : ∀ j, f (sw r k j) = if j = r then f k else (if j = k then f r else f j) := by
    intro j
    unfold sw
    split
    · rfl
    · split <;> rfl
  rw [sm_congr m fun j _ => e j, sm_at m hr, sm_at m hk]
  by_cases h : r = k
  · rw [if_pos h, h]; omega
  · rw [if_neg h]; omega
theorem sm_dvd {p : Int} {f : Nat → Int} : ∀ m, (∀ j, j < m → p ∣ f j) → p ∣ sm f m := by
  intro m
  induction m with
  | zero => intro _; exact ⟨0, by simp [sm]⟩
  | succ m ih => intro h; rw [sm]; exact Int.dvd_add (ih fun j hj => h j (by omega)) (h m (by omega))
theorem sm_one (a : Nat → Int) {i m : Nat} (hi : i < m) : sm (fun j => a j * (if j = i then 1 else 0)) m = a i := by
  have e : ∀ j, a j * (if j = i then 1 else 0) = if j = i then a i else 0 := by
    intro j
    by_cases h : j = i
    · rw [if_pos h, if_pos h, h, Int.mul_one]
    · rw [if_neg h, if_neg h, Int.mul_zero]
  rw [sm_congr m fun j _ => e j, sm_at (f := fun _ => 0) m hi]
  have z : ∀ m, sm (fun _ => 0) m = 0 := by
    intro m
    induction m with
    | zero => rfl
    | succ m ih => rw [sm, ih]; rfl
  rw [z]; omega
/-- The rows do not depend on one another. -/
def Ind (p : Int) (n m : Nat) (L : List (List Int)) : Prop := ∀ a : Nat → Int, (∀ k, k < n → p ∣ sm (fun j => a j * ent L j k) m) → ∀ j, j < m → p ∣ a j
theorem sw_sw (r k j : Nat) : sw r k (sw r k j) = j := by
  unfold sw
  split
  · split
    · omega
    · rw [if_pos rfl]; omega
  · split
    · rw [if_pos rfl]; omega
    · rfl
theorem dvd_emod_sub (p a : Int) : p ∣ a - a % p := by
  rw [Int.emod_def]
  exact ⟨a / p, by omega⟩
theorem ind_step {p v : Int} {n m c r k : Nat} {L L' : List (List Int)} (hS : Stp p n m c r k v L L') (hr : r < m) (hk : k < m) (h : Ind p n m L) : Ind p n m L' := by
  intro a' ha
  obtain ⟨S, hSd⟩ : ∃ S, sm (fun j => if j = r then 0 else a' j * ent L (sw r k j) c) m = S := ⟨_, rfl⟩
  obtain ⟨b, hb⟩ : ∃ b : Nat → Int, ∀ j, b j = if j = r then v * (a' r - S) else a' j := ⟨_, fun _ => rfl⟩
  have hM : ∀ l, l < n → p ∣ sm (fun j => b j * ent L (sw r k j) l) m := by
    intro l hl
    obtain ⟨x, hx⟩ : ∃ x, ent L k l = x := ⟨_, rfl⟩
    obtain ⟨M, hMd⟩ : ∃ M : Nat → Int, ∀ j, M j = ent L (sw r k j) l := ⟨_, fun _ => rfl⟩
    have hMr : M r = x := by rw [hMd, sw_r, hx]
    -- the sums agree modulo p
    have h1 : p ∣ sm (fun j => (if j = r then a' r * (x * v) else a' j * M j) - (x * v) * (if j = r then 0 else a' j * ent L (sw r k j) c) - a' j * ent L' j l) m := by
      refine sm_dvd m fun j hj => ?_
      by_cases e : j = r
      · subst e
        rw [if_pos rfl, if_pos rfl, hS.row l hl, hx, Int.mul_zero, Int.sub_zero, ← Int.mul_sub]
        exact Int.dvd_mul_of_dvd_right (dvd_emod_sub p (x * v))
      · rw [if_neg e, if_neg e, hS.els j l hj hl e, hx, ← hMd]
        obtain ⟨y, hy⟩ : ∃ y, ent L (sw r k j) c = y := ⟨_, rfl⟩
        rw [hy]
        have e1 : a' j * M j - x * v * (a' j * y) - a' j * ((M j - y * ((x * v) % p)) % p) = a' j * ((M j - y * ((x * v) % p)) - (M j - y * ((x * v) % p)) % p) - (a' j * y) * ((x * v) - (x * v) % p) := by
          generalize (x * v) % p = z
          generalize (M j - y * z) % p = u
          generalize x * v = xv
          rw [Int.mul_sub, Int.mul_sub, Int.mul_sub, Int.mul_comm xv (a' j * y), Int.mul_assoc (a' j) y z]
          omega
        rw [e1]
        exact Int.dvd_sub (Int.dvd_mul_of_dvd_right (dvd_emod_sub p _)) (Int.dvd_mul_of_dvd_right (dvd_emod_sub p _))
    rw [sm_sub, sm_sub, sm_mul, hSd, sm_at m hr] at h1
    have h2 := Int.dvd_add h1 (ha l hl)
    rw [Int.sub_add_cancel] at h2
    have e2 : sm (fun j => b j * ent L (sw r k j) l) m = sm (fun j => a' j * M j) m - a' r * M r + v * (a' r - S) * x := by
      rw [sm_congr (g := fun j => if j = r then v * (a' r - S) * x else a' j * M j) m fun j _ => ?_, sm_at m hr]
      rw [hb, ← hMd]
      by_cases e : j = r
      · subst e; rw [if_pos rfl, if_pos rfl, hMr]
      · rw [if_neg e, if_neg e]
    rw [e2]
    have e3 : v * (a' r - S) * x = a' r * (x * v) - x * v * S := by
      rw [Int.mul_sub, Int.sub_mul, Int.mul_comm v (a' r), Int.mul_assoc, Int.mul_comm v x, Int.mul_assoc v S x, Int.mul_comm S x, ← Int.mul_assoc v x S, Int.mul_comm v x]
    rw [e3]
    have e4 : sm (fun j => a' j * M j) m - a' r * M r + (a' r * (x * v) - x * v * S) = sm (fun j => a' j * M j) m - a' r * M r + a' r * (x * v) - x * v * S := by omega
    rw [e4]
    exact h2
  have hall : ∀ j, j < m → p ∣ b j := by
    have h3 := h (fun j => b (sw r k j)) fun l hl => by
      have h4 := hM l hl
      have e : sm (fun j => b j * ent L (sw r k j) l) m = sm (fun j => b (sw r k j) * ent L j l) m := by
        rw [← sm_sw (fun j => b (sw r k j) * ent L j l) hr hk]
        exact sm_congr m fun j _ => by simp only [sw_sw]
      rw [e] at h4
      exact h4
    intro j hj
    have h5 := h3 (sw r k j) (sw_lt hr hk hj)
    simp only [sw_sw] at h5
    exact h5
  have hne : ∀ j, j < m → j ≠ r → p ∣ a' j := fun j hj e => by
    have := hall j hj
    rw [hb, if_neg e] at this
    exact this
  intro j hj
  by_cases e : j = r
  · subst e
    have h6 := hall j hj
    rw [hb, if_pos rfl] at h6
    have hS2 : p ∣ S := by
      rw [← hSd]
      refine sm_dvd m fun i hi => ?_
      by_cases e : i = j
      · rw [if_pos e]; exact ⟨0, by simp⟩
      · rw [if_neg e]; exact Int.dvd_mul_of_dvd_left (hne i hi e)
    obtain ⟨w1, hw1⟩ := h6
    obtain ⟨w2, hw2⟩ := hS2
    have hi := hS.inv
    obtain ⟨x, hx⟩ : ∃ x, ent L k c = x := ⟨_, rfl⟩
    rw [hx] at hi
    obtain ⟨z, hz⟩ : ∃ z, x * v = 1 + p * z := ⟨x * v / p, by rw [Int.emod_def] at hi; omega⟩
    -- v a = p w1 + v p w2; a = x v a - p z a
    have h7 : v * a' j = p * (w1 + v * w2) := by
      have : v * a' j = v * (a' j - S) + v * S := by rw [Int.mul_sub]; omega
      rw [this, hw1, hw2, Int.mul_add, Int.mul_left_comm v p w2]
    refine ⟨x * (w1 + v * w2) - z * a' j, ?_⟩
    have h8 : x * v * a' j = p * (x * (w1 + v * w2)) := by rw [Int.mul_assoc, h7, Int.mul_left_comm]
    have h9 : x * v * a' j = a' j + p * (z * a' j) := by rw [hz, Int.add_mul, Int.one_mul, Int.mul_assoc]
    rw [Int.mul_sub, ← h8, h9]
    omega
  · exact hne j hj e
/-! #### the reduced form -/
structure Ech (m c r : Nat) (L : List (List Int)) (q : Nat → Nat) : Prop where
  lt : ∀ i, i < r → q i < c
  inc : ∀ i j, i < j → j < r → q i < q j
  one : ∀ i, i < r → ent L i (q i) = 1
  lead : ∀ i, i < r → ∀ k, k < q i → ent L i k = 0
  zero : ∀ j, r ≤ j → j < m → ∀ k, k < c → ent L j k = 0
theorem ech_step {p v : Int} {n m c r k : Nat} {L L' : List (List Int)} {q : Nat → Nat} (h2 : 2 ≤ p) (hR : Rg p L) (hS : Stp p n m c r k v L L') (hc : c < n) (hr : r < m) (hrk : r ≤ k) (hk : k < m) (h : Ech m c r L q) : Ech m (c + 1) (r + 1) L' (fun i => if i = r then c else q i) := by
  have hz : ∀ l, l < c → (ent L k l * v) % p = 0 := fun l hl => by rw [h.zero k hrk hk l hl, Int.zero_mul, Int.zero_emod]
  have hold : ∀ t l, t < m → l < c → t ≠ r → ent L' t l = ent L (sw r k t) l := fun t l ht hl htr => by
    rw [hS.els t l ht (by omega) htr, hz l hl, Int.mul_zero, Int.sub_zero, Int.emod_eq_of_lt (hR _ _).1 (hR _ _).2]
  have hsi : ∀ i, i < r → sw r k i = i := fun i hi => by unfold sw; rw [if_neg (by omega), if_neg (by omega)]
  have hsj : ∀ j, r < j → r ≤ sw r k j := fun j hj => by unfold sw; split; omega; split <;> omega
  refine ⟨fun i hi => ?_, fun i j hij hj => ?_, fun i hi => ?_, fun i hi l hl => ?_, fun j hj hjm l hl => ?_⟩
  · by_cases e : i = r
    · simp only [if_pos e]; omega
    · simp only [if_neg e]; have := h.lt i (by omega); omega
  · by_cases e : j = r
    · simp only [if_pos e, if_neg (show ¬ i = r by omega)]
      exact h.lt i (by omega)
    · simp only [if_neg e, if_neg (show ¬ i = r by omega)]
      exact h.inc i j hij (by omega)
  · by_cases e : i = r
    · simp only [if_pos e]; rw [e, hS.row c hc, hS.inv]
    · simp only [if_neg e]
      have hi2 : i < r := by omega
      rw [hold i _ (by omega) (h.lt i hi2) e, hsi i hi2]
      exact h.one i hi2
  · by_cases e : i = r
    · simp only [if_pos e] at hl
      rw [e, hS.row l (by omega), hz l hl]
    · simp only [if_neg e] at hl
      have hi2 : i < r := by omega
      have := h.lt i hi2
      rw [hold i _ (by omega) (by omega) e, hsi i hi2]
      exact h.lead i hi2 l hl
  · have hjr : j ≠ r := by omega
    by_cases e : l = c
    · subst e
      rw [hS.els j l hjm hc hjr, hS.inv, Int.mul_one, Int.sub_self, Int.zero_emod]
    · rw [hold j l hjm (by omega) hjr]
      exact h.zero _ (hsj j (by omega)) (sw_lt hr hk hjm) l (by omega)
theorem g0_ech {p : Int} {n m : Nat} (hp : isP p = true) : ∀ (d c : Nat) (L : List (List Int)) (r : Nat) (q : Nat → Nat), c + d = n → Dm n m L → Rg p L → r ≤ m → Ech m c r L q →
    Dm n m (g0 p (iv2 p) m n d c L r).1 ∧ Rg p (g0 p (iv2 p) m n d c L r).1 ∧ (g0 p (iv2 p) m n d c L r).2 ≤ m ∧ (∃ q', Ech m n (g0 p (iv2 p) m n d c L r).2 (g0 p (iv2 p) m n d c L r).1 q') ∧ (Ind p n m L → Ind p n m (g0 p (iv2 p) m n d c L r).1) := by
  obtain ⟨h2, h1⟩ := isP_range hp
  intro d
  induction d with
  | zero =>
    intro c L r q hc hD hR hr h
    obtain rfl : c = n := by omega
    exact ⟨hD, hR, hr, ⟨q, h⟩, fun h => h⟩
  | succ d ih =>
    intro c L r q hc hD hR hr h
    rw [g0]
    by_cases hm : m ≤ r
    · rw [if_pos hm]
      exact ⟨hD, hR, hr, ⟨q, fun i hi => by have := h.lt i hi; omega, h.inc, h.one, h.lead, fun j hj hjm => by omega⟩, fun h => h⟩
    · rw [if_neg hm]
      cases hk : ixg L c (m - r) r with
      | none =>
        refine ih (c + 1) L r q (by omega) hD hR hr ⟨fun i hi => by have := h.lt i hi; omega, h.inc, h.one, h.lead, fun j hj hjm l hl => ?_⟩
        by_cases e : l = c
        · rw [e]; exact ixg_none hk j hj (by omega)
        · exact h.zero j hj hjm l (by omega)
      | some k =>
        obtain ⟨k1, k2, k3⟩ := ixg_some hk
        obtain ⟨⟨v, hS⟩, _⟩ := stp_spec (n := n) (m := m) (c := c) (r := r) (k := k) hp hD hR (by omega) (by omega) (by omega) k3
        obtain ⟨i1, i2, i3, i4, i5⟩ := ih (c + 1) (stp p n m c r k L) (r + 1) _ (by omega) hS.dm hS.rg (by omega) (ech_step h2 hR hS (by omega) (by omega) k1 (by omega) h)
        exact ⟨i1, i2, i3, i4, fun hI => i5 (ind_step hS (by omega) (by omega) hI)⟩
theorem ech_start (m : Nat) (L : List (List Int)) : Ech m 0 0 L (fun _ => 0) := ⟨fun i hi => by omega, fun i j _ hj => by omega, fun i hi => by omega, fun i hi => by omega, fun j _ _ k hk => by omega⟩
theorem fz_at {row : List Int} {q : Nat} : ∀ (d j : Nat), j ≤ q → q < j + d → (∀ k, k < q → row.getD k 0 = 0) → row.getD q 0 ≠ 0 → fz row d j = some q := by
  intro d
  induction d with
  | zero => intro j h1 h2; omega
  | succ d ih =>
    intro j h1 h2 h3 h4
    rw [fz]
    by_cases e : j = q
    · rw [e, if_neg h4]
    · rw [if_pos (h3 j (by omega))]
      exact ih (j + 1) (by omega) (by omega) h3 h4
/-! #### the leads -/
theorem take_row {L : List (List Int)} {r i : Nat} (hi : i < r) : (L.take r).getD i [] = L.getD i [] := getD_take L [] hi
theorem ls_go {R : List (List Int)} {n r : Nat} {q : Nat → Nat} (hq : ∀ i, i < r → fz (R.getD i []) n 0 = some (q i)) (hqn : ∀ i, i < r → q i < n) (hinj : ∀ i j, i < r → j < r → q i = q j → i = j) : ∀ (d i : Nat) (l : List Int), i + d = r → l.length = n →
    (∀ t, t < i → l.getD (q t) 0 = (t : Int)) → (∀ k, k < n → (∀ t, t < i → q t ≠ k) → l.getD k 0 = -1) →
    (ls R n d i l).length = n ∧ (∀ t, t < r → (ls R n d i l).getD (q t) 0 = (t : Int)) ∧ (∀ k, k < n → (∀ t, t < r → q t ≠ k) → (ls R n d i l).getD k 0 = -1) := by
  intro d
  induction d with
  | zero =>
    intro i l hi hl h1 h2
    obtain rfl : i = r := by omega
    exact ⟨hl, h1, h2⟩
  | succ d ih =>
    intro i l hi hl h1 h2
    rw [ls, hq i (by omega)]
    have hqi := hqn i (by omega)
    refine ih (i + 1) _ (by omega) (by rw [List.length_set]; exact hl) (fun t ht => ?_) (fun k hk hne => ?_)
    · rw [getD_set _ _ _ _ _ (by omega)]
      by_cases e : t = i
      · subst e; rw [if_pos rfl]
      · rw [if_neg (fun h => e (hinj _ _ (by omega) (by omega) h).symm)]
        exact h1 t (by omega)
    · rw [getD_set _ _ _ _ _ (by omega), if_neg (hne i (by omega))]
      exact h2 k hk fun t ht => hne t (by omega)
/-! #### the vectors -/
theorem kx_get {p : Int} {L : List (List Int)} {q : Nat → Nat} {c n r : Nat} (hqn : ∀ i, i < r → q i < n) (hinj : ∀ i j, i < r → j < r → q i = q j → i = j) : ∀ (d i : Nat) (x : List Int), i + d = r → x.length = n →
    (kx p L q c d i x).length = n ∧ (∀ t, i ≤ t → t < r → (kx p L q c d i x).getD (q t) 0 = md p (wrap64 (-(ent L t c)))) ∧ (∀ k, k < n → (∀ t, i ≤ t → t < r → q t ≠ k) → (kx p L q c d i x).getD k 0 = x.getD k 0) := by
  intro d
  induction d with
  | zero =>
    intro i x hi hx
    exact ⟨hx, fun t h1 h2 => by omega, fun k _ _ => rfl⟩
  | succ d ih =>
    intro i x hi hx
    rw [kx]
    have hqi := hqn i (by omega)
    obtain ⟨i1, i2, i3⟩ := ih (i + 1) (x.set (q i) (md p (wrap64 (-(ent L i c))))) (by omega) (by rw [List.length_set]; exact hx)
    refine ⟨i1, fun t h1 h2 => ?_, fun k hk hne => ?_⟩
    · by_cases e : t = i
      · subst e
        rw [i3 (q t) hqi fun s hs1 hs2 h => by have := hinj s t (by omega) (by omega) h; omega, getD_set _ _ _ _ _ (by omega), if_pos rfl]
      · exact i2 t (by omega) h2
    · rw [i3 k hk fun t h1 h2 => hne t (by omega) h2, getD_set _ _ _ _ _ (by omega), if_neg (hne i (by omega) (by omega))]
theorem ow_get {p : Int} {R : List (List Int)} {l : List Int} {j n : Nat} : ∀ (d i : Nat) (x : List Int), i + d = n → x.length = n →
    (ow p R l j d i x).length = n ∧ ∀ k, k < n → (ow p R l j d i x).getD k 0 = if i ≤ k ∧ 0 ≤ l.getD k 0 then md p (wrap64 (-(ent R (l.getD k 0).toNat j))) else x.getD k 0 := by
  intro d
  induction d with
  | zero =>
    intro i x hi hx
    refine ⟨hx, fun k hk => ?_⟩
    rw [ow, if_neg (by omega)]
  | succ d ih =>
    intro i x hi hx
    rw [ow]
    obtain ⟨i1, i2⟩ := ih (i + 1) (if 0 ≤ l.getD i 0 then x.set i (md p (wrap64 (-(ent R (l.getD i 0).toNat j)))) else x) (by omega) (by split; rw [List.length_set]; exact hx; exact hx)
    refine ⟨i1, fun k hk => ?_⟩
    rw [i2 k hk]
    by_cases e : k = i
    · subst e
      rw [if_neg (by omega)]
      by_cases h0 : 0 ≤ l.getD k 0
      · rw [if_pos h0, if_pos ⟨Nat.le_refl _, h0⟩, getD_set _ _ _ _ _ (by omega), if_pos rfl]
      · rw [if_neg h0, if_neg (fun h => h0 h.2)]
    · by_cases h1 : i ≤ k ∧ 0 ≤ l.getD k 0
      · rw [if_pos ⟨by omega, h1.2⟩, if_pos h1]
      · rw [if_neg (fun h => h1 ⟨by omega, h.2⟩), if_neg h1]
        split
        · rw [getD_set _ _ _ _ _ (by omega), if_neg (fun h => e h.symm)]
        · rfl
theorem row_ext {x y : List Int} {n : Nat} (hx : x.length = n) (hy : y.length = n) (h : ∀ k, k < n → x.getD k 0 = y.getD k 0) : x = y := by
  refine List.ext_getElem (by omega) fun k h1 h2 => ?_
  have := h k (by omega)
  rw [List.getD_eq_getElem?_getD, List.getD_eq_getElem?_getD, List.getElem?_eq_getElem h1, List.getElem?_eq_getElem h2] at this
  exact this
/-- What both find: the leads. -/
structure Lds (n r : Nat) (q : Nat → Nat) (l : List Int) : Prop where
  len : l.length = n
  qn : ∀ i, i < r → q i < n
  inj : ∀ i j, i < r → j < r → q i = q j → i = j
  at_ : ∀ t, t < r → l.getD (q t) 0 = (t : Int)
  out : ∀ k, k < n → (∀ t, t < r → q t ≠ k) → l.getD k 0 = -1
theorem ow_kx {p : Int} {L : List (List Int)} {q : Nat → Nat} {l : List Int} {n r j : Nat} (h : Lds n r q l) (x : List Int) (hx : x.length = n) : ow p (L.take r) l j n 0 x = kx p L q j r 0 x := by
  obtain ⟨k1, k2, k3⟩ := kx_get (p := p) (L := L) (c := j) h.qn h.inj r 0 x (by omega) hx
  obtain ⟨o1, o2⟩ := ow_get (p := p) (R := L.take r) (l := l) (j := j) n 0 x (by omega) hx
  refine row_ext o1 k1 fun k hk => ?_
  rw [o2 k hk]
  by_cases e : ∃ t, t < r ∧ q t = k
  · obtain ⟨t, ht, rfl⟩ := e
    rw [k2 t (by omega) ht, h.at_ t ht, if_pos ⟨by omega, by omega⟩, Int.toNat_natCast]
    unfold ent
    rw [take_row ht]
  · rw [k3 k hk fun t _ ht he => e ⟨t, ht, he⟩, h.out k hk fun t ht he => e ⟨t, ht, he⟩, if_neg (by omega)]
theorem mem_pvs {q : Nat → Nat} {r k : Nat} : ((k : Nat) : Int) ∈ pvs q r ↔ ∃ t, t < r ∧ q t = k := by
  unfold pvs
  rw [List.mem_map]
  constructor
  · rintro ⟨t, ht, he⟩
    exact ⟨t, List.mem_range.1 ht, by omega⟩
  · rintro ⟨t, ht, he⟩
    exact ⟨t, List.mem_range.2 ht, by omega⟩
theorem os_ko {p : Int} {L : List (List Int)} {q : Nat → Nat} {l : List Int} {n r : Nat} (h : Lds n r q l) : ∀ (d j : Nat) (acc : List (List Int)), j + d = n → os p (L.take r) l n d j acc = ko p L q r n d j acc := by
  intro d
  induction d with
  | zero => intros; rfl
  | succ d ih =>
    intro j acc hj
    rw [os, ko]
    have hiff : (0 ≤ l.getD j 0) ↔ ((j : Nat) : Int) ∈ pvs q r := by
      rw [mem_pvs]
      constructor
      · intro h0
        by_cases e : ∃ t, t < r ∧ q t = j
        · exact e
        · rw [h.out j (by omega) fun t ht he => e ⟨t, ht, he⟩] at h0; omega
      · rintro ⟨t, ht, rfl⟩
        rw [h.at_ t ht]; omega
    by_cases e : ((j : Nat) : Int) ∈ pvs q r
    · rw [if_pos e, if_pos (hiff.2 e)]
      exact ih _ _ (by omega)
    · rw [if_neg e, if_neg (fun h => e (hiff.1 h)), ow_kx h _ (by rw [List.length_set, List.length_replicate])]
      exact ih _ _ (by omega)
/-- The vectors of the kernel. -/
structure Ker (p : Int) (n r c : Nat) (q : Nat → Nat) (acc : List (List Int)) (f : Nat → Nat) : Prop where
  dm : Dm n acc.length acc
  rg : ∀ j k, j < acc.length → k < n → 0 ≤ ent acc j k ∧ ent acc j k < p
  cnt : acc.length ≤ c
  fc : ∀ i, i < acc.length → f i < c
  fq : ∀ i, i < acc.length → ∀ t, t < r → q t ≠ f i
  inj : ∀ i j, i < acc.length → j < acc.length → f i = f j → i = j
  del : ∀ i, i < acc.length → ∀ k, k < n → (∀ t, t < r → q t ≠ k) → ent acc i k = if k = f i then 1 else 0
theorem ko_ker {p : Int} {L : List (List Int)} {q : Nat → Nat} {l : List Int} {n r : Nat} (h2 : 2 ≤ p) (h1 : p ≤ 97) (h : Lds n r q l) : ∀ (d c : Nat) (acc : List (List Int)) (f : Nat → Nat), c + d = n → Ker p n r c q acc f → ∃ f', Ker p n r n q (ko p L q r n d c acc) f' := by
  intro d
  induction d with
  | zero =>
    intro c acc f hc hK
    obtain rfl : c = n := by omega
    exact ⟨f, hK⟩
  | succ d ih =>
    intro c acc f hc hK
    rw [ko]
    by_cases e : ((c : Nat) : Int) ∈ pvs q r
    · rw [if_pos e]
      exact ih (c + 1) acc f (by omega) ⟨hK.dm, hK.rg, by have := hK.cnt; omega, fun i hi => by have := hK.fc i hi; omega, hK.fq, hK.inj, hK.del⟩
    · rw [if_neg e]
      have hne : ∀ t, t < r → q t ≠ c := fun t ht he => e (mem_pvs.2 ⟨t, ht, he⟩)
      obtain ⟨x, hx⟩ : ∃ x, kx p L q c r 0 ((List.replicate n 0).set c 1) = x := ⟨_, rfl⟩
      obtain ⟨k1, k2, k3⟩ := kx_get (p := p) (L := L) (c := c) h.qn h.inj r 0 ((List.replicate n 0).set c 1) (by omega) (by rw [List.length_set, List.length_replicate])
      rw [hx] at k1 k2 k3 ⊢
      have hx0 : ∀ k, k < n → ((List.replicate n (0 : Int)).set c 1).getD k 0 = if k = c then 1 else 0 := fun k hk => by
        rw [getD_set _ _ _ _ _ (by rw [List.length_replicate]; omega)]
        by_cases e : c = k
        · rw [if_pos e, if_pos e.symm]
        · rw [if_neg e, if_neg (fun h => e h.symm), List.getD_eq_getElem?_getD, List.getElem?_replicate, if_pos hk]; rfl
      have hlen : (acc ++ [x]).length = acc.length + 1 := by simp
      have hent : ∀ j k, ent (acc ++ [x]) j k = if j < acc.length then ent acc j k else if j = acc.length then x.getD k 0 else 0 := fun j k => by
        unfold ent
        rw [getD_snoc]
        split
        · rfl
        · split
          · rfl
          · rfl
      refine ih (c + 1) (acc ++ [x]) (fun i => if i = acc.length then c else f i) (by omega) ⟨⟨rfl, fun j hj => ?_⟩, fun j k hj hk => ?_, by rw [hlen]; have := hK.cnt; omega, fun i hi => ?_, fun i hi t ht => ?_, fun i j hi hj hij => ?_, fun i hi k hk hkq => ?_⟩
      · rw [getD_snoc]
        rw [hlen] at hj
        by_cases e1 : j < acc.length
        · rw [if_pos e1]; exact hK.dm.2 j e1
        · rw [if_neg e1, if_pos (by omega)]; exact k1
      · rw [hent]
        by_cases e1 : j < acc.length
        · rw [if_pos e1]; exact hK.rg j k e1 hk
        · rw [if_neg e1]
          split
          · by_cases e2 : ∃ t, t < r ∧ q t = k
            · obtain ⟨t, ht, rfl⟩ := e2
              rw [k2 t (by omega) ht]
              exact md_range h2 h1 _
            · rw [k3 k hk fun t _ ht he => e2 ⟨t, ht, he⟩, hx0 k hk]
              split <;> omega
          · omega
      · by_cases e1 : i = acc.length
        · simp only [if_pos e1]; omega
        · simp only [if_neg e1]; rw [hlen] at hi; have := hK.fc i (by omega); omega
      · by_cases e1 : i = acc.length
        · simp only [if_pos e1]; exact hne t ht
        · simp only [if_neg e1]; rw [hlen] at hi; exact hK.fq i (by omega) t ht
      · rw [hlen] at hi hj
        by_cases e1 : i = acc.length <;> by_cases e2 : j = acc.length
        · omega
        · simp only [if_pos e1, if_neg e2] at hij
          have := hK.fc j (by omega); omega
        · simp only [if_neg e1, if_pos e2] at hij
          have := hK.fc i (by omega); omega
        · simp only [if_neg e1, if_neg e2] at hij
          exact hK.inj i j (by omega) (by omega) hij
      · rw [hlen] at hi
        rw [hent]
        by_cases e1 : i = acc.length
        · rw [if_neg (by omega), if_pos e1, k3 k hk fun t _ ht => hkq t ht, hx0 k hk]
          simp only [if_pos e1]
        · rw [if_pos (by omega), hK.del i (by omega) k hk hkq]
          simp only [if_neg e1]
theorem ker_ind {p : Int} {n r : Nat} {q : Nat → Nat} {acc : List (List Int)} {f : Nat → Nat} (hK : Ker p n r n q acc f) : Ind p n acc.length acc := by
  intro a ha j hj
  have h := ha (f j) (hK.fc j hj)
  have e : sm (fun i => a i * ent acc i (f j)) acc.length = a j := by
    rw [← sm_one a hj]
    refine sm_congr _ fun i hi => ?_
    rw [hK.del i hi (f j) (hK.fc j hj) (hK.fq j hj)]
    by_cases e1 : i = j
    · rw [e1, if_pos rfl, if_pos rfl]
    · rw [if_neg (fun h => e1 (hK.inj i j hi hj h.symm)), if_neg e1]
  rw [e] at h
  exact h
/-- Both texts find the same radical. -/
theorem radical_same {p : Int} {T : List (List Int)} (hp : isP p = true) (hR : Rg p T) (hD : Dm T.length T.length T) (h0 : 0 < T.length) (h9 : T.length ≤ 9) (hr : ∀ r ∈ T, r.length = T.length) (hs : ∀ i j, i < T.length → j < T.length → ent T i j = ent T j i) :
    ∃ R, kerF p T = some R ∧ radF p T = some R ∧ R.length ≤ 9 ∧ ∀ x ∈ R, x.length = T.length := by
  obtain ⟨h2, h1⟩ := isP_range hp
  have hSq : Sqr T := ⟨h0, by omega, hr⟩
  obtain ⟨g1, g2, g3, ⟨q, hE⟩, _⟩ := g0_ech hp T.length 0 T 0 (fun _ => 0) (by omega) hD hR (by omega) (ech_start _ _)
  obtain ⟨G, hG⟩ : ∃ G, g0 p (iv2 p) T.length T.length T.length 0 T 0 = G := ⟨_, rfl⟩
  rw [hG] at g1 g2 g3 hE
  have eG : kerG p T = G := hG
  -- the table is symmetric
  have hT : trs T T.length T.length = T := by
    refine tab_ext (n := T.length) (m := T.length) ⟨trs_len .., fun j hj => ?_⟩ hD fun j i hj hi => ?_
    · unfold trs; simp [List.getD_eq_getElem?_getD, hj, trr_len]
    · unfold trs trr ent
      simp only [List.getD_eq_getElem?_getD, List.getElem?_map, List.getElem?_range hj, Option.map_some, Option.getD_some, List.getElem?_range hi]
      have := hs i j hi hj
      unfold ent at this
      simpa [List.getD_eq_getElem?_getD] using this
  have eR : radG p T = G := by unfold radG; rw [hT, r0_g0 hp _ _ _ _ (by omega) hD hR]; exact hG
  have hfz : ∀ i, i < G.2 → fz (G.1.getD i []) T.length 0 = some (q i) := fun i hi => fz_at _ _ (by omega) (by have := hE.lt i hi; omega) (fun k hk => hE.lead i hi k hk) (by rw [show (G.1.getD i []).getD (q i) 0 = 1 from hE.one i hi]; decide)
  have hinj : ∀ i j, i < G.2 → j < G.2 → q i = q j → i = j := fun i j hi hj e => by
    rcases Nat.lt_trichotomy i j with h | h | h
    · have := hE.inc i j h hj; omega
    · exact h
    · have := hE.inc j i h hi; omega
  -- the leads
  have hfz2 : ∀ i, i < G.2 → fz ((G.1.take G.2).getD i []) T.length 0 = some (q i) := fun i hi => by rw [take_row hi]; exact hfz i hi
  obtain ⟨l1, l2, l3⟩ := ls_go hfz2 (fun i hi => hE.lt i hi) hinj G.2 0 (lf T.length 0 (List.replicate T.length 0)) (by omega)
    (by rw [lf_go T.length T.length 0 _ (by omega) (by simp) (fun k hk => absurd hk (Nat.not_lt_zero _))]; simp) (fun t ht => by omega)
    (fun k hk _ => by
      rw [lf_go T.length T.length 0 _ (by omega) (by simp) (fun k hk => absurd hk (Nat.not_lt_zero _)), List.getD_eq_getElem?_getD, List.getElem?_replicate, if_pos hk]; rfl)
  have hLd : Lds T.length G.2 q (radL p T) := by
    have e : radL p T = ls (G.1.take G.2) T.length G.2 0 (lf T.length 0 (List.replicate T.length 0)) := by unfold radL; rw [eR]
    rw [e]
    exact ⟨l1, fun i hi => hE.lt i hi, hinj, l2, l3⟩
  have hkV : ∀ i, i < G.2 → kerV p T i = q i := fun i hi => by unfold kerV; rw [eG, hfz i hi]; rfl
  have hko : kerO p T = ko p G.1 q G.2 T.length T.length 0 [] := by
    unfold kerO
    rw [eG]
    have hpv : pvs (kerV p T) G.2 = pvs q G.2 := by
      unfold pvs
      exact List.map_congr_left fun i hi => by rw [hkV i (List.mem_range.1 hi)]
    have hkx : ∀ (d i c : Nat) (x : List Int), i + d = G.2 → kx p G.1 (kerV p T) c d i x = kx p G.1 q c d i x := by
      intro d
      induction d with
      | zero => intros; rfl
      | succ d ih => intro i c x hi; rw [kx, kx, hkV i (by omega)]; exact ih _ _ _ (by omega)
    have : ∀ (d c : Nat) (acc : List (List Int)), ko p G.1 (kerV p T) G.2 T.length d c acc = ko p G.1 q G.2 T.length d c acc := by
      intro d
      induction d with
      | zero => intros; rfl
      | succ d ih => intro c acc; rw [ko, ko, hpv, hkx _ _ _ _ (by omega)]; exact ih _ _
    exact this _ _ _
  have hro : radO p T = kerO p T := by
    unfold radO
    rw [eR, os_ko hLd _ _ _ (by omega), hko]
  obtain ⟨f, hK⟩ := ko_ker (L := G.1) h2 h1 hLd T.length 0 [] (fun _ => 0) (by omega) ⟨⟨rfl, fun j hj => absurd hj (Nat.not_lt_zero _)⟩, fun j k hj => absurd hj (Nat.not_lt_zero _), Nat.le_refl _, fun i hi => absurd hi (Nat.not_lt_zero _), fun i hi => absurd hi (Nat.not_lt_zero _), fun i j hi => absurd hi (Nat.not_lt_zero _), fun i hi => absurd hi (Nat.not_lt_zero _)⟩
  rw [← hko] at hK
  obtain ⟨O, hO⟩ : ∃ O, kerO p T = O := ⟨_, rfl⟩
  rw [hO] at hK
  have hRO : Rg p O := Rg.of h2 hK.dm hK.rg
  obtain ⟨o1, o2, o3, ⟨q2, hE2⟩, o5⟩ := g0_ech (n := T.length) hp T.length 0 O 0 (fun _ => 0) (by omega) hK.dm hRO (by omega) (ech_start _ _)
  have hI := o5 (ker_ind hK)
  obtain ⟨H, hH⟩ : ∃ H, g0 p (iv2 p) O.length T.length T.length 0 O 0 = H := ⟨_, rfl⟩
  rw [hH] at o1 o2 o3 hE2 hI
  have eH : kerH p T = H := by unfold kerH; rw [hO]; exact hH
  have eH2 : radH p T = H := by unfold radH; rw [hro, hO, r0_g0 hp _ _ _ _ (by omega) hK.dm hRO]; exact hH
  have hfull : H.2 = O.length := by
    by_cases e : H.2 < O.length
    · have hd := hI (fun j => if j = H.2 then 1 else 0) (fun k hk => by
        have e1 : sm (fun j => (if j = H.2 then 1 else 0) * ent H.1 j k) O.length = 0 := by
          rw [sm_congr (g := fun j => ent H.1 j k * (if j = H.2 then 1 else 0)) _ fun j _ => Int.mul_comm _ _, sm_one (fun j => ent H.1 j k) e]
          exact hE2.zero _ (Nat.le_refl _) e k hk
        rw [e1]; exact ⟨0, by simp⟩) H.2 e
      rw [if_pos rfl] at hd
      have := Int.le_of_dvd (by omega) hd
      omega
    · omega
  have hlen : H.1.length = O.length := o1.1
  refine ⟨H.1, ?_, ?_, ?_, fun x hx => ?_⟩
  · have hkB : kerB p T = true := by
      unfold kerB
      rw [eG, eH, hO]
      simp only [Bool.and_eq_true, decide_eq_true_eq]
      refine ⟨⟨⟨⟨⟨h2, by omega⟩, g1.1⟩, g3⟩, ?_⟩, hlen⟩
      exact List.all_eq_true.2 fun i hi => by rw [hfz i (List.mem_range.1 hi)]; rfl
    unfold kerF
    rw [if_pos ⟨hSq, hkB⟩, eH]
  · have hrB : radB p T = true := by
      unfold radB
      rw [eR]
      simp only [Bool.and_eq_true, decide_eq_true_eq]
      exact ⟨⟨h2, by omega⟩, g3⟩
    unfold radF
    rw [if_pos ⟨hSq, hrB⟩, eH2, hfull, ← hlen, List.take_length]
  · rw [hlen]; have := hK.cnt; omega
  · obtain ⟨j, hj, rfl⟩ := List.getElem_of_mem hx
    have := o1.2 j (by omega)
    rw [List.getD_eq_getElem?_getD, List.getElem?_eq_getElem hj] at this
    exact this

end Go.Proofs.Ytgllnmefcikdnaa.PR
