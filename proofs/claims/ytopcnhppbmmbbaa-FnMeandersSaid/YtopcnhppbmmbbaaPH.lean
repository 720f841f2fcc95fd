/- Meanders and orders come back, turns keep the components: plain lemmas. No condition. -/
import Derived.Test.YtopcnhppbmmbbaaPG
namespace Go.Proofs.Ytopcnhppbmmbbaa.PH
open Go.RowKit Go.Proofs.Ytopcnhppbmmbbaa.Q Go.Proofs.Ytopcnhppbmmbbaa.Hand Go.Proofs.YtopcnhppbmmbbaaW.PrintWords Go.Proofs.YtopcnhppbmmbbaaW.PrintLast Go.Proofs.Ytopcnhppbmmbbaa.PA Go.Proofs.Ytopcnhppbmmbbaa.PC Go.Proofs.Ytopcnhppbmmbbaa.PD Go.Proofs.Ytopcnhppbmmbbaa.PE Go.Proofs.Ytopcnhppbmmbbaa.PF Go.Proofs.Ytopcnhppbmmbbaa.PG
set_option linter.unusedVariables false
set_option linter.unusedSimpArgs false

theorem rd_tab (x : Nat → Nat) (n t : Nat) (ht : t < n) : rd (tab x n) (t : Int) = (x t : Int) := by
  unfold rd tab
  rw [Int.toNat_natCast, List.getD_eq_getElem?_getD, List.getElem?_map, List.getElem?_range ht]
  rfl
/-- A meander comes back from its order. -/
theorem moOk {a b : ByteArray} {p1 p2 : List Int} (A : Sysm a p1) (B : Sysm b p2) (he : a.size = b.size) {q1 q2 : Nat → Nat} (h1 : Mate a.size p1 q1) (h2 : Mate a.size p2 q2) (hc : curves q1 q2 a.size = 1) : ∀ k, 100 ≤ k → impl_MeanderOfOrder.f k (tab (xs q1 q2 0) a.size) = some (a, b, 0) := by
  intro k hk
  have hn := A.n12
  have hn2 := A.n2
  have hev := A.ev
  obtain ⟨m4, m5, m3⟩ := one_full h1 h2 (by omega) (one_all h1 h2 (by omega) hc)
  have hlen := tab_len (xs q1 q2 0) a.size
  have hback := mt_back h1 h2 A.len (by rw [B.len, he]) (by omega) A.ev m4 m5
  have hok : okO (tab (xs q1 q2 0) a.size) = true := by
    unfold okO
    rw [hlen, decide_eq_true ⟨hn2, hn, hev⟩, Bool.true_and, show (0 : Int) = ((0 : Nat) : Int) from rfl, rd_tab _ _ 0 (by omega)]
    rfl
  have hup : upI (srt (tab (xs q1 q2 0) a.size)) 0 = true := by
    rw [← perm_same _ (by rw [hlen]; exact hn)]
    refine (pmR_iff _ (by rw [hlen]; omega) _ _ (by simp)).2 ⟨?_, ?_, ?_⟩
    · intro x hx
      obtain ⟨s, _, rfl⟩ := List.mem_map.1 hx
      have := xs_lt h1 h2 (show 0 < a.size by omega) s
      rw [hlen]
      omega
    · unfold tab
      rw [List.Nodup, List.pairwise_map]
      refine List.Pairwise.imp_of_mem ?_ List.pairwise_lt_range
      intro x y hx hy hxy hxy2
      exact m5 x y hxy (List.mem_range.1 hy) (by omega)
    · intro x _
      rw [List.getD_eq_getElem?_getD, List.getElem?_replicate]
      split <;> rfl
  unfold impl_MeanderOfOrder.f
  rw [if_pos hok, if_pos hup, hlen, hback, sysText A k hk, Option.bind_some, sysText B k hk, Option.bind_some]
  rfl
theorem nodup_rd {l : List Int} (h : l.Nodup) {i j : Nat} (hi : i < l.length) (hj : j < l.length) (he : rd l (i : Int) = rd l (j : Int)) : i = j := by
  have hr : ∀ (t : Nat) (ht : t < l.length), rd l (t : Int) = l[t] := by
    intro t ht
    unfold rd
    rw [Int.toNat_natCast, List.getD_eq_getElem?_getD, List.getElem?_eq_getElem ht]
    rfl
  rw [hr i hi, hr j hj] at he
  have hp := List.pairwise_iff_getElem.1 h
  rcases Nat.lt_trichotomy i j with hlt | heq | hgt
  · exact absurd he (hp i j hi hj hlt)
  · exact heq
  · exact absurd he.symm (hp j i hj hi hgt)
/-- An order comes back from its meander. -/
theorem moInv {l : List Int} {e f : ByteArray} {k : Nat} (hk : 100 ≤ k) (h : impl_MeanderOfOrder.f k l = some (e, f, 0)) : ∀ k', 1048580 ≤ k' → impl_OrderOfMeander.f k' e f = some (l, 0) := by
  intro k' hk'
  unfold impl_MeanderOfOrder.f at h
  cases hok : okO l with
  | false =>
    rw [hok, if_neg (by simp)] at h
    have := (Prod.mk.inj (Prod.mk.inj (Option.some.inj h)).2).2
    cases this
  | true =>
    rw [hok, if_pos rfl] at h
    cases hup : upI (srt l) 0 with
    | false =>
      rw [hup, if_neg (by simp)] at h
      have := (Prod.mk.inj (Prod.mk.inj (Option.some.inj h)).2).2
      cases this
    | true =>
      rw [hup, if_pos rfl] at h
      unfold okO at hok
      rw [Bool.and_eq_true, decide_eq_true_eq] at hok
      obtain ⟨⟨g1, g2, g3⟩, h0⟩ := hok
      have h0' : rd l 0 = 0 := by simpa using h0
      rw [← perm_same l g2] at hup
      obtain ⟨r1, r2, _⟩ := (pmR_iff _ (by omega) _ _ (by simp)).1 hup
      obtain ⟨⟨s1, b1⟩, e1, h⟩ := Option.bind_eq_some_iff.1 h
      obtain ⟨⟨s2, b2⟩, e2, h⟩ := Option.bind_eq_some_iff.1 h
      have hf := Option.some.inj h
      have hb : b1 = true ∧ b2 = true ∧ s1 = e ∧ s2 = f := by
        cases b1 <;> cases b2 <;> simp [finO] at hf ⊢
        exact hf
      obtain ⟨rfl, rfl, rfl, rfl⟩ := hb
      have lens := mtS_len l l.length l.length
      obtain ⟨A, za⟩ := sysText_inv (by rw [lens.1]; exact g1) (by rw [lens.1]; exact g2) (by rw [lens.1]; exact g3) hk e1
      obtain ⟨B, zb⟩ := sysText_inv (by rw [lens.2]; exact g1) (by rw [lens.2]; exact g2) (by rw [lens.2]; exact g3) hk e2
      rw [lens.1] at za
      rw [lens.2] at zb
      have hrng : ∀ t, t < l.length → 0 ≤ rd l (t : Int) ∧ rd l (t : Int) ≤ (l.length : Int) - 1 := fun t ht => r1 _ (rd_mem l t ht)
      obtain ⟨L, hLd⟩ : ∃ L : Nat → Nat, ∀ t : Nat, L t = (rd l (t : Int)).toNat := ⟨_, fun _ => rfl⟩
      have hL : ∀ t, t < l.length → rd l (t : Int) = (L t : Int) := fun t ht => by have := hrng t ht; rw [hLd]; omega
      have hl : ∀ t, t < l.length → L t < l.length := fun t ht => by have := hrng t ht; rw [hLd]; omega
      have inj : ∀ x y, x < l.length → y < l.length → L x = L y → x = y := fun x y hx hy hxy => nodup_rd r2 hx hy (by rw [hL x hx, hL y hy, hxy])
      obtain ⟨MA, MB⟩ := mt_spec l l.length L g3 hL hl inj l.length (Nat.le_refl _)
      have hall := all_met l.length L hl inj
      have hL0 : L 0 = 0 := by rw [hLd, show ((0 : Nat) : Int) = 0 from rfl, h0']; rfl
      obtain ⟨q1, h1⟩ := Pairs.mate A.prs
      have hp2 : Pairs s1.size (mtS l l.length l.length).2 := by
        have := B.prs
        rw [zb] at this
        rw [za]
        exact this
      obtain ⟨q2, h2⟩ := Pairs.mate hp2
      have hxs : ∀ m, m < l.length → xs q1 q2 0 m = L m := by
        intro m
        induction m with
        | zero => intro _; exact hL0.symm
        | succ m ih =>
          intro hm
          have ihm := ih (by omega)
          have hlm := hl m (by omega)
          by_cases par : m % 2 = 0
          · rw [xs_even par, ihm]
            have a1 := (MA m (by omega) par).1
            have a2 := (h1 (L m) (by rw [za]; exact hlm)).2.2.2
            unfold Is at a2
            rw [a2] at a1
            omega
          · rw [xs_odd (by omega), ihm]
            have a1 := (MB m (by omega) (by omega)).1
            rw [Nat.mod_eq_of_lt hm] at a1
            have a2 := (h2 (L m) (by rw [za]; exact hlm)).2.2.2
            unfold Is at a2
            rw [a2] at a1
            omega
      have hc : curves q1 q2 s1.size = 1 := one_curve h1 h2 (by omega) (fun x hx => by
        obtain ⟨t, ht, e⟩ := hall x (by omega)
        exact ⟨t, by rw [hxs t ht, e]⟩)
      rw [orderVal A B (by omega) h1 h2 k' hk', if_pos hc]
      have : tab (xs q1 q2 0) s1.size = l := by
        refine ext_rd (by rw [tab_len, za]) (fun x hx => ?_)
        rw [tab_len] at hx
        rw [rd_tab _ _ x hx, hxs x (by omega), ← hL x (by omega)]
      rw [this]
/-! #### turns -/
theorem turned_rd {n : Nat} {p : List Int} {q : Nat → Nat} (h : Mate n p q) (hn : n ≤ 12) : ∀ i, i ≤ n → ∀ j, j < i → rd (turned p n i) (((j + 1) % n : Nat) : Int) = (((q j + 1) % n : Nat) : Int) := by
  have inj : ∀ a b, a < n → b < n → (a + 1) % n = (b + 1) % n → a = b := by
    intro a b ha hb he
    rcases Nat.lt_or_ge (a + 1) n with h | h
    · rw [Nat.mod_eq_of_lt h] at he
      rcases Nat.lt_or_ge (b + 1) n with h' | h'
      · rw [Nat.mod_eq_of_lt h'] at he; omega
      · rw [show b + 1 = n by omega, Nat.mod_self] at he; omega
    · rw [show a + 1 = n by omega, Nat.mod_self] at he
      rcases Nat.lt_or_ge (b + 1) n with h' | h'
      · rw [Nat.mod_eq_of_lt h'] at he; omega
      · omega
  intro i
  induction i with
  | zero => intro _ j hj; omega
  | succ i ih =>
    intro hi j hj
    simp only [turned]
    rw [rd_set _ _ _ _ (by rw [turned_len]; exact Nat.mod_lt _ (by omega))]
    by_cases e : (j + 1) % n = (i + 1) % n
    · rw [if_pos e, inj j i (by omega) (by omega) e]
      have hq := h i (by omega)
      have e2 : rd p (i : Int) = (q i : Int) := hq.2.2.2
      have hqn := hq.1
      rw [e2, show wrap64 ((q i : Int) + 1) = ((q i + 1 : Nat) : Int) from wrap_nat (by omega), Int.tmod_eq_emod_of_nonneg (by omega)]
      rfl
    · rw [if_neg e]
      exact ih (by omega) j (by
        rcases Nat.lt_or_ge j i with h | h
        · exact h
        · exact absurd (by rw [show j = i by omega]) e)
theorem turnOk {a : ByteArray} {p : List Int} (A : Sysm a p) : ∃ t : ByteArray, (∀ k, 1048580 ≤ k → impl_TurnSystem.f k a = some (t, 0)) ∧ Sysm t (turned p a.size a.size) ∧ t.size = a.size := by
  have hn := A.n12
  have hn2 := A.n2
  have hf := (sysFacts a p A.pr A.n2 A.n12 A.ev).2.1
  rw [A.len] at hf
  have hl := turned_len p a.size a.size
  have hS : (strOfNums (signs (turned p a.size a.size) a.size)).size = a.size := by rw [strSize, signs_len]
  refine ⟨strOfNums (signs (turned p a.size a.size) a.size), fun k hk => ?_, sysMk _ _ (k0 := 100) (by rw [hS]; omega) (hf 100 (by omega)) (by rw [hS]; exact hn2) (by rw [hS]; exact hn) (by rw [hS]; exact A.ev), hS⟩
  unfold impl_TurnSystem.f
  rw [A.is2 k (by omega), Option.bind_some, if_pos rfl, A.pr k (by omega), Option.bind_some, if_pos (by omega), if_pos A.len, if_pos (by omega)]
  unfold impl_system.f
  rw [if_pos (by rw [hl]; omega), hl, hf k (by omega), Option.bind_some, if_pos rfl]
  unfold slices_Equal_int_int.f
  rw [if_pos rfl]
  have := equal_go (turned p a.size a.size) (turned p a.size a.size) rfl (by rw [hl]; omega) (turned p a.size a.size).length 0 (by omega) k (by rw [hl]; omega)
  rw [show ((0 : Nat) : Int) = 0 from rfl] at this
  rw [this]
  rfl
theorem pairVal {a b : ByteArray} {p1 p2 : List Int} (A : Sysm a p1) (B : Sysm b p2) (he : a.size = b.size) {q1 q2 : Nat → Nat} (h1 : Mate a.size p1 q1) (h2 : Mate a.size p2 q2) : ∀ k, 1048580 ≤ k → impl_ComponentsOfPair.f k a b = some (((curves q1 q2 a.size : Nat) : Int), 0) ∧ spec_ComponentsOfPair.f k a b = some (((curves q1 q2 a.size : Nat) : Int), 0) := by
  intro k hk
  have hn := A.n12
  have hb := B.n12
  have e0 : cdV true true (a.size = b.size) = 0 := by unfold cdV; simp [he]
  obtain ⟨c1, c2⟩ := codeVal a b (by omega) (by omega) A.is1 A.is2 B.is1 B.is2 k hk
  obtain ⟨m1, m2⟩ := compVal A B he h1 h2 k hk
  unfold impl_ComponentsOfPair.f spec_ComponentsOfPair.f
  rw [c1, c2, e0, Option.bind_some, Option.bind_some, if_pos rfl, if_pos rfl, m1, m2]
  exact ⟨rfl, rfl⟩
/-- The number of components of any two texts. -/
theorem pairBoth (a b : ByteArray) (ha : a.size ≤ 1048576) (hb : b.size ≤ 1048576) : ∃ cv ce : Int, (∀ k, 1048580 ≤ k → impl_ComponentsOfPair.f k a b = some (cv, ce) ∧ spec_ComponentsOfPair.f k a b = some (cv, ce)) ∧ (ce ≠ 0 → cv = 0) ∧
    (ce = 0 → ∃ p1 p2 q1 q2, Sysm a p1 ∧ Sysm b p2 ∧ a.size = b.size ∧ Mate a.size p1 q1 ∧ Mate a.size p2 q2 ∧ cv = ((curves q1 q2 a.size : Nat) : Int)) := by
  have bad : ∀ ya yb : Bool, (∀ k, a.size < k → spec_l08Is.f k a = some ya) → (∀ k, a.size < k → impl_IsSystem.f k a = some ya) → (∀ k, b.size < k → spec_l08Is.f k b = some yb) → (∀ k, b.size < k → impl_IsSystem.f k b = some yb) → cdV ya yb (a.size = b.size) ≠ 0 →
      ∀ k, 1048580 ≤ k → impl_ComponentsOfPair.f k a b = some (0, cdV ya yb (a.size = b.size)) ∧ spec_ComponentsOfPair.f k a b = some (0, cdV ya yb (a.size = b.size)) := by
    intro ya yb a1 a2 b1 b2 hne k hk
    obtain ⟨c1, c2⟩ := codeVal a b ha hb a1 a2 b1 b2 k hk
    unfold impl_ComponentsOfPair.f spec_ComponentsOfPair.f
    rw [c1, c2, Option.bind_some, Option.bind_some, if_neg hne, if_neg hne]
    exact ⟨rfl, rfl⟩
  rcases sysOf a ha with ⟨p1, A⟩ | ⟨fa1, fa2⟩
  · rcases sysOf b hb with ⟨p2, B⟩ | ⟨fb1, fb2⟩
    · by_cases he : a.size = b.size
      · obtain ⟨q1, h1⟩ := Pairs.mate A.prs
        have hp2 : Pairs a.size p2 := by rw [he]; exact B.prs
        obtain ⟨q2, h2⟩ := Pairs.mate hp2
        exact ⟨_, 0, pairVal A B he h1 h2, fun h => absurd rfl h, fun _ => ⟨p1, p2, q1, q2, A, B, he, h1, h2, rfl⟩⟩
      · have hne : cdV true true (a.size = b.size) ≠ 0 := by unfold cdV; simp [he]
        exact ⟨0, _, bad true true A.is1 A.is2 B.is1 B.is2 hne, fun _ => rfl, fun h => absurd h hne⟩
    · have hne : cdV true false (a.size = b.size) ≠ 0 := by unfold cdV; simp
      exact ⟨0, _, bad true false A.is1 A.is2 fb1 fb2 hne, fun _ => rfl, fun h => absurd h hne⟩
  · rcases sysOf b hb with ⟨p2, B⟩ | ⟨fb1, fb2⟩
    · have hne : cdV false true (a.size = b.size) ≠ 0 := by unfold cdV; simp
      exact ⟨0, _, bad false true fa1 fa2 B.is1 B.is2 hne, fun _ => rfl, fun h => absurd h hne⟩
    · have hne : cdV false false (a.size = b.size) ≠ 0 := by unfold cdV; simp
      exact ⟨0, _, bad false false fa1 fa2 fb1 fb2 hne, fun _ => rfl, fun h => absurd h hne⟩

end Go.Proofs.Ytopcnhppbmmbbaa.PH
