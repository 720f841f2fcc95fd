/- Curves and components of two systems: the program and the reference tell the same; their number: plain lemmas. No condition. -/
import Derived.Test.YtopcnhppbmmbbaaPA
namespace Go.Proofs.Ytopcnhppbmmbbaa.PC
open Go.RowKit Go.Proofs.Ytopcnhppbmmbbaa.Hand Go.Proofs.YtopcnhppbmmbbaaW.PrintWords Go.Proofs.YtopcnhppbmmbbaaW.PrintLast Go.Proofs.Ytopcnhppbmmbbaa.PA
set_option linter.unusedVariables false
set_option linter.unusedSimpArgs false

/-- p joins the n places as q says. -/
def Mate (n : Nat) (p : List Int) (q : Nat → Nat) : Prop := ∀ j : Nat, j < n → q j < n ∧ q (q j) = j ∧ q j ≠ j ∧ Is (rd p (j : Int)) (q j)
theorem Pairs.mate {n : Nat} {p : List Int} (h : Pairs n p) : ∃ q, Mate n p q := by
  refine ⟨fun j => (rd p (j : Int)).toNat, fun j hj => ?_⟩
  obtain ⟨m, hm, ⟨h1, h2⟩, hne⟩ := h j hj
  have e : (rd p (j : Int)).toNat = m := by rw [h1, Int.toNat_natCast]
  have e2 : (rd p (m : Int)).toNat = j := by rw [h2, Int.toNat_natCast]
  simp only [e, e2]
  exact ⟨hm, trivial, hne, h1⟩
/-- The curve's places, one after the other. -/
def xs (q1 q2 : Nat → Nat) (i : Nat) : Nat → Nat
  | 0 => i
  | m + 1 => if m % 2 = 0 then q1 (xs q1 q2 i m) else q2 (xs q1 q2 i m)
/-- The first m places are different ones. -/
def Diff (x : Nat → Nat) (m : Nat) : Prop := ∀ s t : Nat, s < t → t < m → x s ≠ x t
theorem xs_lt {n : Nat} {p1 p2 : List Int} {q1 q2 : Nat → Nat} (h1 : Mate n p1 q1) (h2 : Mate n p2 q2) {i : Nat} (hi : i < n) : ∀ m, xs q1 q2 i m < n
  | 0 => hi
  | m + 1 => by
    have := xs_lt h1 h2 hi m
    unfold xs
    split
    · exact (h1 _ this).1
    · exact (h2 _ this).1
theorem xs_even {q1 q2 : Nat → Nat} {i m : Nat} (h : m % 2 = 0) : xs q1 q2 i (m + 1) = q1 (xs q1 q2 i m) := by simp only [xs]; rw [if_pos h]
theorem xs_odd {q1 q2 : Nat → Nat} {i m : Nat} (h : m % 2 = 1) : xs q1 q2 i (m + 1) = q2 (xs q1 q2 i m) := by simp only [xs]; rw [if_neg (by omega)]
theorem Diff.next {n : Nat} {p1 p2 : List Int} {q1 q2 : Nat → Nat} (h1 : Mate n p1 q1) (h2 : Mate n p2 q2) {i : Nat} (hi : i < n) {m : Nat} (hm : 0 < m) (hd : Diff (xs q1 q2 i) m) (hr : m % 2 = 0 → xs q1 q2 i m ≠ i) : Diff (xs q1 q2 i) (m + 1) := by
  intro s t hst ht
  by_cases hlt : t < m
  · exact hd s t hst hlt
  · obtain rfl : t = m := by omega
    obtain ⟨b, rfl⟩ : ∃ b, t = b + 1 := ⟨t - 1, by omega⟩
    intro he
    have hb := xs_lt h1 h2 hi b
    have hs := xs_lt h1 h2 hi s
    by_cases hpar : b % 2 = 0
    · have eb := xs_even (q1 := q1) (q2 := q2) (i := i) hpar
      have key : q1 (xs q1 q2 i s) = xs q1 q2 i b := by rw [he, eb]; exact (h1 _ hb).2.1
      by_cases hsb : s = b
      · rw [hsb] at key
        exact (h1 _ hb).2.2.1 key
      · by_cases hsp : s % 2 = 0
        · have es := xs_even (q1 := q1) (q2 := q2) (i := i) hsp
          exact hd (s + 1) b (by omega) (by omega) (es.trans key)
        · obtain ⟨c, rfl⟩ : ∃ c, s = c + 1 := ⟨s - 1, by omega⟩
          have es := xs_even (q1 := q1) (q2 := q2) (i := i) (m := c) (by omega)
          have hc := xs_lt h1 h2 hi c
          rw [es, (h1 _ hc).2.1] at key
          exact hd c b (by omega) (by omega) key
    · have eb := xs_odd (q1 := q1) (q2 := q2) (i := i) (m := b) (by omega)
      have key : q2 (xs q1 q2 i s) = xs q1 q2 i b := by rw [he, eb]; exact (h2 _ hb).2.1
      by_cases hsb : s = b
      · rw [hsb] at key
        exact (h2 _ hb).2.2.1 key
      · by_cases hs0 : s = 0
        · subst hs0
          exact hr (by omega) he.symm
        · by_cases hsp : s % 2 = 1
          · have es := xs_odd (q1 := q1) (q2 := q2) (i := i) hsp
            exact hd (s + 1) b (by omega) (by omega) (es.trans key)
          · obtain ⟨c, rfl⟩ : ∃ c, s = c + 1 := ⟨s - 1, by omega⟩
            have es := xs_odd (q1 := q1) (q2 := q2) (i := i) (m := c) (by omega)
            have hc := xs_lt h1 h2 hi c
            rw [es, (h2 _ hc).2.1] at key
            exact hd c b (by omega) (by omega) key
theorem php : ∀ (n : Nat) (l : List Nat), l.Nodup → (∀ x ∈ l, x < n) → l.length ≤ n := by
  intro n
  induction n with
  | zero =>
    intro l _ h
    cases l with
    | nil => simp
    | cons a l => exact absurd (h a (by simp)) (by omega)
  | succ n ih =>
    intro l hn h
    have h1 := ih (l.erase n) (hn.erase n) (fun x hx => by
      have hx2 := (List.Nodup.mem_erase_iff hn).1 hx
      have := h x hx2.2
      have := hx2.1
      omega)
    have h2 : l.length ≤ (l.erase n).length + 1 := by
      rw [List.length_erase]
      split <;> omega
    omega
theorem Diff.le {n : Nat} {x : Nat → Nat} {m : Nat} (hd : Diff x m) (hx : ∀ s, x s < n) : m ≤ n := by
  have h := php n ((List.range m).map x) (by
    rw [List.Nodup, List.pairwise_map]
    refine List.Pairwise.imp_of_mem ?_ (List.pairwise_lt_range)
    intro a b ha hb hab
    exact hd a b hab (List.mem_range.1 hb)) (by
    intro y hy
    obtain ⟨s, _, rfl⟩ := List.mem_map.1 hy
    exact hx s)
  simpa using h
theorem curve_ends {n : Nat} {p1 p2 : List Int} {q1 q2 : Nat → Nat} (h1 : Mate n p1 q1) (h2 : Mate n p2 q2) {i : Nat} (hi : i < n) : ∀ (d m : Nat), m + d = n + 1 → 0 < m → Diff (xs q1 q2 i) m →
    ∃ M, m ≤ M ∧ M ≤ n ∧ M % 2 = 0 ∧ xs q1 q2 i M = i ∧ Diff (xs q1 q2 i) M := by
  intro d
  induction d with
  | zero => intro m hm h0 hd; have := hd.le (xs_lt h1 h2 hi); omega
  | succ d ih =>
    intro m hm h0 hd
    by_cases hr : m % 2 = 0 ∧ xs q1 q2 i m = i
    · exact ⟨m, Nat.le_refl _, by omega, hr.1, hr.2, hd⟩
    · obtain ⟨M, a, b, c, d', e⟩ := ih (m + 1) (by omega) (by omega) (hd.next h1 h2 hi h0 (fun hp he => hr ⟨hp, he⟩))
      exact ⟨M, by omega, b, c, d', e⟩
theorem curve_M {n : Nat} {p1 p2 : List Int} {q1 q2 : Nat → Nat} (h1 : Mate n p1 q1) (h2 : Mate n p2 q2) {i : Nat} (hi : i < n) :
    ∃ M, 1 ≤ M ∧ M ≤ n ∧ M % 2 = 0 ∧ xs q1 q2 i M = i ∧ Diff (xs q1 q2 i) M :=
  curve_ends h1 h2 hi n 1 (by omega) (by omega) (fun s t _ _ => by omega)
def tab (x : Nat → Nat) (m : Nat) : List Int := (List.range m).map fun s => (x s : Int)
theorem tab_succ (x : Nat → Nat) (m : Nat) : tab x (m + 1) = tab x m ++ [(x m : Int)] := by unfold tab; rw [List.range_succ, List.map_append]; rfl
theorem tab_len (x : Nat → Nat) (m : Nat) : (tab x m).length = m := by simp [tab]
theorem curve_impl {n : Nat} {p1 p2 : List Int} {q1 q2 : Nat → Nat} (h1 : Mate n p1 q1) (h2 : Mate n p2 q2) (hl1 : p1.length = n) (hl2 : p2.length = n) (hn : n ≤ 12) {i M : Nat} (hi : i < n) (hM : M ≤ n) (hr : xs q1 q2 i M = i) (hd : Diff (xs q1 q2 i) M) :
    ∀ (d m k : Nat), m + 2 * d + 2 = M → d < k → m % 2 = 0 → impl_curve.l0 k p1 p2 (i : Int) (tab (xs q1 q2 i) m) (xs q1 q2 i m : Int) = some (tab (xs q1 q2 i) M) := by
  intro d
  induction d with
  | zero =>
    intro m k hm hk hp
    obtain ⟨k, rfl⟩ : ∃ z, k = z + 1 := ⟨k - 1, by omega⟩
    have hx := xs_lt h1 h2 hi m
    have hx1 := xs_lt h1 h2 hi (m + 1)
    simp only [impl_curve.l0]
    rw [if_pos (by omega), if_pos (by omega), Option.bind_some, if_pos (by rw [tab_len]; simp; omega), Option.bind_some,
      show rd p1 (xs q1 q2 i m : Int) = (xs q1 q2 i (m + 1) : Int) from by rw [xs_even hp]; exact (h1 _ hx).2.2.2]
    rw [if_pos (by omega), if_pos (by omega), show rd p2 (xs q1 q2 i (m + 1) : Int) = (xs q1 q2 i (m + 1 + 1) : Int) from by rw [xs_odd (m := m + 1) (by omega)]; exact (h2 _ hx1).2.2.2]
    obtain rfl : M = m + 1 + 1 := by omega
    rw [hr, if_pos rfl, tab_succ, tab_succ, List.append_assoc]
    rfl
  | succ d ih =>
    intro m k hm hk hp
    obtain ⟨k, rfl⟩ : ∃ z, k = z + 1 := ⟨k - 1, by omega⟩
    have hx := xs_lt h1 h2 hi m
    have hx1 := xs_lt h1 h2 hi (m + 1)
    simp only [impl_curve.l0]
    rw [if_pos (by omega), if_pos (by omega), Option.bind_some, if_pos (by rw [tab_len]; simp; omega), Option.bind_some,
      show rd p1 (xs q1 q2 i m : Int) = (xs q1 q2 i (m + 1) : Int) from by rw [xs_even hp]; exact (h1 _ hx).2.2.2]
    rw [if_pos (by omega), if_pos (by omega), show rd p2 (xs q1 q2 i (m + 1) : Int) = (xs q1 q2 i (m + 1 + 1) : Int) from by rw [xs_odd (m := m + 1) (by omega)]; exact (h2 _ hx1).2.2.2]
    have hne : xs q1 q2 i (m + 1 + 1) ≠ i := fun e => hd 0 (m + 1 + 1) (by omega) (by omega) e.symm
    have e3 : tab (xs q1 q2 i) m ++ [(xs q1 q2 i m : Int), (xs q1 q2 i (m + 1) : Int)] = tab (xs q1 q2 i) (m + 1 + 1) := by
      rw [tab_succ, tab_succ, List.append_assoc]; rfl
    rw [if_neg (by omega), e3]
    exact ih (m + 1 + 1) k (by omega) (by omega) (by omega)
theorem curve_spec {n : Nat} {p1 p2 z : List Int} {q1 q2 : Nat → Nat} (h1 : Mate n p1 q1) (h2 : Mate n p2 q2) (hl1 : p1.length = n) (hl2 : p2.length = n) (hn : n ≤ 12) {i M : Nat} (hi : i < n) (hM : M ≤ n) (hr : xs q1 q2 i M = i) (hd : Diff (xs q1 q2 i) M) :
    ∀ (d m k : Nat), m + d = M → d < k → 0 < m → spec_l08Walk.l0 k (p1 ++ z) (p2 ++ z) (i : Int) (tab (xs q1 q2 i) m) (xs q1 q2 i m : Int) (decide (m % 2 = 0)) = some (tab (xs q1 q2 i) M) := by
  intro d
  induction d with
  | zero =>
    intro m k hm hk h0
    obtain ⟨k, rfl⟩ : ∃ z, k = z + 1 := ⟨k - 1, by omega⟩
    obtain rfl : M = m := by omega
    simp only [spec_l08Walk.l0]
    rw [if_pos (by rw [hr])]
  | succ d ih =>
    intro m k hm hk h0
    obtain ⟨k, rfl⟩ : ∃ z, k = z + 1 := ⟨k - 1, by omega⟩
    have hx := xs_lt h1 h2 hi m
    have hne : xs q1 q2 i m ≠ i := fun e => hd 0 m (by omega) (by omega) e.symm
    simp only [spec_l08Walk.l0]
    rw [if_neg (by omega), if_pos (by rw [tab_len]; omega), if_pos (by omega), if_pos (by omega), ← tab_succ]
    have e : (if decide (m % 2 = 0) = true then rd (p1 ++ z) (xs q1 q2 i m : Int) else rd (p2 ++ z) (xs q1 q2 i m : Int)) = (xs q1 q2 i (m + 1) : Int) := by
      by_cases hp : m % 2 = 0
      · rw [if_pos (decide_eq_true hp), rd_app_l p1 z _ (by omega), xs_even hp]
        exact (h1 _ hx).2.2.2
      · rw [if_neg (by rw [decide_eq_false hp]; simp), rd_app_l p2 z _ (by omega), xs_odd (m := m) (by omega)]
        exact (h2 _ hx).2.2.2
    have e2 : (!decide (m % 2 = 0)) = decide ((m + 1) % 2 = 0) := by
      by_cases hp : m % 2 = 0
      · rw [decide_eq_true hp, decide_eq_false (by omega)]; rfl
      · rw [decide_eq_false hp, decide_eq_true (by omega)]; rfl
    rw [e, e2]
    exact ih (m + 1) k (by omega) (by omega) (by omega)
/-- The curve from a place on: both tell the same, and all its places are places. -/
theorem curve_both {n : Nat} {p1 p2 : List Int} (z : List Int) (h1 : Pairs n p1) (h2 : Pairs n p2) (hl1 : p1.length = n) (hl2 : p2.length = n) (hn : n ≤ 12) {i : Nat} (hi : i < n) :
    ∃ l : List Int, l.length ≤ n ∧ (∀ x ∈ l, 0 ≤ x ∧ x < (n : Int)) ∧ (∀ k, n < k → impl_curve.f k p1 p2 (i : Int) = some l) ∧ (∀ k, n < k → spec_l08Walk.f k (p1 ++ z) (p2 ++ z) (i : Int) = some l) := by
  obtain ⟨q1, g1⟩ := Pairs.mate h1
  obtain ⟨q2, g2⟩ := Pairs.mate h2
  obtain ⟨M, m1, m2, m3, m4, m5⟩ := curve_M g1 g2 hi
  refine ⟨tab (xs q1 q2 i) M, by rw [tab_len]; exact m2, ?_, fun k hk => ?_, fun k hk => ?_⟩
  · intro x hx
    obtain ⟨s, _, rfl⟩ := List.mem_map.1 hx
    have := xs_lt g1 g2 hi s
    omega
  · exact curve_impl g1 g2 hl1 hl2 hn hi m2 m4 m5 ((M - 2) / 2) 0 k (by omega) (by omega) rfl
  · unfold spec_l08Walk.f
    rw [if_pos (by omega), if_pos (by omega), rd_app_l p1 z i (by omega), show rd p1 (i : Int) = (xs q1 q2 i 1 : Int) from (g1 _ hi).2.2.2]
    exact curve_spec g1 g2 hl1 hl2 hn hi m2 m4 m5 (M - 1) 1 k (by omega) (by omega) (by omega)
/-- All places of a list are marked. -/
def mk (sn : List Bool) (l : List Int) : List Bool := l.foldl (fun s x => s.set x.toNat true) sn
theorem mk_len : ∀ (l : List Int) (sn : List Bool), (mk sn l).length = sn.length
  | [], _ => rfl
  | x :: l, sn => by
    have := mk_len l (sn.set x.toNat true)
    rw [List.length_set] at this
    exact this
theorem markAll_mk (z : List Bool) : ∀ (l : List Int) (sn : List Bool), (∀ x ∈ l, 0 ≤ x ∧ x < (sn.length : Int)) → sn.length ≤ 12 → markAll (sn ++ z) l = some (mk sn l ++ z)
  | [], _, _, _ => rfl
  | x :: l, sn, h, hs => by
    have hx := h x (by simp)
    simp only [markAll]
    rw [if_pos hx.1, if_pos (by omega), List.set_append_left _ _ (by omega)]
    exact markAll_mk z l (sn.set x.toNat true) (fun y hy => by rw [List.length_set]; exact h y (by simp [hy])) (by rw [List.length_set]; exact hs)
theorem comp_l1 (p1 p2 l : List Int) (x10 n i : Int) (hll : l.length ≤ 1000) : ∀ (d j k : Nat) (sn : List Bool), j + d = l.length → (∀ x ∈ l, 0 ≤ x ∧ x < (sn.length : Int)) →
    impl_components.l1 (k + d + 1) p1 p2 sn x10 n i l (l.length : Int) (j : Int) = impl_components.l0 k p1 p2 (mk sn (l.drop j)) x10 n (wrap64 (i + 1)) := by
  intro d
  induction d with
  | zero =>
    intro j k sn hj h
    simp only [impl_components.l1]
    rw [if_neg (by omega), List.drop_eq_nil_of_le (by omega)]
    rfl
  | succ d ih =>
    intro j k sn hj h
    have hjl : j < l.length := by omega
    have ev : rd l (j : Int) = l[j] := by
      unfold rd
      rw [Int.toNat_natCast, List.getD_eq_getElem?_getD]
      simp [hjl]
    have hx := h l[j] (List.getElem_mem hjl)
    have ih' := ih (j + 1) k (sn.set l[j].toNat true) (by omega) (fun x hx => by rw [List.length_set]; exact h x hx)
    rw [show k + (d + 1) + 1 = (k + d + 1) + 1 from by omega]
    generalize k + d + 1 = K at ih' ⊢
    simp only [impl_components.l1]
    rw [ev, if_pos (by omega), if_pos (by omega), if_pos (by omega), if_pos hx.1, if_pos hx.2, wrap_nat (by omega), ih', List.drop_eq_getElem_cons hjl]
    rfl
theorem comp_go {n : Nat} {p1 p2 : List Int} (zi : List Int) (z : List Bool) (h1 : Pairs n p1) (h2 : Pairs n p2) (hl1 : p1.length = n) (hl2 : p2.length = n) (hn : n ≤ 12) :
    ∀ (d i out k k' : Nat) (sn : List Bool), i + d = n → out ≤ i → sn.length = n → 15 * d + 20 ≤ k → d + 20 ≤ k' →
    ∃ c : Nat, impl_components.l0 k p1 p2 sn (out : Int) (n : Int) (i : Int) = some (c : Int) ∧ spec_l08Components.l0 k' n (p1 ++ zi) (p2 ++ zi) (sn ++ z) out i = some c := by
  intro d
  induction d with
  | zero =>
    intro i out k k' sn hi ho hs hk hk'
    obtain ⟨k, rfl⟩ : ∃ m, k = m + 1 := ⟨k - 1, by omega⟩
    obtain ⟨k', rfl⟩ : ∃ m, k' = m + 1 := ⟨k' - 1, by omega⟩
    simp only [impl_components.l0, spec_l08Components.l0]
    rw [if_neg (by omega), if_neg (by omega)]
    exact ⟨out, rfl, rfl⟩
  | succ d ih =>
    intro i out k k' sn hi ho hs hk hk'
    obtain ⟨l, hll, hb, hc1, hc2⟩ := curve_both zi h1 h2 hl1 hl2 hn (show i < n by omega)
    obtain ⟨K, rfl⟩ : ∃ m, k = m + 1 := ⟨k - 1, by omega⟩
    obtain ⟨k', rfl⟩ : ∃ m, k' = m + 1 := ⟨k' - 1, by omega⟩
    have er : rdb (sn ++ z) (i : Int) = rdOf false sn (i : Int) := by
      unfold rdb rdOf
      rw [Int.toNat_natCast, List.getD_eq_getElem?_getD, List.getD_eq_getElem?_getD, List.getElem?_append_left (by omega)]
    simp only [impl_components.l0, spec_l08Components.l0]
    rw [er]
    by_cases hm : rdOf false sn (i : Int) = true
    · rw [if_pos (by omega), if_pos (by omega), if_pos (by omega), if_pos hm, if_pos (by omega), if_pos (by omega), if_pos hm, wrap_nat (by omega)]
      exact ih (i + 1) out _ k' sn (by omega) (by omega) hs (by omega) (by omega)
    · obtain ⟨k, rfl⟩ : ∃ m, K = m + l.length + 1 := ⟨K - l.length - 1, by omega⟩
      rw [if_pos (by omega), if_pos (by omega), if_pos (by omega), if_neg hm, hc1 _ (by omega), Option.bind_some, if_pos (by omega), if_pos (by omega), if_neg hm, if_pos (by omega), hc2 _ (by omega), Option.bind_some, if_pos (by omega),
        markAll_mk z l sn (fun x hx => by rw [hs]; exact hb x hx) (by omega), Option.bind_some, wrap_nat (by omega), show (0 : Int) = ((0 : Nat) : Int) from rfl,
        comp_l1 p1 p2 l _ _ _ (by omega) l.length 0 k sn (by omega) (fun x hx => by rw [hs]; exact hb x hx), List.drop_zero, wrap_nat (by omega)]
      exact ih (i + 1) (out + 1) k k' (mk sn l) (by omega) (by omega) (by rw [mk_len]; exact hs) (by omega) (by omega)
theorem implInC (a lo hi : Int) : impl_in.f a lo hi = some (decide (lo ≤ a ∧ a ≤ hi)) := by
  unfold impl_in.f
  by_cases h : a ≥ lo
  · rw [if_pos h]
    by_cases h2 : a ≤ hi
    · rw [decide_eq_true h2, decide_eq_true (by omega)]
    · rw [decide_eq_false h2, decide_eq_false (by omega)]
  · rw [if_neg h, decide_eq_false (by omega)]
/-- A text's arcs, and whether it is a system: both tell the same. -/
theorem sysBoth (s : ByteArray) (hb : s.size ≤ 1048576) : ∃ (o p : List Int) (t y : Bool), (∀ k, s.size < k → spec_l08Arcs.f k s = some (o, y)) ∧ (∀ k, s.size < k → impl_partners.f k s = some (p, t)) ∧ (∀ k, s.size < k → spec_l08Is.f k s = some y) ∧ (∀ k, s.size < k → impl_IsSystem.f k s = some y) ∧
    (y = true → 2 ≤ s.size ∧ s.size ≤ 12 ∧ p.length = s.size ∧ Pairs s.size p ∧ o = p ++ List.replicate (12 - s.size) 0) := by
  obtain ⟨o, r, y, h1, h2, h3, h4⟩ := arcs s hb
  refine ⟨o, r.1, r.2, y, h1, h2, fun k hk => ?_, fun k hk => ?_, fun hy => ⟨(h4 hy).2.1, (h4 hy).2.2.1, (h4 hy).2.2.2.2.1, (h4 hy).2.2.2.2.2.1, (h4 hy).2.2.2.2.2.2⟩⟩
  · unfold spec_l08Is.f
    rw [h1 k hk]
    rfl
  · unfold impl_IsSystem.f
    rw [h2 k hk, Option.bind_some, h3, implInC]
    cases r.2 with
    | false => rfl
    | true =>
      by_cases ha : s.size % 2 = 0
      · rw [if_pos rfl, if_pos (by omega), decide_eq_true ha]
        by_cases hc : 2 ≤ s.size ∧ s.size ≤ 12
        · rw [decide_eq_true hc, decide_eq_true (by omega : (2 : Int) ≤ (s.size : Int) ∧ (s.size : Int) ≤ 12)]; rfl
        · rw [decide_eq_false hc, decide_eq_false (by omega : ¬ ((2 : Int) ≤ (s.size : Int) ∧ (s.size : Int) ≤ 12))]; rfl
      · rw [if_pos rfl, if_neg (by omega), decide_eq_false ha]; rfl
/-- The codes of two texts. -/
theorem codeBoth (a b : ByteArray) (ha : a.size ≤ 1048576) (hb : b.size ≤ 1048576) : ∃ c : Int, (∀ k, 1048580 ≤ k → spec_l08Code.f k a b = some c) ∧ (∀ k, 1048580 ≤ k → impl_pairFault.f k a b = some c) ∧
    (c = 0 → ∃ (o1 p1 o2 p2 : List Int) (t1 t2 y1 y2 : Bool), (∀ k, 1048580 ≤ k → spec_l08Arcs.f k a = some (o1, y1)) ∧ (∀ k, 1048580 ≤ k → spec_l08Arcs.f k b = some (o2, y2)) ∧ (∀ k, 1048580 ≤ k → impl_partners.f k a = some (p1, t1)) ∧ (∀ k, 1048580 ≤ k → impl_partners.f k b = some (p2, t2)) ∧
      2 ≤ a.size ∧ a.size ≤ 12 ∧ p1.length = a.size ∧ p2.length = a.size ∧ Pairs a.size p1 ∧ Pairs a.size p2 ∧ o1 = p1 ++ List.replicate (12 - a.size) 0 ∧ o2 = p2 ++ List.replicate (12 - a.size) 0) := by
  obtain ⟨o1, p1, t1, y1, a1, a2, a3, a4, a5⟩ := sysBoth a ha
  obtain ⟨o2, p2, t2, y2, b1, b2, b3, b4, b5⟩ := sysBoth b hb
  refine ⟨if (y1 && y2) = true then (if a.size = b.size then 0 else 2) else 1, fun k hk => ?_, fun k hk => ?_, fun h => ?_⟩
  · obtain ⟨k, rfl⟩ : ∃ m, k = m + 1 := ⟨k - 1, by omega⟩
    unfold spec_l08Code.f
    rw [a3 _ (by omega), b3 _ (by omega), Option.bind_some, Option.bind_some]
    simp only [spec_l08Code.j0]
    cases y1 <;> cases y2 <;> simp
    by_cases he : a.size = b.size
    · rw [if_pos he, if_pos (by omega)]
    · rw [if_neg he, if_neg (by omega)]
  · obtain ⟨k, rfl⟩ : ∃ m, k = m + 1 := ⟨k - 1, by omega⟩
    unfold impl_pairFault.f
    rw [a4 _ (by omega), b4 _ (by omega), Option.bind_some, Option.bind_some]
    simp only [impl_pairFault.j0]
    cases y1 <;> cases y2 <;> simp
    by_cases he : a.size = b.size
    · rw [if_pos he, if_pos (by omega)]
    · rw [if_neg he, if_neg (by omega)]
  · have hy1 : y1 = true := by cases y1 <;> cases y2 <;> simp at h ⊢
    have hy2 : y2 = true := by cases y1 <;> cases y2 <;> simp at h ⊢
    have he : a.size = b.size := by
      subst hy1 hy2
      by_cases he : a.size = b.size
      · exact he
      · simp [he] at h
    obtain ⟨u1, u2, u3, u4, u5⟩ := a5 hy1
    obtain ⟨v1, v2, v3, v4, v5⟩ := b5 hy2
    rw [← he] at v3 v4 v5
    exact ⟨o1, p1, o2, p2, t1, t2, y1, y2, fun k hk => a1 k (by omega), fun k hk => b1 k (by omega), fun k hk => a2 k (by omega), fun k hk => b2 k (by omega), u1, u2, u3, v3, u4, v4, u5, v5⟩
/-- The number of the components: both tell the same. -/
theorem compBoth (a b : ByteArray) {o1 p1 o2 p2 : List Int} {t1 t2 y1 y2 : Bool} {k : Nat} (hk : 1048580 ≤ k) (a1 : spec_l08Arcs.f k a = some (o1, y1)) (b1 : spec_l08Arcs.f k b = some (o2, y2)) (a2 : impl_partners.f k a = some (p1, t1)) (b2 : impl_partners.f k b = some (p2, t2))
    (hn : a.size ≤ 12) (l1 : p1.length = a.size) (l2 : p2.length = a.size) (q1 : Pairs a.size p1) (q2 : Pairs a.size p2) (e1 : o1 = p1 ++ List.replicate (12 - a.size) 0) (e2 : o2 = p2 ++ List.replicate (12 - a.size) 0) :
    ∃ c : Int, impl_components.f k a b = some c ∧ spec_l08Components.f k a b = some c := by
  obtain ⟨c, h1, h2⟩ := comp_go (List.replicate (12 - a.size) 0) (List.replicate (12 - a.size) false) q1 q2 l1 l2 hn a.size 0 0 k k (List.replicate a.size false) (by omega) (by omega) (by simp) (by omega) (by omega)
  refine ⟨c, ?_, ?_⟩
  · unfold impl_components.f
    rw [a2, b2, Option.bind_some, Option.bind_some, if_pos (by omega), if_pos (by omega), Option.bind_some, Int.toNat_natCast, List.length_replicate]
    exact h1
  · unfold spec_l08Components.f
    rw [a1, b1, Option.bind_some, Option.bind_some, e1, e2, show List.replicate 12 false = List.replicate a.size false ++ List.replicate (12 - a.size) false from by rw [List.replicate_append_replicate]; congr 1; omega]
    simp only []
    rw [h2]
    rfl
/-! #### curves as classes of places -/
/-- The curve from j meets i. -/
def Rel (q1 q2 : Nat → Nat) (j i : Nat) : Prop := ∃ m, xs q1 q2 j m = i
section
variable {n : Nat} {p1 p2 : List Int} {q1 q2 : Nat → Nat}
theorem Rel.refl (j : Nat) : Rel q1 q2 j j := ⟨0, rfl⟩
theorem Rel.lt (h1 : Mate n p1 q1) (h2 : Mate n p2 q2) {j i : Nat} (hj : j < n) (h : Rel q1 q2 j i) : i < n := by
  obtain ⟨m, rfl⟩ := h
  exact xs_lt h1 h2 hj m
theorem Rel.step1 (h1 : Mate n p1 q1) (h2 : Mate n p2 q2) {j i : Nat} (hj : j < n) (h : Rel q1 q2 j i) : Rel q1 q2 j (q1 i) := by
  obtain ⟨m, rfl⟩ := h
  by_cases hm : m % 2 = 0
  · exact ⟨m + 1, xs_even hm⟩
  · obtain ⟨c, rfl⟩ : ∃ c, m = c + 1 := ⟨m - 1, by omega⟩
    refine ⟨c, ?_⟩
    rw [xs_even (show c % 2 = 0 by omega)]
    exact ((h1 _ (xs_lt h1 h2 hj c)).2.1).symm
theorem Rel.step2 (h1 : Mate n p1 q1) (h2 : Mate n p2 q2) {j i : Nat} (hj : j < n) (h : Rel q1 q2 j i) : Rel q1 q2 j (q2 i) := by
  obtain ⟨m, rfl⟩ := h
  by_cases hm : m % 2 = 1
  · exact ⟨m + 1, xs_odd hm⟩
  · by_cases h0 : m = 0
    · subst h0
      obtain ⟨M, m1, m2, m3, m4, m5⟩ := curve_M h1 h2 hj
      obtain ⟨b, rfl⟩ : ∃ b, M = b + 1 := ⟨M - 1, by omega⟩
      rw [xs_odd (show b % 2 = 1 by omega)] at m4
      refine ⟨b, ?_⟩
      show xs q1 q2 j b = q2 j
      have := congrArg q2 m4
      rw [(h2 _ (xs_lt h1 h2 hj b)).2.1] at this
      exact this
    · obtain ⟨c, rfl⟩ : ∃ c, m = c + 1 := ⟨m - 1, by omega⟩
      refine ⟨c, ?_⟩
      rw [xs_odd (show c % 2 = 1 by omega)]
      exact ((h2 _ (xs_lt h1 h2 hj c)).2.1).symm
theorem Rel.trans (h1 : Mate n p1 q1) (h2 : Mate n p2 q2) {j i k : Nat} (hj : j < n) (h : Rel q1 q2 j i) (h' : Rel q1 q2 i k) : Rel q1 q2 j k := by
  obtain ⟨m, rfl⟩ := h'
  induction m with
  | zero => exact h
  | succ m ih =>
    by_cases hm : m % 2 = 0
    · rw [xs_even hm]; exact ih.step1 h1 h2 hj
    · rw [xs_odd (by omega)]; exact ih.step2 h1 h2 hj
theorem Rel.symm (h1 : Mate n p1 q1) (h2 : Mate n p2 q2) {j i : Nat} (hj : j < n) (h : Rel q1 q2 j i) : Rel q1 q2 i j := by
  obtain ⟨m, rfl⟩ := h
  induction m with
  | zero => exact Rel.refl _
  | succ m ih =>
    have hx := xs_lt h1 h2 hj m
    have hs := xs_lt h1 h2 hj (m + 1)
    refine Rel.trans h1 h2 hs ?_ ih
    by_cases hm : m % 2 = 0
    · have := (Rel.refl (q1 := q1) (q2 := q2) (xs q1 q2 j (m + 1))).step1 h1 h2 hs
      rw [xs_even hm] at this ⊢
      rw [(h1 _ hx).2.1] at this
      exact this
    · have := (Rel.refl (q1 := q1) (q2 := q2) (xs q1 q2 j (m + 1))).step2 h1 h2 hs
      rw [xs_odd (by omega)] at this ⊢
      rw [(h2 _ hx).2.1] at this
      exact this
theorem xs_add {i M : Nat} (he : M % 2 = 0) (hM : xs q1 q2 i M = i) : ∀ t, xs q1 q2 i (M + t) = xs q1 q2 i t
  | 0 => hM
  | t + 1 => by
    have ih := xs_add he hM t
    by_cases ht : t % 2 = 0
    · rw [← Nat.add_assoc, xs_even (by omega), xs_even ht, ih]
    · rw [← Nat.add_assoc, xs_odd (by omega), xs_odd (by omega), ih]
theorem xs_mod {i M : Nat} (he : M % 2 = 0) (hM : xs q1 q2 i M = i) (m : Nat) : xs q1 q2 i (m % M) = xs q1 q2 i m := by
  have key : ∀ k t, xs q1 q2 i (M * k + t) = xs q1 q2 i t := by
    intro k
    induction k with
    | zero => intro t; rw [Nat.mul_zero, Nat.zero_add]
    | succ k ih => intro t; rw [Nat.mul_succ, Nat.add_comm (M * k), Nat.add_assoc, xs_add he hM, ih]
  have := key (m / M) (m % M)
  rw [Nat.div_add_mod] at this
  exact this.symm
theorem Rel.small {i M : Nat} (h1M : 1 ≤ M) (he : M % 2 = 0) (hM : xs q1 q2 i M = i) {x : Nat} (h : Rel q1 q2 i x) : ∃ m, m < M ∧ xs q1 q2 i m = x := by
  obtain ⟨m, rfl⟩ := h
  exact ⟨m % M, Nat.mod_lt _ (by omega), xs_mod he hM m⟩
end
/-- Lists of which the one's members are unrelated, and each is related to one of the other's. -/
theorem unrel_le {R : Nat → Nat → Prop} (sy : ∀ a b, R a b → R b a) (tr : ∀ a b c, R a b → R b c → R a c) : ∀ (T1 T2 : List Nat), T1.Pairwise (fun a b => ¬ R a b) → (∀ t ∈ T1, ∃ u ∈ T2, R t u) → T1.length ≤ T2.length := by
  intro T1
  induction T1 with
  | nil => intro T2 _ _; simp
  | cons t r ih =>
    intro T2 hp hc
    obtain ⟨hp1, hp2⟩ := List.pairwise_cons.1 hp
    obtain ⟨u, hu, htu⟩ := hc t (by simp)
    have h := ih (T2.erase u) hp2 (fun y hy => by
      obtain ⟨v, hv, hyv⟩ := hc y (by simp [hy])
      refine ⟨v, ?_, hyv⟩
      have hvu : v ≠ u := fun e => hp1 y hy (tr _ _ _ htu (sy _ _ (e ▸ hyv)))
      exact (List.mem_erase_of_ne hvu).2 hv)
    rw [List.length_erase_of_mem hu] at h
    have := List.length_pos_of_mem hu
    rw [List.length_cons]
    omega
open Classical in
/-- The places from i on that no place ahead of them is related to. -/
noncomputable def reps (R : Nat → Nat → Prop) : Nat → Nat → List Nat
  | _, 0 => []
  | i, d + 1 => if ∃ j, j < i ∧ R j i then reps R (i + 1) d else i :: reps R (i + 1) d
theorem reps_mem (R : Nat → Nat → Prop) : ∀ (d i x : Nat), x ∈ reps R i d ↔ i ≤ x ∧ x < i + d ∧ ¬ ∃ j, j < x ∧ R j x := by
  intro d
  induction d with
  | zero => intro i x; simp only [reps, List.not_mem_nil, false_iff]; omega
  | succ d ih =>
    intro i x
    by_cases c : ∃ j, j < i ∧ R j i
    · simp only [reps]
      rw [if_pos c, ih]
      constructor
      · rintro ⟨a, b, e⟩; exact ⟨by omega, by omega, e⟩
      · rintro ⟨a, b, e⟩
        refine ⟨?_, by omega, e⟩
        rcases Nat.lt_or_ge i x with h | h
        · omega
        · have : x = i := by omega
          subst this
          exact absurd c e
    · simp only [reps]
      rw [if_neg c, List.mem_cons, ih]
      constructor
      · rintro (rfl | ⟨a, b, e⟩)
        · exact ⟨Nat.le_refl _, by omega, c⟩
        · exact ⟨by omega, by omega, e⟩
      · rintro ⟨a, b, e⟩
        rcases Nat.lt_or_ge i x with h | h
        · exact .inr ⟨by omega, by omega, e⟩
        · exact .inl (by omega)
theorem reps_unrel (R : Nat → Nat → Prop) : ∀ (d i : Nat), (reps R i d).Pairwise (fun a b => ¬ R a b) := by
  intro d
  induction d with
  | zero => intro i; exact List.Pairwise.nil
  | succ d ih =>
    intro i
    by_cases c : ∃ j, j < i ∧ R j i
    · simp only [reps]
      rw [if_pos c]
      exact ih (i + 1)
    · simp only [reps]
      rw [if_neg c]
      refine List.pairwise_cons.2 ⟨fun y hy hR => ?_, ih (i + 1)⟩
      obtain ⟨a, _, e⟩ := (reps_mem R d (i + 1) y).1 hy
      exact e ⟨i, by omega, hR⟩
theorem reps_cover {R : Nat → Nat → Prop} {n : Nat} (rf : ∀ a, R a a) (sy : ∀ a b, a < n → R a b → R b a) (tr : ∀ a b c, a < n → R a b → R b c → R a c) : ∀ x, x < n → ∃ u, u ∈ reps R 0 n ∧ R x u := by
  intro x
  induction x using Nat.strongRecOn with
  | ind x ih =>
    intro hx
    by_cases c : ∃ j, j < x ∧ R j x
    · obtain ⟨j, hj, hR⟩ := c
      obtain ⟨u, hu, hju⟩ := ih j hj (by omega)
      exact ⟨u, hu, tr _ _ _ hx (sy _ _ (by omega) hR) hju⟩
    · exact ⟨x, (reps_mem R n 0 x).2 ⟨by omega, by omega, c⟩, rf x⟩
/-- The number of the curves. -/
noncomputable def curves (q1 q2 : Nat → Nat) (n : Nat) : Nat := (reps (Rel q1 q2) 0 n).length
/-- Relation within the n places. -/
def RelN (n : Nat) (q1 q2 : Nat → Nat) (a b : Nat) : Prop := a < n ∧ b < n ∧ Rel q1 q2 a b
section
variable {n : Nat} {p1 p2 r1 r2 : List Int} {q1 q2 s1 s2 : Nat → Nat}
theorem curves_rep (h1 : Mate n p1 q1) (h2 : Mate n p2 q2) : ∀ x, x < n → ∃ u, u ∈ reps (Rel q1 q2) 0 n ∧ u < n ∧ Rel q1 q2 x u := by
  intro x hx
  obtain ⟨u, hu, hR⟩ := reps_cover (R := Rel q1 q2) (n := n) (fun a => Rel.refl a) (fun a b ha h => Rel.symm h1 h2 ha h) (fun a b c ha h h' => Rel.trans h1 h2 ha h h') x hx
  exact ⟨u, hu, (by have := ((reps_mem _ _ _ _).1 hu).2.1; omega), hR⟩
theorem curves_le (h1 : Mate n p1 q1) (h2 : Mate n p2 q2) (T : List Nat) (hT : ∀ t ∈ T, t < n) (hp : T.Pairwise (fun a b => ¬ Rel q1 q2 a b)) : T.length ≤ curves q1 q2 n := by
  refine unrel_le (R := RelN n q1 q2) (fun a b h => ⟨h.2.1, h.1, Rel.symm h1 h2 h.1 h.2.2⟩) (fun a b c h h' => ⟨h.1, h'.2.1, Rel.trans h1 h2 h.1 h.2.2 h'.2.2⟩) T _ (hp.imp (fun h h' => h h'.2.2)) (fun t ht => ?_)
  obtain ⟨u, hu, hun, hR⟩ := curves_rep h1 h2 t (hT t ht)
  exact ⟨u, hu, hT t ht, hun, hR⟩
theorem curves_ge (h1 : Mate n p1 q1) (h2 : Mate n p2 q2) (T : List Nat) (hT : ∀ t ∈ T, t < n) (hc : ∀ x, x < n → ∃ t ∈ T, Rel q1 q2 x t) : curves q1 q2 n ≤ T.length := by
  refine unrel_le (R := RelN n q1 q2) (fun a b h => ⟨h.2.1, h.1, Rel.symm h1 h2 h.1 h.2.2⟩) (fun a b c h h' => ⟨h.1, h'.2.1, Rel.trans h1 h2 h.1 h.2.2 h'.2.2⟩) _ T ((reps_unrel _ _ _).imp (fun h h' => h h'.2.2)) (fun t ht => ?_)
  have htn : t < n := by have := ((reps_mem _ _ _ _).1 ht).2.1; omega
  obtain ⟨u, hu, hR⟩ := hc t htn
  exact ⟨u, hu, htn, hT u hu, hR⟩
/-- Turned places: as many curves. -/
theorem curves_turn (h1 : Mate n p1 q1) (h2 : Mate n p2 q2) (g1 : Mate n r1 s1) (g2 : Mate n r2 s2) (e1 : ∀ j, j < n → s1 ((j + 1) % n) = (q1 j + 1) % n) (e2 : ∀ j, j < n → s2 ((j + 1) % n) = (q2 j + 1) % n) : curves s1 s2 n = curves q1 q2 n := by
  have hxs : ∀ i, i < n → ∀ m, xs s1 s2 ((i + 1) % n) m = (xs q1 q2 i m + 1) % n := by
    intro i hi m
    induction m with
    | zero => rfl
    | succ m ih =>
      by_cases hm : m % 2 = 0
      · rw [xs_even hm, xs_even hm, ih, e1 _ (xs_lt h1 h2 hi m)]
      · rw [xs_odd (by omega), xs_odd (by omega), ih, e2 _ (xs_lt h1 h2 hi m)]
  have inj : ∀ a b, a < n → b < n → (a + 1) % n = (b + 1) % n → a = b := by
    intro a b ha hb he
    rcases Nat.lt_or_ge (a + 1) n with h | h
    · rw [Nat.mod_eq_of_lt h] at he
      rcases Nat.lt_or_ge (b + 1) n with h' | h'
      · rw [Nat.mod_eq_of_lt h'] at he; omega
      · rw [show b + 1 = n by omega, Nat.mod_self] at he; omega
    · rw [show a + 1 = n by omega, Nat.mod_self] at he
      rcases Nat.lt_or_ge (b + 1) n with h' | h'
      · rw [Nat.mod_eq_of_lt h'] at he; omega
      · omega
  have fwd : ∀ a b, a < n → Rel q1 q2 a b → Rel s1 s2 ((a + 1) % n) ((b + 1) % n) := by
    rintro a b ha ⟨m, rfl⟩
    exact ⟨m, hxs a ha m⟩
  have bwd : ∀ a b, a < n → b < n → Rel s1 s2 ((a + 1) % n) ((b + 1) % n) → Rel q1 q2 a b := by
    rintro a b ha hb ⟨m, hm⟩
    rw [hxs a ha m] at hm
    exact ⟨m, inj _ _ (xs_lt h1 h2 ha m) hb hm⟩
  have hr : ∀ t ∈ reps (Rel q1 q2) 0 n, t < n := fun t ht => by have := ((reps_mem _ _ _ _).1 ht).2.1; omega
  have hmap : ∀ t ∈ (reps (Rel q1 q2) 0 n).map (fun i => (i + 1) % n), t < n := by
    intro t ht
    obtain ⟨i, hi, rfl⟩ := List.mem_map.1 ht
    exact Nat.mod_lt _ (by have := hr i hi; omega)
  refine Nat.le_antisymm ?_ ?_
  · have := curves_ge g1 g2 ((reps (Rel q1 q2) 0 n).map (fun i => (i + 1) % n)) hmap (fun y hy => by
      obtain ⟨x, hx, rfl⟩ : ∃ x, x < n ∧ (x + 1) % n = y := by
        by_cases h0 : y = 0
        · exact ⟨n - 1, by omega, by rw [show n - 1 + 1 = n by omega, Nat.mod_self]; omega⟩
        · exact ⟨y - 1, by omega, by rw [show y - 1 + 1 = y by omega, Nat.mod_eq_of_lt hy]⟩
      obtain ⟨u, hu, hun, hR⟩ := curves_rep h1 h2 x hx
      exact ⟨_, List.mem_map.2 ⟨u, hu, rfl⟩, fwd x u hx hR⟩)
    rw [List.length_map] at this
    exact this
  · have := curves_le g1 g2 ((reps (Rel q1 q2) 0 n).map (fun i => (i + 1) % n)) hmap (by
      rw [List.pairwise_map]
      refine (List.Pairwise.imp_of_mem ?_ (reps_unrel (Rel q1 q2) n 0))
      intro a b ha hb h h'
      exact h (bwd a b (hr a ha) (hr b hb) h'))
    rw [List.length_map] at this
    exact this
/-- One curve: it meets all places, and n of them. -/
theorem one_all (h1 : Mate n p1 q1) (h2 : Mate n p2 q2) (hn : 0 < n) (hc : curves q1 q2 n = 1) : ∀ x, x < n → Rel q1 q2 0 x := by
  intro x hx
  have h0 : 0 ∈ reps (Rel q1 q2) 0 n := (reps_mem _ _ _ _).2 ⟨Nat.le_refl _, by omega, by rintro ⟨j, hj, _⟩; omega⟩
  obtain ⟨u, hu, hun, hR⟩ := curves_rep h1 h2 x hx
  unfold curves at hc
  obtain ⟨z, hz⟩ := List.length_eq_one_iff.1 hc
  rw [hz] at h0 hu
  have e0 : 0 = z := by simpa using h0
  have eu : u = z := by simpa using hu
  rw [eu, ← e0] at hR
  exact Rel.symm h1 h2 hx hR
theorem one_full (h1 : Mate n p1 q1) (h2 : Mate n p2 q2) (hn : 0 < n) (hall : ∀ x, x < n → Rel q1 q2 0 x) : xs q1 q2 0 n = 0 ∧ Diff (xs q1 q2 0) n ∧ n % 2 = 0 := by
  obtain ⟨M, m1, m2, m3, m4, m5⟩ := curve_M h1 h2 hn
  have : n ≤ M := by
    have := unrel_le (R := Eq) (fun a b h => h.symm) (fun a b c h h' => h.trans h') (List.range n) ((List.range M).map (xs q1 q2 0)) (List.nodup_range) (fun t ht => by
      obtain ⟨m, hm, e⟩ := Rel.small m1 m3 m4 (hall t (List.mem_range.1 ht))
      exact ⟨t, List.mem_map.2 ⟨m, List.mem_range.2 hm, e⟩, rfl⟩)
    simpa using this
  obtain rfl : M = n := by omega
  exact ⟨m4, m5, m3⟩
theorem one_curve (h1 : Mate n p1 q1) (h2 : Mate n p2 q2) (hn : 0 < n) (hall : ∀ x, x < n → Rel q1 q2 0 x) : curves q1 q2 n = 1 := by
  refine Nat.le_antisymm ?_ ?_
  · exact curves_ge h1 h2 [0] (fun t ht => by simp at ht; omega) (fun x hx => ⟨0, by simp, Rel.symm h1 h2 hn (hall x hx)⟩)
  · exact curves_le h1 h2 [0] (fun t ht => by simp at ht; omega) (List.pairwise_singleton _ _)
/-- No proper interval of one curve is closed under both. -/
theorem one_open (h1 : Mate n p1 q1) (h2 : Mate n p2 q2) (hn : 0 < n) (hall : ∀ x, x < n → Rel q1 q2 0 x) (f t : Nat) (hft : f ≤ t) (ht : t < n) (c1 : ∀ x, f ≤ x → x ≤ t → f ≤ q1 x ∧ q1 x ≤ t) (c2 : ∀ x, f ≤ x → x ≤ t → f ≤ q2 x ∧ q2 x ≤ t) : f = 0 ∧ t + 1 = n := by
  have key : ∀ x, Rel q1 q2 f x → f ≤ x ∧ x ≤ t := by
    rintro x ⟨m, rfl⟩
    induction m with
    | zero => exact ⟨Nat.le_refl _, hft⟩
    | succ m ih =>
      by_cases hm : m % 2 = 0
      · rw [xs_even hm]; exact c1 _ ih.1 ih.2
      · rw [xs_odd (by omega)]; exact c2 _ ih.1 ih.2
  have hf0 := Rel.symm h1 h2 hn (hall f (by omega))
  have a0 := key 0 hf0
  have al := key (n - 1) (Rel.trans h1 h2 (by omega) hf0 (hall (n - 1) (by omega)))
  omega
end
/-! #### the program's count of curves -/
theorem mk_get (n : Nat) : ∀ (l : List Int) (sn : List Bool), sn.length = n → (∀ x ∈ l, 0 ≤ x ∧ x < (n : Int)) → ∀ y, y < n → ((mk sn l).getD y false = true ↔ sn.getD y false = true ∨ (y : Int) ∈ l) := by
  intro l
  induction l with
  | nil => intro sn _ _ y _; simp [mk]
  | cons x r ih =>
    intro sn hs hx y hy
    have hx0 := hx x (by simp)
    show (mk (sn.set x.toNat true) r).getD y false = true ↔ _
    rw [ih (sn.set x.toNat true) (by rw [List.length_set]; exact hs) (fun z hz => hx z (by simp [hz])) y hy]
    rw [List.getD_eq_getElem?_getD, List.getElem?_set, List.getD_eq_getElem?_getD, List.mem_cons]
    by_cases e : x.toNat = y
    · rw [if_pos e, if_pos (by omega)]
      have : (y : Int) = x := by omega
      simp [this]
    · rw [if_neg e]
      have : (y : Int) ≠ x := by omega
      simp [this]
theorem curve_list {n : Nat} {p1 p2 : List Int} {q1 q2 : Nat → Nat} (h1 : Mate n p1 q1) (h2 : Mate n p2 q2) (hl1 : p1.length = n) (hl2 : p2.length = n) (hn : n ≤ 12) {i : Nat} (hi : i < n) :
    ∃ l : List Int, l.length ≤ n ∧ (∀ x ∈ l, 0 ≤ x ∧ x < (n : Int)) ∧ (∀ k, n < k → impl_curve.f k p1 p2 (i : Int) = some l) ∧ ∀ y : Nat, (y : Int) ∈ l ↔ Rel q1 q2 i y := by
  obtain ⟨M, m1, m2, m3, m4, m5⟩ := curve_M h1 h2 hi
  refine ⟨tab (xs q1 q2 i) M, by rw [tab_len]; exact m2, ?_, fun k hk => curve_impl h1 h2 hl1 hl2 hn hi m2 m4 m5 ((M - 2) / 2) 0 k (by omega) (by omega) rfl, fun y => ?_⟩
  · intro x hx
    obtain ⟨s, _, rfl⟩ := List.mem_map.1 hx
    have := xs_lt h1 h2 hi s
    omega
  · constructor
    · intro hy
      obtain ⟨s, _, e⟩ := List.mem_map.1 hy
      exact ⟨s, by omega⟩
    · intro hR
      obtain ⟨m, hm, e⟩ := Rel.small m1 m3 m4 hR
      exact List.mem_map.2 ⟨m, List.mem_range.2 hm, by rw [e]⟩
theorem comp_val {n : Nat} {p1 p2 : List Int} {q1 q2 : Nat → Nat} (h1 : Mate n p1 q1) (h2 : Mate n p2 q2) (hl1 : p1.length = n) (hl2 : p2.length = n) (hn : n ≤ 12) :
    ∀ (d i out k : Nat) (sn : List Bool), i + d = n → out ≤ i → sn.length = n → 15 * d + 20 ≤ k → (∀ y, y < n → (sn.getD y false = true ↔ ∃ j, j < i ∧ Rel q1 q2 j y)) →
    impl_components.l0 k p1 p2 sn (out : Int) (n : Int) (i : Int) = some ((out + (reps (Rel q1 q2) i d).length : Nat) : Int) := by
  intro d
  induction d with
  | zero =>
    intro i out k sn hi ho hs hk hm
    obtain ⟨k, rfl⟩ : ∃ m, k = m + 1 := ⟨k - 1, by omega⟩
    simp only [impl_components.l0, reps]
    rw [if_neg (by omega)]
    rfl
  | succ d ih =>
    intro i out k sn hi ho hs hk hm
    obtain ⟨K, rfl⟩ : ∃ m, k = m + 1 := ⟨k - 1, by omega⟩
    have er : rdOf false sn (i : Int) = sn.getD i false := by unfold rdOf; rw [Int.toNat_natCast]
    simp only [impl_components.l0]
    rw [er]
    by_cases c : ∃ j, j < i ∧ Rel q1 q2 j i
    · have hmi : sn.getD i false = true := (hm i (by omega)).2 c
      rw [if_pos (by omega), if_pos (by omega), if_pos (by omega), if_pos hmi, wrap_nat (by omega)]
      simp only [reps]
      rw [if_pos c]
      refine ih (i + 1) out K sn (by omega) (by omega) hs (by omega) (fun y hy => ?_)
      rw [hm y hy]
      constructor
      · rintro ⟨j, hj, hR⟩; exact ⟨j, by omega, hR⟩
      · rintro ⟨j, hj, hR⟩
        rcases Nat.lt_or_ge j i with h | h
        · exact ⟨j, h, hR⟩
        · obtain rfl : j = i := by omega
          obtain ⟨j', hj', hR'⟩ := c
          exact ⟨j', hj', Rel.trans h1 h2 (by omega) hR' hR⟩
    · have hmi : ¬ sn.getD i false = true := fun h => c ((hm i (by omega)).1 h)
      obtain ⟨l, hll, hb, hc1, hmem⟩ := curve_list h1 h2 hl1 hl2 hn (show i < n by omega)
      obtain ⟨k, rfl⟩ : ∃ m, K = m + l.length + 1 := ⟨K - l.length - 1, by omega⟩
      simp only [reps]
      rw [if_pos (by omega), if_pos (by omega), if_pos (by omega), if_neg hmi, hc1 _ (by omega), Option.bind_some, if_neg c, wrap_id (by omega) (by omega), show (0 : Int) = ((0 : Nat) : Int) from rfl,
        comp_l1 p1 p2 l _ _ _ (by omega) l.length 0 k sn (by omega) (fun x hx => by rw [hs]; exact hb x hx), List.drop_zero, wrap_nat (by omega)]
      have := ih (i + 1) (out + 1) k (mk sn l) (by omega) (by omega) (by rw [mk_len]; exact hs) (by omega) (fun y hy => by
        rw [mk_get n l sn hs hb y hy, hm y hy, hmem y]
        constructor
        · rintro (⟨j, hj, hR⟩ | hR)
          · exact ⟨j, by omega, hR⟩
          · exact ⟨i, by omega, hR⟩
        · rintro ⟨j, hj, hR⟩
          rcases Nat.lt_or_ge j i with h | h
          · exact .inl ⟨j, h, hR⟩
          · obtain rfl : j = i := by omega
            exact .inr hR)
      rw [show ((out : Int) + 1) = ((out + 1 : Nat) : Int) by omega, this, List.length_cons]
      congr 2
      omega

end Go.Proofs.Ytopcnhppbmmbbaa.PC
