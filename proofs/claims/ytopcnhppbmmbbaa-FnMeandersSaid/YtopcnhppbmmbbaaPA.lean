/- Texts of brackets: the program and the reference join the same places: plain lemmas. No condition. -/
import Derived.Test.YtopcnhppbmmbbaaHandAllM
namespace Go.Proofs.Ytopcnhppbmmbbaa.PA
open Go.RowKit Go.Proofs.Ytopcnhppbmmbbaa.Hand Go.Proofs.YtopcnhppbmmbbaaW.PrintWords Go.Proofs.YtopcnhppbmmbbaaW.PrintLast
set_option linter.unusedVariables false
set_option linter.unusedSimpArgs false

theorem wrap_id {x : Int} (h0 : -9223372036854775808 ≤ x) (h1 : x ≤ 9223372036854775807) : wrap64 x = x := by
  unfold wrap64
  omega
theorem wrap_nat {i : Nat} (h : i ≤ 1000000000) : wrap64 ((i : Int) + 1) = ((i + 1 : Nat) : Int) := by
  unfold wrap64
  omega
theorem rd_set (xs : List Int) (i : Nat) (v : Int) (j : Nat) (hi : i < xs.length) : rd (xs.set i v) (j : Int) = if j = i then v else rd xs (j : Int) := by
  unfold rd
  rw [Int.toNat_natCast, List.getD_eq_getElem?_getD, List.getD_eq_getElem?_getD, List.getElem?_set]
  by_cases h : j = i
  · subst h
    simp [hi]
  · rw [if_neg (by omega), if_neg h]
theorem rd_app_l (xs ys : List Int) (j : Nat) (h : j < xs.length) : rd (xs ++ ys) (j : Int) = rd xs (j : Int) := by
  unfold rd
  rw [Int.toNat_natCast, List.getD_eq_getElem?_getD, List.getD_eq_getElem?_getD, List.getElem?_append_left h]
theorem rd_app_at (xs : List Int) (v : Int) : rd (xs ++ [v]) (xs.length : Int) = v := by
  unfold rd
  simp [List.getD_eq_getElem?_getD]
theorem rd_take (xs : List Int) (m j : Nat) (h : j < m) : rd (xs.take m) (j : Int) = rd xs (j : Int) := by
  unfold rd
  rw [Int.toNat_natCast, List.getD_eq_getElem?_getD, List.getD_eq_getElem?_getD, List.getElem?_take, if_pos h]
/-- Places j and m are joined (a name that linear arithmetic does not open). -/
def Joins (p : List Int) (j m : Nat) : Prop := rd p (j : Int) = (m : Int) ∧ rd p (m : Int) = (j : Int)
def Is (x : Int) (j : Nat) : Prop := x = (j : Int)
/-- How a text of brackets stands when i letters have been read: the open places (the stack), and the joined ones. -/
structure Scan (i : Nat) (p st : List Int) : Prop where
  par : (i + st.length) % 2 = 0
  le : st.length ≤ i
  low : ∀ t : Nat, t < st.length → ∃ a : Nat, a < i ∧ Is (rd st (t : Int)) a
  inc : ∀ a b : Nat, a < b → b < st.length → rd st (a : Int) < rd st (b : Int)
  all : ∀ j : Nat, j < i → (∃ t : Nat, t < st.length ∧ Is (rd st (t : Int)) j) ∨ (∃ m : Nat, m < i ∧ Joins p j m ∧ m ≠ j ∧ ∀ t : Nat, t < st.length → ¬ Is (rd st (t : Int)) m)
theorem Scan.start (p : List Int) : Scan 0 p [] := ⟨rfl, Nat.le_refl _, fun t h => absurd h (by simp), fun a b _ h => absurd h (by simp), fun j h => absurd h (by omega)⟩
theorem Scan.push {i : Nat} {p st : List Int} (h : Scan i p st) : Scan (i + 1) p (st ++ [(i : Int)]) := by
  have hl : (st ++ [(i : Int)]).length = st.length + 1 := by simp
  refine ⟨by rw [hl]; have := h.par; omega, by rw [hl]; have := h.le; omega, fun t ht => ?_, fun a b hab hb => ?_, fun j hj => ?_⟩
  · rw [hl] at ht
    by_cases e : t < st.length
    · obtain ⟨a, ha, hs⟩ := h.low t e
      exact ⟨a, by omega, by rw [rd_app_l _ _ _ e]; exact hs⟩
    · obtain rfl : t = st.length := by omega
      exact ⟨i, by omega, by rw [rd_app_at]; rfl⟩
  · rw [hl] at hb
    by_cases e : b < st.length
    · rw [rd_app_l _ _ _ e, rd_app_l _ _ _ (by omega)]
      exact h.inc a b hab e
    · obtain rfl : b = st.length := by omega
      rw [rd_app_at, rd_app_l _ _ _ hab]
      obtain ⟨c, hc, hs⟩ := h.low a hab
      rw [hs]
      omega
  · by_cases e : j < i
    · rcases h.all j e with ⟨t, ht, hs⟩ | ⟨m, hm, hj2, hne, hn⟩
      · exact .inl ⟨t, by omega, by rw [rd_app_l _ _ _ ht]; exact hs⟩
      · refine .inr ⟨m, by omega, hj2, hne, fun t ht => ?_⟩
        rw [hl] at ht
        by_cases e2 : t < st.length
        · rw [rd_app_l _ _ _ e2]; exact hn t e2
        · obtain rfl : t = st.length := by omega
          rw [rd_app_at]
          intro hs
          have : i = m := by unfold Is at hs; omega
          omega
    · obtain rfl : j = i := by omega
      exact .inl ⟨st.length, by omega, by rw [rd_app_at]; rfl⟩
theorem Scan.pop {i n : Nat} {p st : List Int} (h : Scan i p st) (hp : n ≤ p.length) (hi : i < n) (h0 : 0 < st.length) {c : Nat} (hc : Is (rd st ((st.length - 1 : Nat) : Int)) c) :
    Scan (i + 1) ((p.set c (i : Int)).set i (c : Int)) (st.take (st.length - 1)) := by
  obtain ⟨c', hci, hc'⟩ := h.low (st.length - 1) (by omega)
  obtain rfl : c' = c := by unfold Is at hc hc'; omega
  have hl : (st.take (st.length - 1)).length = st.length - 1 := by rw [List.length_take]; omega
  have hn : ∀ t : Nat, t < st.length - 1 → ¬ Is (rd st (t : Int)) c' := fun t ht hs => by
    have := h.inc t (st.length - 1) (by omega) (by omega)
    unfold Is at hs hc
    omega
  have hr : ∀ j : Nat, rd ((p.set c' (i : Int)).set i (c' : Int)) (j : Int) = if j = i then (c' : Int) else if j = c' then (i : Int) else rd p (j : Int) := fun j => by
    rw [rd_set _ _ _ _ (by rw [List.length_set]; omega), rd_set _ _ _ _ (by omega)]
  refine ⟨by rw [hl]; have := h.par; omega, by rw [hl]; have := h.le; omega, fun t ht => ?_, fun a b hab hb => ?_, fun j hj => ?_⟩
  · rw [hl] at ht
    obtain ⟨a, ha, hs⟩ := h.low t (by omega)
    exact ⟨a, by omega, by rw [rd_take _ _ _ ht]; exact hs⟩
  · rw [hl] at hb
    rw [rd_take _ _ _ hb, rd_take _ _ _ (by omega)]
    exact h.inc a b hab (by omega)
  · by_cases e1 : j = i
    · subst e1
      refine .inr ⟨c', by omega, ⟨by rw [hr, if_pos rfl], by rw [hr, if_neg (by omega), if_pos rfl]⟩, by omega, fun t ht => ?_⟩
      rw [hl] at ht
      rw [rd_take _ _ _ ht]
      exact hn t ht
    · by_cases e2 : j = c'
      · subst e2
        refine .inr ⟨i, by omega, ⟨by rw [hr, if_neg e1, if_pos rfl], by rw [hr, if_pos rfl]⟩, by omega, fun t ht => ?_⟩
        rw [hl] at ht
        rw [rd_take _ _ _ ht]
        obtain ⟨a, ha, hs⟩ := h.low t (by omega)
        intro hs2
        unfold Is at hs hs2
        omega
      · rcases h.all j (by omega) with ⟨t, ht, hs⟩ | ⟨m, hm, hj2, hne, hnt⟩
        · refine .inl ⟨t, ?_, ?_⟩
          · rw [hl]
            rcases Nat.lt_or_ge t (st.length - 1) with hlt | hge
            · exact hlt
            · exfalso
              obtain rfl : t = st.length - 1 := by omega
              unfold Is at hs hc
              omega
          · rw [rd_take]
            · exact hs
            · rcases Nat.lt_or_ge t (st.length - 1) with hlt | hge
              · exact hlt
              · exfalso
                obtain rfl : t = st.length - 1 := by omega
                unfold Is at hs hc
                omega
        · have hmc : m ≠ c' := fun e => hnt (st.length - 1) (by omega) (by rw [e]; exact hc)
          refine .inr ⟨m, by omega, ⟨by rw [hr, if_neg e1, if_neg e2]; exact hj2.1, by rw [hr, if_neg (by omega), if_neg hmc]; exact hj2.2⟩, hne, fun t ht => ?_⟩
          rw [hl] at ht
          rw [rd_take _ _ _ ht]
          exact hnt t (by omega)
/-- A list of n places that joins them in pairs. -/
def Pairs (n : Nat) (p : List Int) : Prop := ∀ j : Nat, j < n → ∃ m : Nat, m < n ∧ Joins p j m ∧ m ≠ j
theorem Scan.done {n : Nat} {p : List Int} (h : Scan n p []) : n % 2 = 0 ∧ Pairs n p := by
  refine ⟨by have := h.par; simpa using this, fun j hj => ?_⟩
  rcases h.all j hj with ⟨t, ht, _⟩ | ⟨m, hm, hj2, hne, _⟩
  · simp at ht
  · exact ⟨m, hm, hj2, hne⟩
/-- The program's reading of a text, from place i on: it ends, and where it says yes, what it gives joins the places in pairs. -/
theorem partners_go (s : ByteArray) (hb : s.size ≤ 1048576) : ∀ (d i : Nat) (p st : List Int), i + d = s.size → p.length = s.size → Scan i p st →
    ∃ r : List Int × Bool, (∀ k, d < k → impl_partners.l0 k s p st (s.size : Int) (i : Int) = some r) ∧ (r.2 = true → r.1.length = s.size ∧ s.size % 2 = 0 ∧ Pairs s.size r.1) := by
  intro d
  induction d with
  | zero =>
    intro i p st hi hp hs
    refine ⟨(p, ((st.length : Int) == 0)), fun k hk => ?_, fun hr => ?_⟩
    · obtain ⟨k, rfl⟩ : ∃ m, k = m + 1 := ⟨k - 1, by omega⟩
      simp only [impl_partners.l0]
      rw [if_neg (by omega)]
    · have h0 : (st.length : Int) = 0 := by simpa using hr
      obtain rfl : st = [] := List.eq_nil_of_length_eq_zero (by omega)
      obtain rfl : i = s.size := by omega
      exact ⟨hp, hs.done⟩
  | succ d ih =>
    intro i p st hi hp hs
    by_cases h40 : bt s (i : Int) = 40
    · obtain ⟨r, h1, h2⟩ := ih (i + 1) p (st ++ [(i : Int)]) (by omega) hp hs.push
      refine ⟨r, fun k hk => ?_, h2⟩
      obtain ⟨k, rfl⟩ : ∃ m, k = m + 1 := ⟨k - 1, by omega⟩
      have hle := hs.le
      simp only [impl_partners.l0]
      rw [if_pos (by omega), if_pos (by omega), if_pos (by omega), if_pos h40, if_pos (by omega), wrap_nat (by omega)]
      exact h1 k (by omega)
    · by_cases h41 : bt s (i : Int) = 41
      · by_cases h0 : st.length = 0
        · refine ⟨([], false), fun k hk => ?_, fun hr => by simp at hr⟩
          obtain ⟨k, rfl⟩ : ∃ m, k = m + 1 := ⟨k - 1, by omega⟩
          simp only [impl_partners.l0]
          rw [if_pos (by omega), if_pos (by omega), if_pos (by omega), if_neg h40, if_pos h41, if_pos (by omega)]
        · have hle := hs.le
          obtain ⟨c, hc, hci⟩ := hs.low (st.length - 1) (by omega)
          have e1 : wrap64 ((st.length : Int) - 1) = ((st.length - 1 : Nat) : Int) := by rw [wrap_id (by omega) (by omega)]; omega
          have e2 : rd st ((st.length - 1 : Nat) : Int) = (c : Int) := hci
          obtain ⟨r, h1, h2⟩ := ih (i + 1) ((p.set c (i : Int)).set i (c : Int)) (st.take (st.length - 1)) (by omega) (by simp [hp]) (hs.pop (n := s.size) (by omega) (by omega) (by omega) hci)
          refine ⟨r, fun k hk => ?_, h2⟩
          obtain ⟨k, rfl⟩ : ∃ m, k = m + 1 := ⟨k - 1, by omega⟩
          simp only [impl_partners.l0, e1, e2, Int.toNat_natCast]
          clear e2 hci
          rw [if_pos (by omega), if_pos (by omega), if_pos (by omega), if_neg h40, if_pos h41, if_neg (by omega), if_pos (by omega), if_pos (by omega), if_pos (by omega), if_pos (by omega), if_pos (by omega), if_pos (by omega), wrap_nat (by omega)]
          exact h1 k (by omega)
      · refine ⟨([], false), fun k hk => ?_, fun hr => by simp at hr⟩
        obtain ⟨k, rfl⟩ : ∃ m, k = m + 1 := ⟨k - 1, by omega⟩
        simp only [impl_partners.l0]
        rw [if_pos (by omega), if_pos (by omega), if_pos (by omega), if_neg h40, if_neg h41]
theorem partners (s : ByteArray) (hb : s.size ≤ 1048576) : ∃ r : List Int × Bool, (∀ k, s.size < k → impl_partners.f k s = some r) ∧ (r.2 = true → r.1.length = s.size ∧ s.size % 2 = 0 ∧ Pairs s.size r.1) := by
  obtain ⟨r, h1, h2⟩ := partners_go s hb s.size 0 (List.replicate s.size 0) [] (by omega) (by simp) (Scan.start _)
  refine ⟨r, fun k hk => ?_, h2⟩
  unfold impl_partners.f
  rw [if_pos (by omega), if_pos (by omega), Int.toNat_natCast]
  exact h1 k hk
theorem pad_set (p : List Int) (z : List Int) (i : Nat) (v : Int) (hi : i < p.length) : (p ++ z).set i v = p.set i v ++ z := by
  rw [List.set_append_left _ _ hi]
/-- The reference's reading of a text of at most 12 letters goes as the program's does; its list has zeros behind. -/
theorem arcs_go (s : ByteArray) (hb : s.size ≤ 12) (z : List Int) : ∀ (d i : Nat) (p st : List Int), i + d = s.size → p.length = s.size → Scan i p st →
    ∃ (o : List Int) (r : List Int × Bool), (∀ k, d < k → spec_l08Arcs.l0 k s (p ++ z) st (i : Int) = some (o, r.2)) ∧ (∀ k, d < k → impl_partners.l0 k s p st (s.size : Int) (i : Int) = some r) ∧ (r.2 = true → o = r.1 ++ z) := by
  intro d
  induction d with
  | zero =>
    intro i p st hi hp hs
    refine ⟨p ++ z, (p, ((st.length : Int) == 0)), fun k hk => ?_, fun k hk => ?_, fun _ => rfl⟩
    · obtain ⟨k, rfl⟩ : ∃ m, k = m + 1 := ⟨k - 1, by omega⟩
      simp only [spec_l08Arcs.l0]
      rw [if_neg (by omega)]
    · obtain ⟨k, rfl⟩ : ∃ m, k = m + 1 := ⟨k - 1, by omega⟩
      simp only [impl_partners.l0]
      rw [if_neg (by omega)]
  | succ d ih =>
    intro i p st hi hp hs
    have hle := hs.le
    by_cases h40 : bt s (i : Int) = 40
    · obtain ⟨o, r, h1, h2, h3⟩ := ih (i + 1) p (st ++ [(i : Int)]) (by omega) hp hs.push
      refine ⟨o, r, fun k hk => ?_, fun k hk => ?_, h3⟩
      · obtain ⟨k, rfl⟩ : ∃ m, k = m + 1 := ⟨k - 1, by omega⟩
        simp only [spec_l08Arcs.l0]
        rw [if_pos (by omega), if_pos (by omega), if_pos h40, if_pos (by omega), wrap_nat (by omega)]
        exact h1 k (by omega)
      · obtain ⟨k, rfl⟩ : ∃ m, k = m + 1 := ⟨k - 1, by omega⟩
        simp only [impl_partners.l0]
        rw [if_pos (by omega), if_pos (by omega), if_pos (by omega), if_pos h40, if_pos (by omega), wrap_nat (by omega)]
        exact h2 k (by omega)
    · by_cases h41 : bt s (i : Int) = 41
      · by_cases h0 : st.length = 0
        · refine ⟨p ++ z, ([], false), fun k hk => ?_, fun k hk => ?_, fun hr => by simp at hr⟩
          · obtain ⟨k, rfl⟩ : ∃ m, k = m + 1 := ⟨k - 1, by omega⟩
            simp only [spec_l08Arcs.l0]
            rw [if_pos (by omega), if_pos (by omega), if_neg h40, if_pos h41, if_neg (by omega)]
          · obtain ⟨k, rfl⟩ : ∃ m, k = m + 1 := ⟨k - 1, by omega⟩
            simp only [impl_partners.l0]
            rw [if_pos (by omega), if_pos (by omega), if_pos (by omega), if_neg h40, if_pos h41, if_pos (by omega)]
        · obtain ⟨c, hc, hci⟩ := hs.low (st.length - 1) (by omega)
          have e1 : wrap64 ((st.length : Int) - 1) = ((st.length - 1 : Nat) : Int) := by rw [wrap_id (by omega) (by omega)]; omega
          have e2 : rd st ((st.length - 1 : Nat) : Int) = (c : Int) := hci
          obtain ⟨o, r, h1, h2, h3⟩ := ih (i + 1) ((p.set c (i : Int)).set i (c : Int)) (st.take (st.length - 1)) (by omega) (by simp [hp]) (hs.pop (n := s.size) (by omega) (by omega) (by omega) hci)
          refine ⟨o, r, fun k hk => ?_, fun k hk => ?_, h3⟩
          · obtain ⟨k, rfl⟩ : ∃ m, k = m + 1 := ⟨k - 1, by omega⟩
            simp only [spec_l08Arcs.l0, e1, e2, Int.toNat_natCast]
            clear e2 hci
            rw [if_pos (by omega), if_pos (by omega), if_neg h40, if_pos h41, if_pos (by omega), if_pos (by omega), if_pos (by omega), if_pos (by omega), if_pos (by omega), if_pos (by omega), wrap_nat (by omega), pad_set _ _ _ _ (by omega), pad_set _ _ _ _ (by rw [List.length_set]; omega)]
            exact h1 k (by omega)
          · obtain ⟨k, rfl⟩ : ∃ m, k = m + 1 := ⟨k - 1, by omega⟩
            simp only [impl_partners.l0, e1, e2, Int.toNat_natCast]
            clear e2 hci
            rw [if_pos (by omega), if_pos (by omega), if_pos (by omega), if_neg h40, if_pos h41, if_neg (by omega), if_pos (by omega), if_pos (by omega), if_pos (by omega), if_pos (by omega), if_pos (by omega), if_pos (by omega), wrap_nat (by omega)]
            exact h2 k (by omega)
      · refine ⟨p ++ z, ([], false), fun k hk => ?_, fun k hk => ?_, fun hr => by simp at hr⟩
        · obtain ⟨k, rfl⟩ : ∃ m, k = m + 1 := ⟨k - 1, by omega⟩
          simp only [spec_l08Arcs.l0]
          rw [if_pos (by omega), if_pos (by omega), if_neg h40, if_neg h41]
        · obtain ⟨k, rfl⟩ : ∃ m, k = m + 1 := ⟨k - 1, by omega⟩
          simp only [impl_partners.l0]
          rw [if_pos (by omega), if_pos (by omega), if_pos (by omega), if_neg h40, if_neg h41]
/-- A text is a system: both say so, and both join the same places. -/
theorem arcs (s : ByteArray) (hb : s.size ≤ 1048576) : ∃ (o : List Int) (r : List Int × Bool) (y : Bool), (∀ k, s.size < k → spec_l08Arcs.f k s = some (o, y)) ∧ (∀ k, s.size < k → impl_partners.f k s = some r) ∧
    y = (r.2 && (decide (s.size % 2 = 0) && decide (2 ≤ s.size ∧ s.size ≤ 12))) ∧ (y = true → r.2 = true ∧ 2 ≤ s.size ∧ s.size ≤ 12 ∧ s.size % 2 = 0 ∧ r.1.length = s.size ∧ Pairs s.size r.1 ∧ o = r.1 ++ List.replicate (12 - s.size) 0) := by
  obtain ⟨r, h1, h2⟩ := partners s hb
  by_cases hn : 2 ≤ s.size ∧ s.size ≤ 12
  · obtain ⟨o, r', g1, g2, g3⟩ := arcs_go s hn.2 (List.replicate (12 - s.size) 0) s.size 0 (List.replicate s.size 0) [] (by omega) (by simp) (Scan.start _)
    have hr : r' = r := by
      have a := h1 (s.size + 1) (by omega)
      unfold impl_partners.f at a
      rw [if_pos (by omega), if_pos (by omega), Int.toNat_natCast] at a
      have b := g2 (s.size + 1) (by omega)
      rw [show ((0 : Nat) : Int) = 0 from rfl] at b
      rw [b] at a
      exact Option.some.inj a
    subst hr
    refine ⟨o, r', r'.2, fun k hk => ?_, h1, ?_, fun hy => ?_⟩
    · unfold spec_l08Arcs.f
      rw [if_neg (by omega), if_neg (by omega), show List.replicate 12 (0 : Int) = List.replicate s.size 0 ++ List.replicate (12 - s.size) 0 from by rw [List.replicate_append_replicate]; congr 1; omega]
      exact g1 k hk
    · cases hy : r'.2 with
      | false => rfl
      | true =>
        obtain ⟨_, h4, _⟩ := h2 hy
        rw [decide_eq_true h4, decide_eq_true hn]
        rfl
    · obtain ⟨a, b, c⟩ := h2 hy
      exact ⟨hy, hn.1, hn.2, b, a, c, g3 hy⟩
  · refine ⟨List.replicate 12 0, r, false, fun k hk => ?_, h1, ?_, fun hy => by cases hy⟩
    · unfold spec_l08Arcs.f
      by_cases h : (s.size : Int) < 2
      · rw [if_pos h]
      · rw [if_neg h, if_pos (by omega)]
    · rw [decide_eq_false hn]
      simp

end Go.Proofs.Ytopcnhppbmmbbaa.PA
