/- Half diagrams: the program and the reference scan alike, and there are few of them: plain lemmas. No condition. -/
import Derived.Test.YteajmmmaiahmnaaHandP
namespace Go.Proofs.Yteajmmmaiahmnaa.PA
open Go.RowKit Go.Proofs.Yteajmmmaiahmnaa.Hand Go.Proofs.YteajmmmaiahmnaaW.PrintWords Go.Proofs.YteajmmmaiahmnaaW.PrintLast

theorem wrap_id {x : Int} (h0 : -9223372036854775808 ≤ x) (h1 : x ≤ 9223372036854775807) : wrap64 x = x := by
  unfold wrap64
  omega
theorem wrap_nat {i : Nat} (h : i ≤ 1000000000) : wrap64 ((i : Int) + 1) = ((i + 1 : Nat) : Int) := by
  unfold wrap64
  omega
theorem rd_set (xs : List Int) (i : Nat) (v : Int) (j : Nat) (hi : i < xs.length) : rd (xs.set i v) (j : Int) = if j = i then v else rd xs (j : Int) := by
  unfold rd
  rw [Int.toNat_natCast, List.getD_eq_getElem?_getD, List.getD_eq_getElem?_getD, List.getElem?_set]
  by_cases h : j = i
  · subst h
    simp [hi]
  · rw [if_neg (by omega), if_neg h]
theorem rd_app_l (xs ys : List Int) (j : Nat) (h : j < xs.length) : rd (xs ++ ys) (j : Int) = rd xs (j : Int) := by
  unfold rd
  rw [Int.toNat_natCast, List.getD_eq_getElem?_getD, List.getD_eq_getElem?_getD, List.getElem?_append_left h]
theorem rd_app_at (xs : List Int) (v : Int) : rd (xs ++ [v]) (xs.length : Int) = v := by
  unfold rd
  simp [List.getD_eq_getElem?_getD]
theorem rd_take (xs : List Int) (m j : Nat) (h : j < m) : rd (xs.take m) (j : Int) = rd xs (j : Int) := by
  unfold rd
  rw [Int.toNat_natCast, List.getD_eq_getElem?_getD, List.getD_eq_getElem?_getD, List.getElem?_take, if_pos h]
/-- All numbers of the stack lie below i. -/
def In (st : List Int) (i : Nat) : Prop := ∀ t : Nat, t < st.length → 0 ≤ rd st (t : Int) ∧ rd st (t : Int) < (i : Int)
theorem In.nil (i : Nat) : In [] i := fun t h => absurd h (by simp)
theorem In.push {st : List Int} {i : Nat} (h : In st i) : In (st ++ [(i : Int)]) (i + 1) := by
  intro t ht
  rw [List.length_append] at ht
  by_cases h1 : t < st.length
  · rw [rd_app_l st _ t h1]
    have := h t h1
    omega
  · have e : t = st.length := by simp at ht; omega
    subst e
    rw [rd_app_at]
    omega
theorem In.take {st : List Int} {i : Nat} (h : In st i) (m : Nat) : In (st.take m) (i + 1) := by
  intro t ht
  rw [List.length_take] at ht
  rw [rd_take st m t (by omega)]
  have := h t (by omega)
  omega
theorem In.up {st : List Int} {i : Nat} (h : In st i) : In st (i + 1) := by
  intro t ht
  have := h t ht
  omega
theorem arcs8_go (s : ByteArray) (hb : s.size ≤ 1048576) : ∀ (d i k : Nat) (x st : List Int), i + d = s.size → 2 * d < k → x.length = s.size → st.length ≤ i → In st i →
    ∃ r, impl_arcs.l0 k s x st (s.size : Int) (i : Int) = some r ∧ (s.size ≤ 8 → ∀ (k' : Nat) (o : List Int), d < k' → ∃ o', spec_l04Arcs.l0 k' s o st (i : Int) = some (o', r.2)) := by
  intro d
  induction d with
  | zero =>
    intro i k x st hi hk hx hs hin
    obtain ⟨k, rfl⟩ : ∃ m, k = m + 1 := ⟨k - 1, by omega⟩
    refine ⟨(x, ((st.length : Int) == 0)), ?_, fun hn k' o hk' => ⟨o, ?_⟩⟩
    · simp only [impl_arcs.l0]
      rw [if_neg (by omega)]
    · obtain ⟨k', rfl⟩ : ∃ m, k' = m + 1 := ⟨k' - 1, by omega⟩
      simp only [spec_l04Arcs.l0]
      rw [if_neg (by omega)]
  | succ d ih =>
    intro i k x st hi hk hx hs hin
    obtain ⟨k, rfl⟩ : ∃ m, k = m + 2 := ⟨k - 2, by omega⟩
    simp only [impl_arcs.l0, impl_arcs.j1]
    rw [if_pos (by omega), if_pos (by omega), if_pos (by omega)]
    have spec : ∀ (k' : Nat) (o : List Int), spec_l04Arcs.l0 (k' + 1) s o st (i : Int) = (if (bt s (i : Int)) = 40 then (if st.length < 17592186044416 then (spec_l04Arcs.l0 k' s o (st ++ [(i : Int)]) ((i + 1 : Nat) : Int)) else (none)) else (if (bt s (i : Int)) = 41 then (if 0 < st.length then (if 0 ≤ (wrap64 ((st.length : Int) - 1)) then (if (wrap64 ((st.length : Int) - 1)) < (st.length : Int) then (if 0 ≤ (rd st (wrap64 ((st.length : Int) - 1))) then (if (rd st (wrap64 ((st.length : Int) - 1))) < 8 then (if (i : Int) < 8 then (spec_l04Arcs.l0 k' s ((o.set ((rd st (wrap64 ((st.length : Int) - 1))) : Int).toNat (i : Int)).set ((i : Int) : Int).toNat (rd st (wrap64 ((st.length : Int) - 1)))) (st.take ((wrap64 ((st.length : Int) - 1)) : Int).toNat) ((i + 1 : Nat) : Int)) else (none)) else (none)) else (none)) else (none)) else (none)) else (some (o, false))) else (if (bt s (i : Int)) = 124 then (if 0 < st.length then (some (o, false)) else (if (i : Int) < 8 then (spec_l04Arcs.l0 k' s (o.set ((i : Int) : Int).toNat (i : Int)) st ((i + 1 : Nat) : Int)) else (none))) else (some (o, false))))) := by
      intro k' o
      rw [← wrap_nat (by omega)]
      simp only [spec_l04Arcs.l0]
      rw [if_pos (by omega), if_pos (by omega)]
    rw [wrap_nat (by omega)]
    by_cases h124 : bt s (i : Int) = 124
    · rw [if_pos h124]
      by_cases h0 : st.length = 0
      · rw [if_pos (by rw [beq_iff_eq]; omega), if_pos (by omega), if_pos (by omega)]
        obtain ⟨r, hr, hsp⟩ := ih (i + 1) k (x.set ((i : Int)).toNat (-1)) st (by omega) (by omega) (by simp [hx]) (by omega) hin.up
        refine ⟨r, hr, fun hn k' o hk' => ?_⟩
        obtain ⟨k', rfl⟩ : ∃ m, k' = m + 1 := ⟨k' - 1, by omega⟩
        rw [spec, if_neg (by omega), if_neg (by omega), if_pos h124, if_neg (by omega), if_pos (by omega)]
        exact hsp hn k' _ (by omega)
      · rw [if_neg (by rw [beq_iff_eq]; omega), if_pos (by omega), if_pos (by omega), if_neg (by omega), if_neg (by omega)]
        refine ⟨_, rfl, fun hn k' o hk' => ?_⟩
        obtain ⟨k', rfl⟩ : ∃ m, k' = m + 1 := ⟨k' - 1, by omega⟩
        rw [spec, if_neg (by omega), if_neg (by omega), if_pos h124, if_pos (by omega)]
        exact ⟨_, rfl⟩
    · rw [if_neg h124, if_neg (by simp), if_pos (by omega), if_pos (by omega)]
      by_cases h40 : bt s (i : Int) = 40
      · rw [if_pos h40, if_pos (by omega)]
        obtain ⟨r, hr, hsp⟩ := ih (i + 1) k x (st ++ [(i : Int)]) (by omega) (by omega) hx (by simp; omega) hin.push
        refine ⟨r, hr, fun hn k' o hk' => ?_⟩
        obtain ⟨k', rfl⟩ : ∃ m, k' = m + 1 := ⟨k' - 1, by omega⟩
        rw [spec, if_pos h40, if_pos (by omega)]
        exact hsp hn k' _ (by omega)
      · rw [if_neg h40]
        by_cases h41 : bt s (i : Int) = 41
        · rw [if_pos h41]
          by_cases h0 : st.length = 0
          · rw [if_pos (by omega)]
            refine ⟨_, rfl, fun hn k' o hk' => ?_⟩
            obtain ⟨k', rfl⟩ : ∃ m, k' = m + 1 := ⟨k' - 1, by omega⟩
            rw [spec, if_neg h40, if_pos h41, if_neg (by omega)]
            exact ⟨_, rfl⟩
          · have e : wrap64 ((st.length : Int) - 1) = ((st.length - 1 : Nat) : Int) := by rw [wrap_id (by omega) (by omega)]; omega
            have ht := hin (st.length - 1) (by omega)
            rw [e] at spec ⊢
            generalize rd st ((st.length - 1 : Nat) : Int) = top at spec ht ⊢
            rw [if_neg (by omega), if_pos (by omega), if_pos (by omega), if_pos (by omega), if_pos ht.1, if_pos (by omega), if_pos (by omega)]
            obtain ⟨r, hr, hsp⟩ := ih (i + 1) k ((x.set top.toNat (i : Int)).set ((i : Int)).toNat top) (st.take (((st.length - 1 : Nat) : Int)).toNat) (by omega) (by omega) (by simp [hx]) (by rw [List.length_take]; omega) (hin.take _)
            refine ⟨r, hr, fun hn k' o hk' => ?_⟩
            obtain ⟨k', rfl⟩ : ∃ m, k' = m + 1 := ⟨k' - 1, by omega⟩
            rw [spec, if_neg h40, if_pos h41, if_pos (by omega), if_pos (by omega), if_pos (by omega), if_pos ht.1, if_pos (by omega), if_pos (by omega)]
            exact hsp hn k' _ (by omega)
        · rw [if_neg h41]
          refine ⟨_, rfl, fun hn k' o hk' => ?_⟩
          obtain ⟨k', rfl⟩ : ∃ m, k' = m + 1 := ⟨k' - 1, by omega⟩
          rw [spec, if_neg h40, if_neg h41, if_neg h124]
          exact ⟨_, rfl⟩

theorem pairIn (a lo hi : Int) : impl_in.f a lo hi = some (decide (lo ≤ a ∧ a ≤ hi)) := by
  unfold impl_in.f
  by_cases h : a ≥ lo
  · rw [if_pos h]
    by_cases h2 : a ≤ hi
    · rw [decide_eq_true h2, decide_eq_true (by omega)]
    · rw [decide_eq_false h2, decide_eq_false (by omega)]
  · rw [if_neg h, decide_eq_false (by omega)]
/-- Both say the same of a text: a half diagram or none. -/
theorem half (s : ByteArray) (hb : s.size ≤ 1048576) : ∃ v, impl_IsHalf.f 2097160 s = some v ∧ spec_l04Is.f 2097160 s = some v := by
  obtain ⟨r, h1, h2⟩ := arcs8_go s hb s.size 0 2097160 (List.replicate s.size 0) [] (by omega) (by omega) (by simp) (by simp) (In.nil 0)
  rw [show ((0 : Nat) : Int) = 0 from rfl] at h1 h2
  refine ⟨r.2 && decide ((1 : Int) ≤ (s.size : Int) ∧ (s.size : Int) ≤ 8), ?_, ?_⟩
  · unfold impl_IsHalf.f impl_arcs.f
    rw [if_pos (by omega), if_pos (by omega), Int.toNat_natCast, h1, Option.bind_some, pairIn]
    cases r.2 with
    | false => rfl
    | true => rfl
  · unfold spec_l04Is.f spec_l04Arcs.f
    by_cases c1 : (s.size : Int) < 1
    · rw [if_pos c1, decide_eq_false (by omega), Bool.and_false]; rfl
    · rw [if_neg c1]
      by_cases c2 : (s.size : Int) > 8
      · rw [if_pos c2, decide_eq_false (by omega), Bool.and_false]; rfl
      · rw [if_neg c2, decide_eq_true (by omega), Bool.and_true]
        obtain ⟨o', h3⟩ := h2 (by omega) 2097160 (List.replicate 8 0) (by omega)
        rw [h3]; rfl
/-- The half diagrams of n letters behind d open brackets. -/
def cands : Nat → Nat → List (List UInt8)
  | 0, 0 => [[]]
  | 0, _ + 1 => []
  | n + 1, 0 => (cands n 1).map (40 :: ·) ++ (cands n 0).map (124 :: ·)
  | n + 1, d + 1 => (cands n (d + 2)).map (40 :: ·) ++ (cands n d).map (41 :: ·)
theorem cands40 {n d : Nat} {l : List UInt8} (h : l ∈ cands n (d + 1)) : (40 :: l) ∈ cands (n + 1) d := by
  cases d with
  | zero => simp only [cands, List.mem_append, List.mem_map]; exact Or.inl ⟨l, h, rfl⟩
  | succ d => simp only [cands, List.mem_append, List.mem_map]; exact Or.inl ⟨l, h, rfl⟩
theorem cands41 {n d : Nat} {l : List UInt8} (h : l ∈ cands n d) : (41 :: l) ∈ cands (n + 1) (d + 1) := by
  simp only [cands, List.mem_append, List.mem_map]; exact Or.inr ⟨l, h, rfl⟩
theorem cands124 {n : Nat} {l : List UInt8} (h : l ∈ cands n 0) : (124 :: l) ∈ cands (n + 1) 0 := by
  simp only [cands, List.mem_append, List.mem_map]; exact Or.inr ⟨l, h, rfl⟩
theorem bt_list (s : ByteArray) (j : Nat) (h : j < s.data.toList.length) : bt s (j : Int) = ((s.data.toList[j]).toNat : Int) := by
  have h' : j < s.size := by rw [show s.data.toList.length = s.size from Array.length_toList] at h; exact h
  unfold bt
  rw [Int.toNat_natCast, dif_pos h']
  rfl
theorem inC (s : ByteArray) (hs : s.size ≤ 8) : ∀ (m k : Nat) (o st : List Int) (i : Nat) (o' : List Int), i + m = s.size → st.length ≤ i → spec_l04Arcs.l0 k s o st (i : Int) = some (o', true) → s.data.toList.drop i ∈ cands m st.length := by
  have hl : s.data.toList.length = s.size := Array.length_toList
  intro m
  induction m with
  | zero =>
    intro k o st i o' hi hst h
    cases k with
    | zero => simp [spec_l04Arcs.l0] at h
    | succ k =>
      simp only [spec_l04Arcs.l0] at h
      rw [if_neg (by omega)] at h
      have h2 : ((st.length : Int) == 0) = true := (Prod.mk.inj (Option.some.inj h)).2
      have h3 : st.length = 0 := by rw [beq_iff_eq] at h2; omega
      rw [h3, List.drop_of_length_le (by omega)]
      simp [cands]
  | succ m ih =>
    intro k o st i o' hi hst h
    cases k with
    | zero => simp [spec_l04Arcs.l0] at h
    | succ k =>
      simp only [spec_l04Arcs.l0] at h
      rw [if_pos (by omega), if_pos (by omega)] at h
      have hw : wrap64 ((i : Int) + 1) = ((i + 1 : Nat) : Int) := by rw [wrap_id (by omega) (by omega)]; omega
      rw [hw] at h
      rw [List.drop_eq_getElem_cons (by omega : i < s.data.toList.length)]
      have hb := bt_list s i (by omega)
      generalize s.data.toList[i] = x at hb
      by_cases h40 : bt s (i : Int) = 40
      · rw [if_pos h40] at h
        have e : x = 40 := UInt8.toNat_inj.1 (show _ = 40 by omega)
        rw [e]
        split at h
        · have := ih k _ (st ++ [(i : Int)]) (i + 1) o' (by omega) (by simp; omega) h
          rw [List.length_append] at this
          exact cands40 this
        · simp at h
      · rw [if_neg h40] at h
        by_cases h41 : bt s (i : Int) = 41
        · rw [if_pos h41] at h
          have e : x = 41 := UInt8.toNat_inj.1 (show _ = 41 by omega)
          rw [e]
          split at h
          · rename_i hp
            rw [wrap_id (by omega) (by omega), show ((st.length : Int) - 1).toNat = st.length - 1 by omega] at h
            repeat' (split at h)
            all_goals first
              | (have := ih k _ (st.take (st.length - 1)) (i + 1) o' (by omega) (by rw [List.length_take]; omega) h
                 rw [List.length_take, Nat.min_eq_left (by omega)] at this
                 rw [show st.length = (st.length - 1) + 1 by omega]
                 exact cands41 this)
              | simp at h
          · simp at h
        · rw [if_neg h41] at h
          by_cases h124 : bt s (i : Int) = 124
          · rw [if_pos h124] at h
            have e : x = 124 := UInt8.toNat_inj.1 (show _ = 124 by omega)
            rw [e]
            split at h
            · simp at h
            · split at h
              · have := ih k _ st (i + 1) o' (by omega) (by omega) h
                have h0 : st.length = 0 := by omega
                rw [h0] at this ⊢
                exact cands124 this
              · simp at h
          · rw [if_neg h124] at h
            simp at h
def halvesV (n : Nat) : List (List UInt8) := cands n 0
theorem size_le {s : ByteArray} {v : Bool} {k : Nat} (h : spec_l04Is.f k s = some v) (hv : v = true) : 1 ≤ s.size ∧ s.size ≤ 8 := by
  subst hv
  unfold spec_l04Is.f spec_l04Arcs.f at h
  by_cases c1 : (s.size : Int) < 1
  · rw [if_pos c1] at h; simp at h
  · rw [if_neg c1] at h
    by_cases c2 : (s.size : Int) > 8
    · rw [if_pos c2] at h; simp at h
    · omega
theorem inV (s : ByteArray) (k : Nat) (h : spec_l04Is.f k s = some true) : ∃ l : List UInt8, s = ⟨l.toArray⟩ ∧ l ∈ halvesV s.size ∧ 1 ≤ s.size ∧ s.size ≤ 8 := by
  have hz := size_le h rfl
  refine ⟨s.data.toList, by cases s; simp, ?_, hz⟩
  unfold spec_l04Is.f at h
  obtain ⟨⟨o, b⟩, h1, h2⟩ := Option.bind_eq_some_iff.1 h
  obtain rfl := Option.some.inj h2
  unfold spec_l04Arcs.f at h1
  rw [if_neg (by omega), if_neg (by omega)] at h1
  have := inC s hz.2 s.size k _ [] 0 o (by omega) (by simp) h1
  exact this

end Go.Proofs.Yteajmmmaiahmnaa.PA
