/- Half diagrams: the program and the reference scan alike: plain lemmas. No condition. -/
import Derived.Test.YtdkpgnbamecifaaHandAllE
import Derived.Test.YtdkpgnbamecifaaQx1
namespace Go.Proofs.Ytdkpgnbamecifaa.PA
open Go.RowKit Go.Proofs.Ytdkpgnbamecifaa.Q Go.Proofs.Ytdkpgnbamecifaa.Hand Go.Proofs.YtdkpgnbamecifaaW.PrintWords Go.Proofs.YtdkpgnbamecifaaW.PrintLast

theorem wrap_id {x : Int} (h0 : -9223372036854775808 ≤ x) (h1 : x ≤ 9223372036854775807) : wrap64 x = x := by
  unfold wrap64
  omega
theorem wrap_nat {i : Nat} (h : i ≤ 1000000000) : wrap64 ((i : Int) + 1) = ((i + 1 : Nat) : Int) := by
  unfold wrap64
  omega
theorem rd_set (xs : List Int) (i : Nat) (v : Int) (j : Nat) (hi : i < xs.length) : rd (xs.set i v) (j : Int) = if j = i then v else rd xs (j : Int) := by
  unfold rd
  rw [Int.toNat_natCast, List.getD_eq_getElem?_getD, List.getD_eq_getElem?_getD, List.getElem?_set]
  by_cases h : j = i
  · subst h
    simp [hi]
  · rw [if_neg (by omega), if_neg h]
theorem rd_app_l (xs ys : List Int) (j : Nat) (h : j < xs.length) : rd (xs ++ ys) (j : Int) = rd xs (j : Int) := by
  unfold rd
  rw [Int.toNat_natCast, List.getD_eq_getElem?_getD, List.getD_eq_getElem?_getD, List.getElem?_append_left h]
theorem rd_app_at (xs : List Int) (v : Int) : rd (xs ++ [v]) (xs.length : Int) = v := by
  unfold rd
  simp [List.getD_eq_getElem?_getD]
theorem rd_take (xs : List Int) (m j : Nat) (h : j < m) : rd (xs.take m) (j : Int) = rd xs (j : Int) := by
  unfold rd
  rw [Int.toNat_natCast, List.getD_eq_getElem?_getD, List.getD_eq_getElem?_getD, List.getElem?_take, if_pos h]
/-- All numbers of the stack lie below i. -/
def In (st : List Int) (i : Nat) : Prop := ∀ t : Nat, t < st.length → 0 ≤ rd st (t : Int) ∧ rd st (t : Int) < (i : Int)
theorem In.nil (i : Nat) : In [] i := fun t h => absurd h (by simp)
theorem In.push {st : List Int} {i : Nat} (h : In st i) : In (st ++ [(i : Int)]) (i + 1) := by
  intro t ht
  rw [List.length_append] at ht
  by_cases h1 : t < st.length
  · rw [rd_app_l st _ t h1]
    have := h t h1
    omega
  · have e : t = st.length := by simp at ht; omega
    subst e
    rw [rd_app_at]
    omega
theorem In.take {st : List Int} {i : Nat} (h : In st i) (m : Nat) : In (st.take m) (i + 1) := by
  intro t ht
  rw [List.length_take] at ht
  rw [rd_take st m t (by omega)]
  have := h t (by omega)
  omega
theorem In.up {st : List Int} {i : Nat} (h : In st i) : In st (i + 1) := by
  intro t ht
  have := h t ht
  omega
theorem arcs8_go (s : ByteArray) (hb : s.size ≤ 1048576) : ∀ (d i k : Nat) (x st : List Int), i + d = s.size → 2 * d < k → x.length = s.size → st.length ≤ i → In st i →
    ∃ r, impl_arcs.l0 k s x st (s.size : Int) (i : Int) = some r ∧ (s.size ≤ 8 → ∀ (k' : Nat) (o : List Int), d < k' → ∃ o', spec_l04Arcs.l0 k' s o st (i : Int) = some (o', r.2)) := by
  intro d
  induction d with
  | zero =>
    intro i k x st hi hk hx hs hin
    obtain ⟨k, rfl⟩ : ∃ m, k = m + 1 := ⟨k - 1, by omega⟩
    refine ⟨(x, ((st.length : Int) == 0)), ?_, fun hn k' o hk' => ⟨o, ?_⟩⟩
    · simp only [impl_arcs.l0]
      rw [if_neg (by omega)]
    · obtain ⟨k', rfl⟩ : ∃ m, k' = m + 1 := ⟨k' - 1, by omega⟩
      simp only [spec_l04Arcs.l0]
      rw [if_neg (by omega)]
  | succ d ih =>
    intro i k x st hi hk hx hs hin
    obtain ⟨k, rfl⟩ : ∃ m, k = m + 2 := ⟨k - 2, by omega⟩
    simp only [impl_arcs.l0, impl_arcs.j1]
    rw [if_pos (by omega), if_pos (by omega), if_pos (by omega)]
    have spec : ∀ (k' : Nat) (o : List Int), spec_l04Arcs.l0 (k' + 1) s o st (i : Int) = (if (bt s (i : Int)) = 40 then (if st.length < 17592186044416 then (spec_l04Arcs.l0 k' s o (st ++ [(i : Int)]) ((i + 1 : Nat) : Int)) else (none)) else (if (bt s (i : Int)) = 41 then (if 0 < st.length then (if 0 ≤ (wrap64 ((st.length : Int) - 1)) then (if (wrap64 ((st.length : Int) - 1)) < (st.length : Int) then (if 0 ≤ (rd st (wrap64 ((st.length : Int) - 1))) then (if (rd st (wrap64 ((st.length : Int) - 1))) < 8 then (if (i : Int) < 8 then (spec_l04Arcs.l0 k' s ((o.set ((rd st (wrap64 ((st.length : Int) - 1))) : Int).toNat (i : Int)).set ((i : Int) : Int).toNat (rd st (wrap64 ((st.length : Int) - 1)))) (st.take ((wrap64 ((st.length : Int) - 1)) : Int).toNat) ((i + 1 : Nat) : Int)) else (none)) else (none)) else (none)) else (none)) else (none)) else (some (o, false))) else (if (bt s (i : Int)) = 124 then (if 0 < st.length then (some (o, false)) else (if (i : Int) < 8 then (spec_l04Arcs.l0 k' s (o.set ((i : Int) : Int).toNat (i : Int)) st ((i + 1 : Nat) : Int)) else (none))) else (some (o, false))))) := by
      intro k' o
      rw [← wrap_nat (by omega)]
      simp only [spec_l04Arcs.l0]
      rw [if_pos (by omega), if_pos (by omega)]
    rw [wrap_nat (by omega)]
    by_cases h124 : bt s (i : Int) = 124
    · rw [if_pos h124]
      by_cases h0 : st.length = 0
      · rw [if_pos (by rw [beq_iff_eq]; omega), if_pos (by omega), if_pos (by omega)]
        obtain ⟨r, hr, hsp⟩ := ih (i + 1) k (x.set ((i : Int)).toNat (-1)) st (by omega) (by omega) (by simp [hx]) (by omega) hin.up
        refine ⟨r, hr, fun hn k' o hk' => ?_⟩
        obtain ⟨k', rfl⟩ : ∃ m, k' = m + 1 := ⟨k' - 1, by omega⟩
        rw [spec, if_neg (by omega), if_neg (by omega), if_pos h124, if_neg (by omega), if_pos (by omega)]
        exact hsp hn k' _ (by omega)
      · rw [if_neg (by rw [beq_iff_eq]; omega), if_pos (by omega), if_pos (by omega), if_neg (by omega), if_neg (by omega)]
        refine ⟨_, rfl, fun hn k' o hk' => ?_⟩
        obtain ⟨k', rfl⟩ : ∃ m, k' = m + 1 := ⟨k' - 1, by omega⟩
        rw [spec, if_neg (by omega), if_neg (by omega), if_pos h124, if_pos (by omega)]
        exact ⟨_, rfl⟩
    · rw [if_neg h124, if_neg (by simp), if_pos (by omega), if_pos (by omega)]
      by_cases h40 : bt s (i : Int) = 40
      · rw [if_pos h40, if_pos (by omega)]
        obtain ⟨r, hr, hsp⟩ := ih (i + 1) k x (st ++ [(i : Int)]) (by omega) (by omega) hx (by simp; omega) hin.push
        refine ⟨r, hr, fun hn k' o hk' => ?_⟩
        obtain ⟨k', rfl⟩ : ∃ m, k' = m + 1 := ⟨k' - 1, by omega⟩
        rw [spec, if_pos h40, if_pos (by omega)]
        exact hsp hn k' _ (by omega)
      · rw [if_neg h40]
        by_cases h41 : bt s (i : Int) = 41
        · rw [if_pos h41]
          by_cases h0 : st.length = 0
          · rw [if_pos (by omega)]
            refine ⟨_, rfl, fun hn k' o hk' => ?_⟩
            obtain ⟨k', rfl⟩ : ∃ m, k' = m + 1 := ⟨k' - 1, by omega⟩
            rw [spec, if_neg h40, if_pos h41, if_neg (by omega)]
            exact ⟨_, rfl⟩
          · have e : wrap64 ((st.length : Int) - 1) = ((st.length - 1 : Nat) : Int) := by rw [wrap_id (by omega) (by omega)]; omega
            have ht := hin (st.length - 1) (by omega)
            rw [e] at spec ⊢
            generalize rd st ((st.length - 1 : Nat) : Int) = top at spec ht ⊢
            rw [if_neg (by omega), if_pos (by omega), if_pos (by omega), if_pos (by omega), if_pos ht.1, if_pos (by omega), if_pos (by omega)]
            obtain ⟨r, hr, hsp⟩ := ih (i + 1) k ((x.set top.toNat (i : Int)).set ((i : Int)).toNat top) (st.take (((st.length - 1 : Nat) : Int)).toNat) (by omega) (by omega) (by simp [hx]) (by rw [List.length_take]; omega) (hin.take _)
            refine ⟨r, hr, fun hn k' o hk' => ?_⟩
            obtain ⟨k', rfl⟩ : ∃ m, k' = m + 1 := ⟨k' - 1, by omega⟩
            rw [spec, if_neg h40, if_pos h41, if_pos (by omega), if_pos (by omega), if_pos (by omega), if_pos ht.1, if_pos (by omega), if_pos (by omega)]
            exact hsp hn k' _ (by omega)
        · rw [if_neg h41]
          refine ⟨_, rfl, fun hn k' o hk' => ?_⟩
          obtain ⟨k', rfl⟩ : ∃ m, k' = m + 1 := ⟨k' - 1, by omega⟩
          rw [spec, if_neg h40, if_neg h41, if_neg h124]
          exact ⟨_, rfl⟩

end Go.Proofs.Ytdkpgnbamecifaa.PA
