/- ParseWord of the program returns what the reference returns, for all arguments, and shares no memory: the pure statement. No condition. -/
import Derived.Test.YtfboiigejaiodaaPA
import Derived.Test.YtfboiigejaiodaaQx5
import Derived.Test.YtfboiigejaiodaaQx6
namespace Go.Proofs.Ytfboiigejaiodaa.Pure
open Go.RowKit Go.Proofs.Ytfboiigejaiodaa.Q Go.Proofs.Ytfboiigejaiodaa.Hand Go.Proofs.YtfboiigejaiodaaW.PrintWords Go.Proofs.YtfboiigejaiodaaW.PrintLast Go.Proofs.Ytfboiigejaiodaa.PA


theorem implIn (a lo hi : Int) : impl_in.f a lo hi = some (decide (lo ≤ a ∧ a ≤ hi)) := by
  unfold impl_in.f
  by_cases h : a ≥ lo
  · rw [if_pos h]
    by_cases h2 : a ≤ hi
    · rw [decide_eq_true h2, decide_eq_true (by omega)]
    · rw [decide_eq_false h2, decide_eq_false (by omega)]
  · rw [if_neg h, decide_eq_false (by omega)]
theorem is_go (n : Int) (l : List Int) (hb : l.length ≤ 1048576) : ∀ (d i k : Nat), i + d = l.length → d < k → spec_l03Is.l0 k n l (i : Int) = some (!(l.drop i).any (badW n)) := by
  intro d
  induction d with
  | zero =>
    intro i k hi hk
    obtain ⟨k, rfl⟩ : ∃ m, k = m + 1 := ⟨k - 1, by omega⟩
    simp only [spec_l03Is.l0]
    rw [if_neg (by omega), List.drop_of_length_le (by omega)]
    rfl
  | succ d ih =>
    intro i k hi hk
    obtain ⟨k, rfl⟩ : ∃ m, k = m + 1 := ⟨k - 1, by omega⟩
    simp only [spec_l03Is.l0]
    rw [if_pos (by omega), if_pos (by omega), wrap_nat (by omega), drop_any (by omega), specIn, Option.bind_some]
    generalize rd l (i : Int) = x
    by_cases h1 : 0 ≤ x ∧ x ≤ wrap64 (n - 2)
    · rw [decide_eq_true h1, if_pos rfl, ih (i + 1) k (by omega) (by omega)]
      have : badW n x = false := by unfold badW; rw [decide_eq_true h1.1, decide_eq_true h1.2]; rfl
      rw [this]
      rfl
    · rw [decide_eq_false h1, if_neg (by simp)]
      have : badW n x = true := by
        unfold badW
        by_cases h2 : 0 ≤ x
        · rw [decide_eq_false (fun h3 : x ≤ wrap64 (n - 2) => h1 ⟨h2, h3⟩)]; simp
        · rw [decide_eq_false h2]; rfl
      rw [this]
      rfl
def okW (n : Int) (l : List Int) : Bool := decide (2 ≤ n ∧ n ≤ 8) && (decide (l.length ≤ 60) && !(l.any (badW n)))
theorem specIs (n : Int) (l : List Int) (hb : l.length ≤ 1048576) {k : Nat} (hk : l.length + 1 < k) : spec_l03Is.f k n l = some (okW n l) := by
  obtain ⟨k, rfl⟩ : ∃ m, k = m + 1 := ⟨k - 1, by omega⟩
  unfold spec_l03Is.f okW
  rw [specIn, Option.bind_some]
  by_cases h1 : 2 ≤ n ∧ n ≤ 8
  · rw [decide_eq_true h1, if_pos rfl]
    simp only [spec_l03Is.j0]
    by_cases h2 : l.length ≤ 60
    · rw [decide_eq_false (by omega : ¬ (l.length : Int) > 60), if_neg (by simp), decide_eq_true h2]
      have := is_go n l hb l.length 0 k (by omega) (by omega)
      rw [List.drop_zero] at this
      simpa using this
    · rw [decide_eq_true (by omega : (l.length : Int) > 60), if_pos rfl, decide_eq_false h2]
      rfl
  · rw [decide_eq_false h1, if_neg (by simp)]
    simp only [spec_l03Is.j0]
    rfl
theorem implIs (n : Int) (l : List Int) (hb : l.length ≤ 1048576) : impl_wordOk.f n l = some (okW n l) := by
  unfold impl_wordOk.f okW
  rw [if_pos (by omega)]
/-- The reference's list of all letters, whatever follows. -/
theorem parse_spec (n : Int) (s : ByteArray) (hb : s.size ≤ 1048576) : ∀ (d i : Nat) (xs : List Int), i + d = s.size → xs.length = i →
    ∃ ys, ys.length = s.size ∧ ∀ k, s.size + 2 + d < k → spec_ParseWord.l0 k n s xs (i : Int) = (if okW n ys = true then some (ys, 0) else some ([], 6)) := by
  intro d
  induction d with
  | zero =>
    intro i xs hi hx
    refine ⟨xs, by omega, fun k hk => ?_⟩
    obtain ⟨k, rfl⟩ : ∃ m, k = m + 1 := ⟨k - 1, by omega⟩
    simp only [spec_ParseWord.l0]
    rw [if_neg (by omega), specIs n xs (by omega) (by omega), Option.bind_some]
  | succ d ih =>
    intro i xs hi hx
    obtain ⟨ys, hy, h⟩ := ih (i + 1) (xs ++ [wrap64 ((wrap64 (bt s (i : Int))) - 48)]) (by omega) (by simp [hx])
    refine ⟨ys, hy, fun k hk => ?_⟩
    obtain ⟨k, rfl⟩ : ∃ m, k = m + 1 := ⟨k - 1, by omega⟩
    simp only [spec_ParseWord.l0, wrap_nat (show i ≤ 1000000000 by omega)]
    rw [if_pos (by omega), if_pos (by omega), if_pos (by omega)]
    exact h k (by omega)
theorem parse_both (n : Int) (s : ByteArray) (hb : s.size ≤ 60) : ∀ (d i : Nat) (xs : List Int), i + d = s.size → xs.length = i →
    ∃ ys e, ys.length ≤ 60 ∧ ∀ k, s.size + 2 + d < k → spec_ParseWord.l0 k n s xs (i : Int) = some (ys, e) ∧ impl_ParseWord.l0 k n s xs (s.size : Int) (i : Int) = some (ys, e) := by
  intro d
  induction d with
  | zero =>
    intro i xs hi hx
    by_cases h : okW n xs = true
    · refine ⟨xs, 0, by omega, fun k hk => ?_⟩
      obtain ⟨k, rfl⟩ : ∃ m, k = m + 1 := ⟨k - 1, by omega⟩
      simp only [spec_ParseWord.l0, impl_ParseWord.l0]
      rw [specIs n xs (by omega) (by omega), implIs n xs (by omega)]
      refine ⟨?_, ?_⟩
      · rw [if_neg (by omega), Option.bind_some, if_pos h]
      · rw [if_neg (by omega), Option.bind_some, if_pos h]
    · refine ⟨[], 6, by simp, fun k hk => ?_⟩
      obtain ⟨k, rfl⟩ : ∃ m, k = m + 1 := ⟨k - 1, by omega⟩
      simp only [spec_ParseWord.l0, impl_ParseWord.l0]
      rw [specIs n xs (by omega) (by omega), implIs n xs (by omega)]
      refine ⟨?_, ?_⟩
      · rw [if_neg (by omega), Option.bind_some, if_neg h]
      · rw [if_neg (by omega), Option.bind_some, if_neg h]
  | succ d ih =>
    intro i xs hi hx
    obtain ⟨ys, e, hy, h⟩ := ih (i + 1) (xs ++ [wrap64 ((wrap64 (bt s (i : Int))) - 48)]) (by omega) (by simp [hx])
    refine ⟨ys, e, hy, fun k hk => ?_⟩
    obtain ⟨k, rfl⟩ : ∃ m, k = m + 1 := ⟨k - 1, by omega⟩
    simp only [spec_ParseWord.l0, impl_ParseWord.l0, wrap_nat (show i ≤ 1000000000 by omega)]
    refine ⟨?_, ?_⟩
    · rw [if_pos (by omega), if_pos (by omega), if_pos (by omega)]; exact (h k (by omega)).1
    · rw [if_pos (by omega), if_pos (by omega), if_pos (by omega), if_pos (by omega)]; exact (h k (by omega)).2
theorem both (n : Int) (s : ByteArray) (hb : s.size ≤ 1048576) : ∃ ys e, ys.length ≤ 60 ∧ ∀ k, 2 * s.size + 3 < k → spec_ParseWord.f k n s = some (ys, e) ∧ impl_ParseWord.f k n s = some (ys, e) := by
  by_cases hn : 2 ≤ n ∧ n ≤ 8
  · by_cases h60 : s.size ≤ 60
    · obtain ⟨ys, e, hy, h⟩ := parse_both n s h60 s.size 0 [] (by omega) rfl
      refine ⟨ys, e, hy, fun k hk => ?_⟩
      unfold spec_ParseWord.f impl_ParseWord.f
      rw [specIn, implIn, decide_eq_true hn, Option.bind_some, Option.bind_some, if_pos rfl, if_pos rfl, if_neg (by omega)]
      exact h k (by omega)
    · obtain ⟨ys, hy, h⟩ := parse_spec n s hb s.size 0 [] (by omega) rfl
      refine ⟨[], 6, by simp, fun k hk => ?_⟩
      unfold spec_ParseWord.f impl_ParseWord.f
      rw [specIn, implIn, decide_eq_true hn, Option.bind_some, Option.bind_some, if_pos rfl, if_pos rfl, if_pos (by omega)]
      refine ⟨?_, rfl⟩
      have h1 := h k (by omega)
      have h2 : okW n ys = false := by unfold okW; rw [decide_eq_false (by omega : ¬ ys.length ≤ 60)]; simp
      rw [h2] at h1
      exact h1
  · refine ⟨[], 2, by simp, fun k hk => ?_⟩
    unfold spec_ParseWord.f impl_ParseWord.f
    rw [specIn, implIn, decide_eq_false hn]
    exact ⟨rfl, rfl⟩
theorem FnExactParseWord : laws_FnExactParseWord.Pure := by
  intro n s _ _
  refine ⟨2097160, ?_⟩
  unfold laws_FnExactParseWord.f
  by_cases hb : s.size ≤ 1048576
  · rw [if_neg (by omega)]
    obtain ⟨ys, e, hy, h⟩ := both n s hb
    rw [(h 2097160 (by omega)).1, Option.bind_some, (h 2097160 (by omega)).2, Option.bind_some, eqS ys (by omega) (by omega), Option.bind_some, if_pos rfl, bne_self_eq_false]
    rw [show (2097160 : Nat) = 2097159 + 1 from rfl]
    simp only [laws_FnExactParseWord.j0]
    rw [if_neg (by simp), markS ys (by omega) (by omega), Option.bind_some, heldS ys.length (by omega) (by omega), Option.bind_some, if_neg (by omega), if_pos rfl, (h 2097159 (by omega)).2, Option.bind_some, eqS ys (by omega) (by omega), Option.bind_some, if_pos rfl, bne_self_eq_false]
    rw [show (2097159 : Nat) = 2097158 + 1 from rfl]
    simp only [laws_FnExactParseWord.j1]
    rw [if_neg (by simp), heldS ys.length (by omega) (by omega), Option.bind_some, if_neg (by omega), if_pos rfl]
  · rw [if_pos (by omega)]

end Go.Proofs.Ytfboiigejaiodaa.Pure
