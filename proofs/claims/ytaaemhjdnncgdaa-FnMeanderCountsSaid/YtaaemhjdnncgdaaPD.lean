/- Draws come out: plain lemmas. No condition. -/
import Derived.Test.YtaaemhjdnncgdaaPA
import Derived.Test.YtaaemhjdnncgdaaQx1
import Derived.Test.YtaaemhjdnncgdaaQx3
import Derived.Laws.BitsLemmas
namespace Go.Proofs.Ytaaemhjdnncgdaa.PD
open Go.RowKit Go.Proofs.Ytaaemhjdnncgdaa.Q Go.Proofs.Ytaaemhjdnncgdaa.Hand Go.Proofs.YtaaemhjdnncgdaaW.PrintWords Go.Proofs.YtaaemhjdnncgdaaW.PrintLast Go.Proofs.Ytaaemhjdnncgdaa.PA
set_option linter.unusedVariables false
set_option linter.unusedSimpArgs false

/-- From some number of rounds on, always the same. -/
def EvF {α : Type} (f : Nat → Option α) (v : α) : Prop := ∃ K, ∀ k, K ≤ k → f k = some v
theorem EvF.now {α : Type} (v : α) : EvF (fun _ => some v) v := ⟨0, fun _ _ => rfl⟩
theorem EvF.bind {α β : Type} {f : Nat → Option α} {g : Nat → α → Option β} {a : α} {v : β} (h : EvF f a) (h2 : EvF (fun k => g k a) v) : EvF (fun k => (f k).bind (g k)) v := by
  obtain ⟨K1, h1⟩ := h
  obtain ⟨K2, h2⟩ := h2
  refine ⟨max K1 K2, fun k hk => ?_⟩
  show (f k).bind (g k) = some v
  rw [h1 k (by omega), Option.bind_some]
  exact h2 k (by omega)
theorem EvF.succ {α : Type} {f g : Nat → Option α} {v : α} (h : EvF g v) (he : ∀ k, f (k + 1) = g k) : EvF f v := by
  obtain ⟨K, h⟩ := h
  refine ⟨K + 1, fun k hk => ?_⟩
  obtain ⟨m, rfl⟩ : ∃ m, k = m + 1 := ⟨k - 1, by omega⟩
  rw [he]
  exact h m (by omega)
theorem EvF.of {α : Type} {f : Nat → Option α} {v : α} {k : Nat} (hm : ∀ k, LeO (f k) (f (k + 1))) (h : f k = some v) : EvF f v := ⟨k, fun m hk => at_rounds hm hk h⟩
theorem EvF.at {α : Type} {f : Nat → Option α} {v : α} {K : Nat} (h : ∀ k, K ≤ k → f k = some v) : EvF f v := ⟨K, h⟩
/-- The list holds bytes. -/
def Byt (s : List Int) : Prop := ∀ x ∈ s, 0 ≤ x ∧ x ≤ 255
theorem Byt.rd {s : List Int} (h : Byt s) (i : Int) : 0 ≤ rd s i ∧ rd s i ≤ 255 := by
  unfold Go.Proofs.YtaaemhjdnncgdaaW.PrintWords.rd
  rw [List.getD_eq_getElem?_getD]
  cases he : s[i.toNat]? with
  | none => simp
  | some x => exact h x (List.mem_of_getElem? he)
theorem bits_range (x : Int) (h : 0 ≤ x) (h2 : x < 18446744073709551616) : 0 ≤ Go.bits .and .u64 (x / 8589934592) 16777215 ∧ Go.bits .and .u64 (x / 8589934592) 16777215 < 16777216 := by
  have := Go.bits_mask .u64 31 (by decide) (fun n h0 h1 => by
    show n % 18446744073709551616 = n
    have : (2 : Int) ^ 31 = 2147483648 := by decide
    omega) 24 (by decide) (x / 8589934592) (by omega) (by have : (2 : Int) ^ 31 = 2147483648 := by decide
                                                          omega)
  rw [show (2 : Int) ^ 24 - 1 = 16777215 by decide, show (2 : Int) ^ 24 = 16777216 by decide] at this
  rw [this]
  omega
theorem u64_range (x : Int) : 0 ≤ IntKind.u64.wrap x ∧ IntKind.u64.wrap x < 18446744073709551616 := by
  show 0 ≤ x % 18446744073709551616 ∧ x % 18446744073709551616 < 18446744073709551616
  omega
/-- A draw comes out: a number, and the source behind it. -/
def Out (s : List Int) (r : Option (Int × Int × Int)) (P : Int → Prop) : Prop := ∃ x i h, r = some (x, i, h) ∧ 0 ≤ i ∧ i ≤ (s.length : Int) ∧ P x
theorem next_out {s : List Int} (hb : Byt s) (hl : (s.length : Int) ≤ 140737488351232) {i : Int} (hi : 0 ≤ i) (hi2 : i ≤ (s.length : Int)) (h n : Int) : Out s (spec_l01Next.f s i h n) (fun x => 0 ≤ x ∧ (1 ≤ n → x < n)) := by
  unfold spec_l01Next.f
  by_cases h1 : n < 1
  · rw [if_pos h1]
    exact ⟨0, i, h, rfl, hi, hi2, by omega, fun h => by omega⟩
  · rw [if_neg h1]
    have u := u64_range ((IntKind.u64.wrap (h * 6364136223846793005)) + 1442695040888963407)
    generalize IntKind.u64.wrap ((IntKind.u64.wrap (h * 6364136223846793005)) + 1442695040888963407) = U at u ⊢
    have b := bits_range U u.1 u.2
    generalize Go.bits .and .u64 (U / 8589934592) 16777215 = B at b ⊢
    by_cases h2 : i < (s.length : Int)
    · have r := hb.rd i
      rw [if_pos h2, if_pos hi, if_neg (by omega)]
      refine ⟨_, _, _, rfl, ?_, ?_, ?_, fun _ => ?_⟩
      · rw [wrap_id (by omega) (by omega)]; omega
      · rw [wrap_id (by omega) (by omega)]; omega
      · rw [wrap_id (x := B) (by omega) (by omega), wrap_id (x := rd s i) (by omega) (by omega), wrap_id (by omega) (by omega)]
        exact Int.tmod_nonneg _ (by omega)
      · exact Int.tmod_lt_of_pos _ (by omega)
    · rw [if_neg h2, if_neg (by omega)]
      refine ⟨_, _, _, rfl, hi, hi2, ?_, fun _ => ?_⟩
      · rw [wrap_id (x := B) (by omega) (by omega)]
        exact Int.tmod_nonneg _ (by omega)
      · exact Int.tmod_lt_of_pos _ (by omega)
theorem pick_out {s : List Int} (hb : Byt s) (hl : (s.length : Int) ≤ 140737488351232) {i : Int} (hi : 0 ≤ i) (hi2 : i ≤ (s.length : Int)) (h : Int) (l : List Int) (hl0 : 0 < l.length) : Out s (spec_l01Pick.f s i h l) (fun _ => True) := by
  unfold spec_l01Pick.f
  obtain ⟨x, j, g, e, h1, h2, h3, h4⟩ := next_out hb hl hi hi2 h (l.length : Int)
  rw [e, Option.bind_some]
  rw [if_pos h3, if_pos (h4 (by omega))]
  exact ⟨_, _, _, rfl, h1, h2, trivial⟩
theorem from_go (s : List Int) : ∀ (d : Nat) (i h : Int), 0 ≤ i → 4096 - i = d → ∃ g, ∀ k, d < k → spec_l01From.l0 k s i s 0 h = some (s, 0, g) := by
  intro d
  induction d with
  | zero =>
    intro i h hi hd
    refine ⟨h, fun k hk => ?_⟩
    obtain ⟨k, rfl⟩ : ∃ m, k = m + 1 := ⟨k - 1, by omega⟩
    simp only [spec_l01From.l0]
    by_cases c : i < (s.length : Int)
    · rw [if_pos c, if_neg (by omega)]
    · rw [if_neg c]
  | succ d ih =>
    intro i h hi hd
    by_cases c : i < (s.length : Int)
    · obtain ⟨g, hg⟩ := ih (i + 1) (IntKind.u64.wrap ((IntKind.u64.wrap ((IntKind.u64.wrap (h * 1099511628211)) + (IntKind.u64.wrap (rd s i)))) + 67)) (by omega) (by omega)
      refine ⟨g, fun k hk => ?_⟩
      obtain ⟨k, rfl⟩ : ∃ m, k = m + 1 := ⟨k - 1, by omega⟩
      simp only [spec_l01From.l0]
      rw [if_pos c, if_pos (by omega), if_pos hi, wrap_id (x := i + 1) (by omega) (by omega)]
      exact hg k (by omega)
    · refine ⟨h, fun k hk => ?_⟩
      obtain ⟨k, rfl⟩ : ∃ m, k = m + 1 := ⟨k - 1, by omega⟩
      simp only [spec_l01From.l0]
      rw [if_neg c]
theorem from_out (s : List Int) : ∃ g, EvF (fun k => spec_l01From.f k s) (s, 0, g) := by
  obtain ⟨g, hg⟩ := from_go s 4096 0 (IntKind.u64.wrap (12511 + (IntKind.u64.wrap ((s.length : Int))))) (by omega) (by omega)
  refine ⟨g, 4097, fun k hk => ?_⟩
  unfold spec_l01From.f
  exact hg k (by omega)

end Go.Proofs.Ytaaemhjdnncgdaa.PD
