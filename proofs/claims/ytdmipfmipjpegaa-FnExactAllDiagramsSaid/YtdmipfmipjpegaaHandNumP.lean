/- The numbers of texts of brackets, and what is read of them. No condition. -/
import Derived.Test.YtdmipfmipjpegaaHandParse
import Derived.Test.YtdmipfmipjpegaaHandBrk
namespace Go.Proofs.Ytdmipfmipjpegaa.Hand
open Go.RowKit Go.Proofs.YtdmipfmipjpegaaW.PrintWords Go.Proofs.YtdmipfmipjpegaaW.PrintLast Go.Proofs.YtdmipfmipjpegaaW.PrintMore
set_option linter.unusedVariables false
set_option linter.unusedSimpArgs false

theorem brk_close : ∀ (op : Nat) (t : ByteArray), (brk op op t).length = 1 := by
  intro op
  induction op with
  | zero => intro t; rfl
  | succ op ih =>
    intro t
    simp only [brk]
    rw [if_neg (by omega), if_pos (by omega), List.nil_append]
    exact ih _
theorem brk_ways : ∀ (left op rest : Nat) (t : ByteArray) (fuel : Nat), left = 2 * rest + op → left ≤ 16 → left < fuel → spec_l01Ways.f fuel (op : Int) (rest : Int) = some ((brk left op t).length : Int) := by
  intro left
  induction left with
  | zero =>
    intro op rest t fuel h h16 hf
    obtain ⟨k, rfl⟩ : ∃ k, fuel = k + 1 := ⟨fuel - 1, by omega⟩
    simp only [spec_l01Ways.f]
    rw [if_pos (by omega)]
    rfl
  | succ left ih =>
    intro op rest t fuel h h16 hf
    obtain ⟨k, rfl⟩ : ∃ k, fuel = k + 1 := ⟨fuel - 1, by omega⟩
    simp only [spec_l01Ways.f]
    by_cases hr : rest = 0
    · rw [if_pos (by omega)]
      obtain rfl : op = left + 1 := by omega
      rw [brk_close]
      rfl
    · rw [if_neg (by omega)]
      have e1 : wrap64 ((op : Int) + 1) = ((op + 1 : Nat) : Int) := by unfold wrap64; omega
      have e2 : wrap64 ((rest : Int) - 1) = ((rest - 1 : Nat) : Int) := by unfold wrap64; omega
      rw [e1, e2, ih (op + 1) (rest - 1) (t ++ ⟨#[40]⟩) k (by omega) (by omega) (by omega)]
      simp only [Option.bind_some, brk]
      have l1 := brk_len left (op + 1) (t ++ ⟨#[40]⟩)
      have l2 := brk_len left (op - 1) (t ++ ⟨#[41]⟩)
      have l3 : 2 ^ left ≤ 2 ^ 16 := Nat.pow_le_pow_right (by omega) (by omega)
      rw [if_pos (show op < left + 1 by omega)]
      by_cases ho : 0 < op
      · rw [if_pos (by omega), if_pos ho]
        have e3 : wrap64 ((op : Int) - 1) = ((op - 1 : Nat) : Int) := by unfold wrap64; omega
        rw [e3, ih (op - 1) rest (t ++ ⟨#[41]⟩) k (by omega) (by omega) (by omega)]
        simp only [Option.bind_some]
        rw [List.length_append]
        congr 1
        unfold wrap64
        omega
      · rw [if_neg (by omega), if_neg ho, List.append_nil]
theorem brk_sizes : ∀ (left op : Nat) (t : ByteArray), ∀ T ∈ brk left op t, T.size = t.size + left := by
  intro left
  induction left with
  | zero => intro op t T h; simp [brk] at h; subst h; rfl
  | succ left ih =>
    intro op t T h
    simp only [brk, List.mem_append] at h
    rcases h with h | h
    · split at h
      · have := ih _ _ _ h
        rw [this, strCat]
        omega
      · simp at h
    · split at h
      · have := ih _ _ _ h
        rw [this, strCat]
        omega
      · simp at h
set_option maxRecDepth 100000 in
theorem brk_read_all : (List.range 9).all (fun n => (brk (2 * n) 0 ⟨#[]⟩).all (fun T => n == 0 || (readR T).2.2)) = true := by decide +kernel
theorem brk_read {n : Nat} (h1 : 1 ≤ n) (h8 : n ≤ 8) {T : ByteArray} (h : T ∈ brk (2 * n) 0 ⟨#[]⟩) : (readR T).2.2 = true := by
  have := List.all_eq_true.1 brk_read_all n (List.mem_range.2 (by omega))
  have h2 := List.all_eq_true.1 this T h
  simp only [Bool.or_eq_true, beq_iff_eq] at h2
  rcases h2 with h2 | h2
  · omega
  · exact h2
/-- How many texts go on with an open bracket. -/
def ahead (left op : Nat) (t : ByteArray) : Nat := if op < left + 1 then (brk left (op + 1) (t ++ ⟨#[40]⟩)).length else 0
theorem brk_go_open {left op k : Nat} {t T : ByteArray} (h : (brk (left + 1) op t)[k]? = some T) (hk : k < ahead left op t) : (brk left (op + 1) (t ++ ⟨#[40]⟩))[k]? = some T := by
  simp only [brk] at h
  unfold ahead at hk
  split at hk
  · rename_i hc
    rw [if_pos hc, List.getElem?_append_left hk] at h
    exact h
  · omega
theorem brk_go_shut {left op k : Nat} {t T : ByteArray} (h : (brk (left + 1) op t)[k]? = some T) (hk : ¬k < ahead left op t) : 0 < op ∧ (brk left (op - 1) (t ++ ⟨#[41]⟩))[k - ahead left op t]? = some T := by
  simp only [brk] at h
  have e : (if op < left + 1 then brk left (op + 1) (t ++ ⟨#[40]⟩) else []).length = ahead left op t := by
    unfold ahead
    split <;> rfl
  rw [List.getElem?_append_right (by omega), e] at h
  by_cases ho : 0 < op
  · rw [if_pos ho] at h
    exact ⟨ho, h⟩
  · rw [if_neg ho] at h
    simp at h
end Go.Proofs.Ytdmipfmipjpegaa.Hand
