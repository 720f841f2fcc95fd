/- Marks in lists of texts, and the half diagrams of the reference: plain lemmas. No condition. -/
import Derived.Test.YtdkpgnbamecifaaHandAllE
import Derived.Test.YtdkpgnbamecifaaQx3
import Derived.Test.YtdkpgnbamecifaaQx4
namespace Go.Proofs.Ytdkpgnbamecifaa.PB
open Go.RowKit Go.Proofs.Ytdkpgnbamecifaa.Q Go.Proofs.Ytdkpgnbamecifaa.Hand Go.Proofs.YtdkpgnbamecifaaW.PrintWords Go.Proofs.YtdkpgnbamecifaaW.PrintLast

theorem wrap_id {x : Int} (h0 : -9223372036854775808 ≤ x) (h1 : x ≤ 9223372036854775807) : wrap64 x = x := by
  unfold wrap64
  omega
/-- A mark as the program writes it. -/
def mt (n : Nat) : ByteArray := (laws_markText.f 60 (n : Int)).getD ByteArray.empty
theorem strOne (x : Int) : (strOfNums [x]).size = 1 := by unfold strOfNums; rfl
theorem markText_go : ∀ (d n k : Nat) (t : ByteArray), n < 10 ^ d → d < k → d ≤ 40 → t.size + d ≤ 100 → n ≤ 1000000000 → ∃ r, laws_markText.l0 k (n : Int) t = some r := by
  intro d
  induction d with
  | zero =>
    intro n k t hn hk _ ht hb
    obtain ⟨k, rfl⟩ : ∃ m, k = m + 1 := ⟨k - 1, by omega⟩
    simp only [laws_markText.l0]
    rw [if_neg (by simp at hn; omega), if_pos (by omega)]
    exact ⟨_, rfl⟩
  | succ d ih =>
    intro n k t hn hk hd ht hb
    obtain ⟨k, rfl⟩ : ∃ m, k = m + 1 := ⟨k - 1, by omega⟩
    simp only [laws_markText.l0]
    by_cases h0 : (n : Int) > 0
    · rw [if_pos h0, Option.bind_some, strOne, if_pos (by omega)]
      have e : wrap64 (Int.tdiv (n : Int) 10) = ((n / 10 : Nat) : Int) := by
        rw [Int.tdiv_eq_ediv_of_nonneg (by omega), wrap_id (by omega) (by omega)]
        omega
      rw [e]
      refine ih (n / 10) k _ ?_ (by omega) (by omega) (by rw [ByteArray.size_append, strOne]; omega) (by omega)
      rw [Nat.pow_succ] at hn
      omega
    · rw [if_neg h0, if_pos (by omega)]
      exact ⟨_, rfl⟩
theorem markText_some (n : Nat) (hn : n ≤ 1000000000) : ∃ r, laws_markText.f 60 (n : Int) = some r := by
  unfold laws_markText.f
  by_cases h0 : (n : Int) ≤ 0
  · rw [if_pos h0]; exact ⟨_, rfl⟩
  · rw [if_neg h0]
    exact markText_go 10 n 60 ⟨#[]⟩ (by omega) (by omega) (by omega) (by decide) hn
theorem markText_up (n : Nat) (r : ByteArray) (h : laws_markText.f 60 (n : Int) = some r) : ∀ d, laws_markText.f (60 + d) (n : Int) = some r := by
  intro d
  induction d with
  | zero => exact h
  | succ d ih => exact laws_markText.mono _ _ _ ih
theorem markT {n k : Nat} (hn : n ≤ 1000000000) (hk : 60 ≤ k) : laws_markText.f k (n : Int) = some (mt n) := by
  obtain ⟨r, h⟩ := markText_some n hn
  have e : mt n = r := by unfold mt; rw [h]; rfl
  rw [e, show k = 60 + (k - 60) from by omega]
  exact markText_up n r h _
/-- A list of the length n with the marks from 1 on. -/
def cntS (n : Nat) : List ByteArray := (List.range n).map fun j : Nat => mt (1 + j)
theorem cntS_len (n : Nat) : (cntS n).length = n := by simp [cntS]
theorem cntS_at (n i : Nat) (hi : i < n) : rdOf ByteArray.empty (cntS n) (i : Int) = mt (1 + i) := by
  unfold rdOf cntS; rw [Int.toNat_natCast, List.getD_eq_getElem?_getD]; simp [hi]
theorem eqSS_refl (l : List ByteArray) (hb : l.length ≤ 2000000) : ∀ (d i k : Nat), i + d = l.length → d < k → laws_eqStringS.l0 k l l (i : Int) = some true := by
  intro d
  induction d with
  | zero =>
    intro i k hi hk
    obtain ⟨k, rfl⟩ : ∃ m, k = m + 1 := ⟨k - 1, by omega⟩
    simp only [laws_eqStringS.l0]
    rw [if_neg (by omega)]
  | succ d ih =>
    intro i k hi hk
    obtain ⟨k, rfl⟩ : ∃ m, k = m + 1 := ⟨k - 1, by omega⟩
    simp only [laws_eqStringS.l0]
    rw [if_pos (by omega), if_pos (by omega), if_pos (by omega), if_pos trivial, wrap_id (by omega) (by omega)]
    exact ih (i + 1) k (by omega) (by omega)
theorem eqSS (l : List ByteArray) (hb : l.length ≤ 2000000) {k : Nat} (hk : l.length < k) : laws_eqStringS.f k l l = some true := by
  unfold laws_eqStringS.f
  rw [if_pos rfl]
  exact eqSS_refl l hb l.length 0 k (by omega) hk
theorem markSS_go (n : Nat) (hb : n ≤ 2000000) : ∀ (d i k : Nat) (l : List ByteArray), l.length = n → i + d = n → d + 60 < k → (∀ j : Nat, j < i → l[j]? = some (mt (1 + j))) →
    laws_markStringS.l0 k l (1 + (i : Int)) (i : Int) = some (1 + (n : Int), cntS n) := by
  intro d
  induction d with
  | zero =>
    intro i k l hl hi hk hv
    obtain ⟨k, rfl⟩ : ∃ m, k = m + 1 := ⟨k - 1, by omega⟩
    simp only [laws_markStringS.l0]
    rw [if_neg (by omega), show i = n from by omega]
    congr 2
    apply List.ext_getElem?
    intro j
    unfold cntS
    by_cases hj : j < n
    · rw [hv j (by omega)]; simp [hj]
    · rw [List.getElem?_eq_none (by omega), List.getElem?_eq_none (by simp; omega)]
  | succ d ih =>
    intro i k l hl hi hk hv
    obtain ⟨k, rfl⟩ : ∃ m, k = m + 1 := ⟨k - 1, by omega⟩
    simp only [laws_markStringS.l0]
    rw [if_pos (by omega), show 1 + (i : Int) = ((1 + i : Nat) : Int) from by omega, markT (by omega) (by omega), Option.bind_some, if_pos (by omega), wrap_id (x := ((1 + i : Nat) : Int) + 1) (by omega) (by omega), wrap_id (x := (i : Int) + 1) (by omega) (by omega), show ((1 + i : Nat) : Int) + 1 = 1 + ((i + 1 : Nat) : Int) from by omega]
    refine ih (i + 1) k _ (by simp [hl]) (by omega) (by omega) ?_
    intro j hj
    rw [Int.toNat_natCast, List.getElem?_set]
    by_cases h : i = j
    · subst h; rw [if_pos rfl, if_pos (by omega)]
    · rw [if_neg h]; exact hv j (by omega)
theorem markSS (l : List ByteArray) (hb : l.length ≤ 2000000) {k : Nat} (hk : l.length + 60 < k) : laws_markStringS.f k l 1 = some (1 + (l.length : Int), cntS l.length) :=
  markSS_go l.length hb l.length 0 k l rfl (by omega) hk (by intro j hj; omega)
theorem heldSS_go (n : Nat) (hb : n ≤ 2000000) : ∀ (d i k : Nat), i + d = n → d + 60 < k → laws_heldStringS.l0 k (cntS n) (1 + (i : Int)) (i : Int) = some (1 + (n : Int)) := by
  intro d
  induction d with
  | zero =>
    intro i k hi hk
    obtain ⟨k, rfl⟩ : ∃ m, k = m + 1 := ⟨k - 1, by omega⟩
    simp only [laws_heldStringS.l0]
    rw [if_neg (by rw [cntS_len]; omega), show i = n from by omega]
  | succ d ih =>
    intro i k hi hk
    obtain ⟨k, rfl⟩ : ∃ m, k = m + 1 := ⟨k - 1, by omega⟩
    simp only [laws_heldStringS.l0]
    rw [if_pos (by rw [cntS_len]; omega), if_pos (by omega), show 1 + (i : Int) = ((1 + i : Nat) : Int) from by omega, markT (by omega) (by omega), Option.bind_some, cntS_at n i (by omega), if_pos rfl, wrap_id (x := ((1 + i : Nat) : Int) + 1) (by omega) (by omega), wrap_id (x := (i : Int) + 1) (by omega) (by omega), show ((1 + i : Nat) : Int) + 1 = 1 + ((i + 1 : Nat) : Int) from by omega]
    exact ih (i + 1) k (by omega) (by omega)
theorem heldSS (n : Nat) (hb : n ≤ 2000000) {k : Nat} (hk : n + 60 < k) : laws_heldStringS.f k (cntS n) 1 = some (1 + (n : Int)) := heldSS_go n hb n 0 k (by omega) hk

set_option maxRecDepth 100000 in
theorem halves7 : ∀ n m : Fin 7, 1 ≤ n.val → m.val ≤ n.val → (n.val - m.val) % 2 = 0 → spec_l04Halves.f 3000 (n.val : Int) (m.val : Int) = some (hl n.val 0 m.val ⟨#[]⟩) := by decide +kernel
theorem halvesL (n m : Nat) (hn : n < 7) (hm : m < 7) (h1 : 1 ≤ n) (h : m ≤ n) (h2 : (n - m) % 2 = 0) : spec_l04Halves.f 3000 (n : Int) (m : Int) = some (hl n 0 m ⟨#[]⟩) := halves7 ⟨n, hn⟩ ⟨m, hm⟩ h1 h h2

end Go.Proofs.Ytdkpgnbamecifaa.PB
