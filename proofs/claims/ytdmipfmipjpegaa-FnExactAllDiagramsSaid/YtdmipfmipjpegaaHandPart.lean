/- What impl.partners computes, in the words of the plain reading. No condition. -/
import Derived.Test.YtdmipfmipjpegaaHandReadP
import Derived.Test.YtdmipfmipjpegaaHandQ
namespace Go.Proofs.Ytdmipfmipjpegaa.Hand
open Go.RowKit Go.Proofs.YtdmipfmipjpegaaW.PrintWords Go.Proofs.YtdmipfmipjpegaaW.PrintLast Go.Proofs.YtdmipfmipjpegaaW.PrintMore
set_option linter.unusedVariables false
set_option linter.unusedSimpArgs false

/-- Places as numbers of Go. -/
def cN (l : List Nat) : List Int := l.map (fun (x : Nat) => (x : Int))
theorem cN_len (l : List Nat) : (cN l).length = l.length := List.length_map _
theorem cN_set (l : List Nat) (i v : Nat) : cN (l.set i v) = (cN l).set i (v : Int) := by unfold cN; rw [List.map_set]
theorem cN_take (l : List Nat) (m : Nat) : cN (l.take m) = (cN l).take m := by unfold cN; rw [List.map_take]
theorem cN_snoc (l : List Nat) (i : Nat) : cN (l ++ [i]) = cN l ++ [(i : Int)] := by unfold cN; rw [List.map_append]; rfl
theorem cN_rd (l : List Nat) (j : Nat) : rd (cN l) (j : Int) = ((l.getD j 0 : Nat) : Int) := by
  unfold rd cN
  rw [Int.toNat_natCast, List.getD_eq_getElem?_getD, List.getD_eq_getElem?_getD, List.getElem?_map]
  cases l[j]? <;> rfl
theorem pscan_ok (N : Nat) (t : Nat → Int) : ∀ i p st, pscan N t i = some (p, st) → p.length = N ∧ st.length ≤ i ∧ ∀ j, j < st.length → st.getD j 0 < i := by
  intro i
  induction i with
  | zero =>
    intro p st h
    simp only [pscan, Option.some.injEq, Prod.mk.injEq] at h
    obtain ⟨rfl, rfl⟩ := h
    exact ⟨by simp, by simp, fun j hj => by simp at hj⟩
  | succ i ih =>
    intro p st h
    simp only [pscan] at h
    cases hs : pscan N t i with
    | none => rw [hs] at h; simp at h
    | some q =>
      obtain ⟨p0, st0⟩ := q
      obtain ⟨h1, h2, h3⟩ := ih p0 st0 hs
      rw [hs] at h
      simp only at h
      split at h
      · simp only [Option.some.injEq, Prod.mk.injEq] at h
        obtain ⟨rfl, rfl⟩ := h
        refine ⟨h1, by simp; omega, fun j hj => ?_⟩
        rw [List.length_append, List.length_singleton] at hj
        by_cases hj2 : j < st0.length
        · rw [getD_appN _ _ _ hj2]
          have := h3 j hj2
          omega
        · have : j = st0.length := by omega
          subst this
          simp [List.getD_eq_getElem?_getD]
      · split at h
        · simp only [Option.some.injEq, Prod.mk.injEq] at h
          obtain ⟨rfl, rfl⟩ := h
          refine ⟨by simp [h1], by rw [List.length_take]; omega, fun j hj => ?_⟩
          rw [List.length_take] at hj
          have hj2 : j < st0.length - 1 := by omega
          have h4 := h3 j (by omega)
          rw [List.getD_eq_getElem?_getD, List.getElem?_take_of_lt hj2, ← List.getD_eq_getElem?_getD]
          omega
        · simp at h
theorem pscan_none {N : Nat} {t : Nat → Int} {i : Nat} (h : pscan N t i = none) : ∀ j, i ≤ j → pscan N t j = none := by
  intro j hj
  induction j with
  | zero => rw [show (0 : Nat) = i by omega]; exact h
  | succ j ih =>
    by_cases e : i = j + 1
    · rw [← e]; exact h
    · simp only [pscan, ih (by omega)]
/-- What the program's reading ends with. -/
def fin : Option (List Nat × List Nat) → List Int × Bool
  | none => ([], false)
  | some (p, st) => (cN p, (((cN st).length : Int) == 0))
theorem wrapN {m : Nat} (h : m ≤ 2000000) : wrap64 ((m : Int) + 1) = ((m + 1 : Nat) : Int) := by unfold wrap64; omega
theorem partners_run (s : ByteArray) (hb : s.size ≤ 1048576) : ∀ (d i : Nat) (p st : List Nat), i + d = s.size → pscan s.size (fun i => bt s (i : Int)) i = some (p, st) →
    ∀ k, d < k → impl_partners.l0 k s (cN p) (cN st) (s.size : Int) (i : Int) = some (fin (pscan s.size (fun i => bt s (i : Int)) s.size)) := by
  intro d
  induction d with
  | zero =>
    intro i p st hi h k hk
    obtain ⟨k, rfl⟩ : ∃ m, k = m + 1 := ⟨k - 1, by omega⟩
    obtain rfl : i = s.size := by omega
    simp only [impl_partners.l0]
    rw [if_neg (by omega), h]
    rfl
  | succ d ih =>
    intro i p st hi h k hk
    obtain ⟨k, rfl⟩ : ∃ m, k = m + 1 := ⟨k - 1, by omega⟩
    obtain ⟨g1, g2, g3⟩ := pscan_ok _ _ _ _ _ h
    have hl := cN_len st
    have hlp := cN_len p
    simp only [impl_partners.l0]
    rw [if_pos (by omega), if_pos (by omega), if_pos (by omega)]
    by_cases h40 : bt s (i : Int) = 40
    · have hn : pscan s.size (fun i => bt s (i : Int)) (i + 1) = some (p, st ++ [i]) := by
        simp only [pscan, h]
        rw [if_pos h40]
      rw [if_pos h40, if_pos (by omega), wrapN (by omega), ← cN_snoc]
      exact ih (i + 1) p (st ++ [i]) (by omega) hn k (by omega)
    · rw [if_neg h40]
      by_cases h41 : bt s (i : Int) = 41
      · rw [if_pos h41]
        by_cases h0 : st.length = 0
        · obtain rfl : st = [] := List.eq_nil_of_length_eq_zero h0
          have hn : pscan s.size (fun i => bt s (i : Int)) (i + 1) = none := by
            simp only [pscan, h]
            rw [if_neg h40, if_neg (fun h => h.2 rfl)]
          rw [if_pos (by omega), pscan_none hn s.size (by omega)]
          rfl
        · have hc := g3 (st.length - 1) (by omega)
          have e1 : wrap64 (((cN st).length : Int) - 1) = ((st.length - 1 : Nat) : Int) := by unfold wrap64; omega
          have e2 := cN_rd st (st.length - 1)
          generalize hcc : st.getD (st.length - 1) 0 = c at hc e2
          have hn : pscan s.size (fun i => bt s (i : Int)) (i + 1) = some ((p.set c i).set i c, st.take (st.length - 1)) := by
            simp only [pscan, h]
            rw [if_neg h40, if_pos ⟨h41, fun h => h0 (by rw [h]; rfl)⟩, hcc]
          rw [if_neg (by omega), e1, e2, if_pos (by omega), if_pos (by omega), if_pos (by omega), if_pos (by omega), if_pos (by omega), if_pos (by omega), wrapN (by omega), Int.toNat_natCast, Int.toNat_natCast, Int.toNat_natCast, ← cN_set, ← cN_set, ← cN_take]
          exact ih (i + 1) _ _ (by omega) hn k (by omega)
      · have hn : pscan s.size (fun i => bt s (i : Int)) (i + 1) = none := by
          simp only [pscan, h]
          rw [if_neg h40, if_neg (fun h => h41 h.1)]
        rw [if_neg h41, pscan_none hn s.size (by omega)]
        rfl
theorem partners_f (s : ByteArray) (hb : s.size ≤ 1048576) : impl_partners.f (s.size + 1) s = some (fin (pscan s.size (fun i => bt s (i : Int)) s.size)) := by
  unfold impl_partners.f
  rw [if_pos (by omega), if_pos (by omega), Int.toNat_natCast]
  have := partners_run s hb s.size 0 (List.replicate s.size 0) [] (by omega) rfl (s.size + 1) (by omega)
  rw [show cN (List.replicate s.size 0) = List.replicate s.size (0 : Int) by unfold cN; rw [List.map_replicate]; rfl] at this
  exact this
theorem sizeSame (n : Int) (b : List Int) (hb : b.length = 16) : (dia 0 (List.replicate 16 0)).size = (dia n b).size := by rw [dia_size, dia_size, hb]; rfl
end Go.Proofs.Ytdmipfmipjpegaa.Hand
