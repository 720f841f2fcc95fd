/- Marks in tables: plain lemmas. No condition. -/
import Derived.Test.YtgllnmefcikdnaaPA
import Derived.Test.YtgllnmefcikdnaaWalkRad
namespace Go.Proofs.Ytgllnmefcikdnaa.PSR
open Go.RowKit Go.Proofs.Ytgllnmefcikdnaa.RW Go.Proofs.Ytgllnmefcikdnaa.Hand Go.Proofs.YtgllnmefcikdnaaW.PrintWords Go.Proofs.YtgllnmefcikdnaaW.PrintLast Go.Proofs.Ytgllnmefcikdnaa.PA


/-- A list of the length n with the numbers from s on. -/
def cnt (s : Int) (n : Nat) : List Int := (List.range n).map fun j : Nat => s + (j : Int)
theorem eqS_refl (l : List Int) (hb : l.length ≤ 2000000) : ∀ (d i k : Nat), i + d = l.length → d < k → laws_eqInt64S.l0 k l l (i : Int) = some true := by
  intro d
  induction d with
  | zero =>
    intro i k hi hk
    obtain ⟨k, rfl⟩ : ∃ m, k = m + 1 := ⟨k - 1, by omega⟩
    simp only [laws_eqInt64S.l0]
    rw [if_neg (by omega)]
  | succ d ih =>
    intro i k hi hk
    obtain ⟨k, rfl⟩ : ∃ m, k = m + 1 := ⟨k - 1, by omega⟩
    simp only [laws_eqInt64S.l0]
    rw [if_pos (by omega), if_pos (by omega), if_pos (by omega), if_pos trivial, wrap_id (by omega) (by omega)]
    exact ih (i + 1) k (by omega) (by omega)
theorem eqS (l : List Int) (hb : l.length ≤ 2000000) {k : Nat} (hk : l.length < k) : laws_eqInt64S.f k l l = some true := by
  unfold laws_eqInt64S.f
  rw [if_pos rfl]
  exact eqS_refl l hb l.length 0 k (by omega) hk
theorem mark_go (s : Int) (h0 : 0 ≤ s) (h1 : s ≤ 2000000) (n : Nat) (hb : n ≤ 2000000) : ∀ (d i k : Nat) (l : List Int), l.length = n → i + d = n → d < k → (∀ j : Nat, j < i → l[j]? = some (s + (j : Int))) →
    laws_markInt64S.l0 k l (s + (i : Int)) (i : Int) = some (s + (n : Int), cnt s n) := by
  intro d
  induction d with
  | zero =>
    intro i k l hl hi hk hv
    obtain ⟨k, rfl⟩ : ∃ m, k = m + 1 := ⟨k - 1, by omega⟩
    simp only [laws_markInt64S.l0]
    rw [if_neg (by omega), show i = n from by omega]
    congr 2
    apply List.ext_getElem?
    intro j
    unfold cnt
    by_cases hj : j < n
    · rw [hv j (by omega)]; simp [hj]
    · rw [List.getElem?_eq_none (by omega), List.getElem?_eq_none (by simp; omega)]
  | succ d ih =>
    intro i k l hl hi hk hv
    obtain ⟨k, rfl⟩ : ∃ m, k = m + 1 := ⟨k - 1, by omega⟩
    simp only [laws_markInt64S.l0]
    rw [if_pos (by omega), if_pos (by omega), wrap_id (x := s + (i : Int) + 1) (by omega) (by omega), wrap_id (x := (i : Int) + 1) (by omega) (by omega), show s + (i : Int) + 1 = s + ((i + 1 : Nat) : Int) from by omega]
    refine ih (i + 1) k _ (by simp [hl]) (by omega) (by omega) ?_
    intro j hj
    rw [Int.toNat_natCast, List.getElem?_set]
    by_cases h : i = j
    · subst h; rw [if_pos rfl, if_pos (by omega)]
    · rw [if_neg h]; exact hv j (by omega)
theorem markS (s : Int) (h0 : 0 ≤ s) (h1 : s ≤ 2000000) (l : List Int) (hb : l.length ≤ 2000000) {k : Nat} (hk : l.length < k) : laws_markInt64S.f k l s = some (s + (l.length : Int), cnt s l.length) := by
  have := mark_go s h0 h1 l.length hb l.length 0 k l rfl (by omega) hk (by intro j hj; omega)
  rw [show s + ((0 : Nat) : Int) = s by omega] at this
  exact this
theorem cnt_len (s : Int) (n : Nat) : (cnt s n).length = n := by simp [cnt]
theorem held_go (s : Int) (h0 : 0 ≤ s) (h1 : s ≤ 2000000) (n : Nat) (hb : n ≤ 2000000) : ∀ (d i k : Nat), i + d = n → d < k → laws_heldInt64S.l0 k (cnt s n) (s + (i : Int)) (i : Int) = some (s + (n : Int)) := by
  intro d
  induction d with
  | zero =>
    intro i k hi hk
    obtain ⟨k, rfl⟩ : ∃ m, k = m + 1 := ⟨k - 1, by omega⟩
    simp only [laws_heldInt64S.l0]
    rw [if_neg (by rw [cnt_len]; omega), show i = n from by omega]
  | succ d ih =>
    intro i k hi hk
    obtain ⟨k, rfl⟩ : ∃ m, k = m + 1 := ⟨k - 1, by omega⟩
    simp only [laws_heldInt64S.l0]
    rw [if_pos (by rw [cnt_len]; omega), if_pos (by omega), if_pos (by unfold rd cnt; rw [Int.toNat_natCast, List.getD_eq_getElem?_getD]; simp [show i < n from by omega]), wrap_id (x := s + (i : Int) + 1) (by omega) (by omega), wrap_id (x := (i : Int) + 1) (by omega) (by omega), show s + (i : Int) + 1 = s + ((i + 1 : Nat) : Int) from by omega]
    exact ih (i + 1) k (by omega) (by omega)
theorem heldS (s : Int) (h0 : 0 ≤ s) (h1 : s ≤ 2000000) (n : Nat) (hb : n ≤ 2000000) {k : Nat} (hk : n < k) : laws_heldInt64S.f k (cnt s n) s = some (s + (n : Int)) := by
  have := held_go s h0 h1 n hb n 0 k (by omega) hk
  rw [show s + ((0 : Nat) : Int) = s by omega] at this
  exact this
theorem eqSS_go (L : List (List Int)) (hb : L.length ≤ 1000) (hr : ∀ r ∈ L, r.length ≤ 1000) : ∀ (d i k : Nat), i + d = L.length → d + 1001 < k → laws_eqInt64SS.l0 k L L (i : Int) = some true := by
  intro d
  induction d with
  | zero =>
    intro i k hi hk
    obtain ⟨k, rfl⟩ : ∃ m, k = m + 1 := ⟨k - 1, by omega⟩
    simp only [laws_eqInt64SS.l0]
    rw [if_neg (by omega)]
  | succ d ih =>
    intro i k hi hk
    obtain ⟨k, rfl⟩ : ∃ m, k = m + 1 := ⟨k - 1, by omega⟩
    simp only [laws_eqInt64SS.l0]
    have hm : rd_L2 L (i : Int) ∈ L := by
      unfold rd_L2
      rw [Int.toNat_natCast, List.getD_eq_getElem?_getD, List.getElem?_eq_getElem (by omega)]
      exact List.getElem_mem _
    rw [if_pos (by omega), if_pos (by omega), if_pos (by omega), eqS _ (by have := hr _ hm; omega) (by have := hr _ hm; omega), Option.bind_some, if_pos rfl, wrap_id (by omega) (by omega)]
    exact ih (i + 1) k (by omega) (by omega)
/-- The marks of a table, and their number. -/
def mr : List (List Int) → Int → List (List Int)
  | [], _ => []
  | r :: rs, s => cnt s r.length :: mr rs (s + (r.length : Int))
def tot (L : List (List Int)) : Nat := (L.map List.length).sum
theorem mr_len : ∀ (L : List (List Int)) (s : Int), (mr L s).length = L.length
  | [], _ => rfl
  | r :: rs, s => by simp [mr, mr_len rs]
theorem tot_le : ∀ (L : List (List Int)), (∀ r ∈ L, r.length ≤ 1000) → tot L ≤ 1000 * L.length
  | [], _ => by simp [tot]
  | r :: rs, h => by
    have h1 := tot_le rs fun x hx => h x (List.mem_cons_of_mem _ hx)
    have h2 := h r (List.mem_cons_self ..)
    simp only [tot, List.map_cons, List.sum_cons, List.length_cons] at *
    omega
theorem getD_app (A B : List (List Int)) (b : List Int) : (A ++ b :: B).getD A.length [] = b := by simp
theorem set_app (A B : List (List Int)) (b c : List Int) : (A ++ b :: B).set A.length c = (A ++ [c]) ++ B := by simp
theorem mark_SS (hP : ∀ (s : Int), 0 ≤ s → s ≤ 2000000 → ∀ (l : List Int), l.length ≤ 2000000 → ∀ {k : Nat}, l.length < k → laws_markInt64S.f k l s = some (s + (l.length : Int), cnt s l.length)) : ∀ (Bs A : List (List Int)) (s : Int) (k : Nat), 0 ≤ s → s + tot Bs ≤ 2000000 → A.length + Bs.length ≤ 1000 → (∀ r ∈ Bs, r.length ≤ 1000) → Bs.length + 1001 < k →
    markSS.l0 k (A ++ Bs) s (A.length : Int) = some (s + (tot Bs : Int), A ++ mr Bs s) := by
  intro Bs
  induction Bs with
  | nil =>
    intro A s k h0 h1 hl hr hk
    obtain ⟨k, rfl⟩ : ∃ m, k = m + 1 := ⟨k - 1, by omega⟩
    simp only [markSS.l0]
    rw [if_neg (by simp), mr, show s + ((tot []) : Int) = s by simp [tot]]
  | cons b Bs ih =>
    intro A s k h0 h1 hl hr hk
    obtain ⟨k, rfl⟩ : ∃ m, k = m + 1 := ⟨k - 1, by omega⟩
    have ht : tot (b :: Bs) = b.length + tot Bs := by simp [tot]
    have hb := hr b (List.mem_cons_self ..)
    simp only [List.length_cons] at hl hk
    simp only [markSS.l0]
    rw [if_pos (by simp; omega), if_pos (by omega), Int.toNat_natCast, getD_app, hP s h0 (by omega) b (by omega) (by omega), Option.bind_some, set_app, wrap_id (by omega) (by omega)]
    have := ih (A ++ [cnt s b.length]) (s + (b.length : Int)) k (by omega) (by omega) (by simp; omega) (fun r hx => hr r (List.mem_cons_of_mem _ hx)) (by omega)
    rw [List.length_append, List.length_singleton] at this
    rw [show (A.length : Int) + 1 = ((A.length + 1 : Nat) : Int) by omega]
    refine this.trans ?_
    rw [ht, mr, List.append_assoc]
    congr 2
    omega
theorem held_SS : ∀ (Bs A : List (List Int)) (s : Int) (k : Nat), 0 ≤ s → s + tot Bs ≤ 2000000 → A.length + Bs.length ≤ 1000 → (∀ r ∈ Bs, r.length ≤ 1000) → Bs.length + 1001 < k →
    laws_heldInt64SS.l0 k (A ++ mr Bs s) s (A.length : Int) = some (s + (tot Bs : Int)) := by
  intro Bs
  induction Bs with
  | nil =>
    intro A s k h0 h1 hl hr hk
    obtain ⟨k, rfl⟩ : ∃ m, k = m + 1 := ⟨k - 1, by omega⟩
    simp only [laws_heldInt64SS.l0]
    rw [if_neg (by simp [mr]), show s + ((tot []) : Int) = s by simp [tot]]
  | cons b Bs ih =>
    intro A s k h0 h1 hl hr hk
    obtain ⟨k, rfl⟩ : ∃ m, k = m + 1 := ⟨k - 1, by omega⟩
    have ht : tot (b :: Bs) = b.length + tot Bs := by simp [tot]
    have hb := hr b (List.mem_cons_self ..)
    simp only [List.length_cons] at hl hk
    simp only [laws_heldInt64SS.l0]
    rw [mr, if_pos (by simp; omega), if_pos (by omega)]
    unfold rd_L2
    rw [Int.toNat_natCast, getD_app, heldS s h0 (by omega) b.length (by omega) (by omega), Option.bind_some, if_neg (by omega), wrap_id (by omega) (by omega)]
    have := ih (A ++ [cnt s b.length]) (s + (b.length : Int)) k (by omega) (by omega) (by simp; omega) (fun r hx => hr r (List.mem_cons_of_mem _ hx)) (by omega)
    rw [List.length_append, List.length_singleton, List.append_assoc, List.singleton_append] at this
    rw [show (A.length : Int) + 1 = ((A.length + 1 : Nat) : Int) by omega]
    refine this.trans ?_
    rw [ht]
    congr 1
    omega
theorem SSlaw (L : List (List Int)) (hb : L.length ≤ 1000) (hr : ∀ r ∈ L, r.length ≤ 1000) {k : Nat} (hk : 2100 ≤ k) : laws_eqInt64SS.f k L L = some true ∧ ∃ (m : Int) (L' : List (List Int)), markSS.l0 k L 1 0 = some (m, L') ∧ laws_heldInt64SS.f k L' 1 = some m ∧ 0 ≤ m := by
  have ht := tot_le L hr
  refine ⟨?_, 1 + (tot L : Int), mr L 1, ?_, ?_, by omega⟩
  · unfold laws_eqInt64SS.f
    rw [if_pos rfl]
    exact eqSS_go L hb hr L.length 0 k (by omega) (by omega)
  · exact mark_SS markS L [] 1 k (by omega) (by omega) (by simpa using hb) hr (by omega)
  · exact held_SS L [] 1 k (by omega) (by omega) (by simpa using hb) hr (by omega)

end Go.Proofs.Ytgllnmefcikdnaa.PSR
