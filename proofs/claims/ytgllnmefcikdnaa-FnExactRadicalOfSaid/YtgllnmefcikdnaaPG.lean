/- The Gram tables of the program and the reference: plain lemmas. No condition. -/
import Derived.Test.YtgllnmefcikdnaaHandGram
import Derived.Test.YtgllnmefcikdnaaPA
namespace Go.Proofs.Ytgllnmefcikdnaa.PG
open Go.RowKit Go.Proofs.Ytgllnmefcikdnaa.Hand Go.Proofs.YtgllnmefcikdnaaW.PrintWords Go.Proofs.YtgllnmefcikdnaaW.PrintLast Go.Proofs.Ytgllnmefcikdnaa.PA
set_option linter.unusedVariables false
set_option linter.unusedSimpArgs false


set_option maxRecDepth 100000 in
theorem halves7 : ∀ n m : Fin 7, 1 ≤ n.val → m.val ≤ n.val → (n.val - m.val) % 2 = 0 → spec_l04Halves.f 3000 (n.val : Int) (m.val : Int) = some (hl n.val 0 m.val ⟨#[]⟩) := by decide +kernel
/-- What both tell of two half diagrams. -/
def pv (a b : ByteArray) : Bool × Int := (spec_l04Pair.f a b).getD (false, 0)
def pvok (L : List ByteArray) : Bool := L.all fun a => L.all fun b => (spec_l04Pair.f a b == some (pv a b)) && (impl_paired.f a b == some (pv a b)) && decide (0 ≤ (pv a b).2 ∧ (pv a b).2 ≤ 8)
set_option maxRecDepth 100000 in
theorem pairs7 : ∀ n m : Fin 7, 1 ≤ n.val → m.val ≤ n.val → (n.val - m.val) % 2 = 0 → (pvok (hl n.val 0 m.val ⟨#[]⟩) && decide (0 < (hl n.val 0 m.val ⟨#[]⟩).length ∧ (hl n.val 0 m.val ⟨#[]⟩).length ≤ 9)) = true := by decide +kernel
theorem halvesAt {n k : Int} (h1 : 1 ≤ n) (h6 : n ≤ 6) (hk : 0 ≤ k) (hkn : k ≤ n) (he : (n - k) % 2 = 0) : ∃ L : List ByteArray, spec_l04Halves.f 3000 n k = some L ∧ impl_halves.f n k = some L ∧ (0 < L.length ∧ L.length ≤ 9) ∧ ∀ a ∈ L, ∀ b ∈ L, spec_l04Pair.f a b = some (pv a b) ∧ impl_paired.f a b = some (pv a b) ∧ 0 ≤ (pv a b).2 ∧ (pv a b).2 ≤ 8 := by
  obtain ⟨n, rfl⟩ := Int.eq_ofNat_of_zero_le (show 0 ≤ n by omega)
  obtain ⟨m, rfl⟩ := Int.eq_ofNat_of_zero_le hk
  have hh := halves7 ⟨n, by omega⟩ ⟨m, by omega⟩ (by show 1 ≤ n; omega) (by show m ≤ n; omega) (by show (n - m) % 2 = 0; omega)
  have hp := pairs7 ⟨n, by omega⟩ ⟨m, by omega⟩ (by show 1 ≤ n; omega) (by show m ≤ n; omega) (by show (n - m) % 2 = 0; omega)
  simp only at hh hp
  rw [Bool.and_eq_true, decide_eq_true_eq] at hp
  refine ⟨hl n 0 m ⟨#[]⟩, hh, ?_, hp.2, ?_⟩
  · unfold impl_halves.f
    rw [if_pos (by omega), Int.toNat_natCast, Int.toNat_natCast]
  · intro a ha b hb
    have := List.all_eq_true.1 (List.all_eq_true.1 hp.1 a ha) b hb
    simp only [Bool.and_eq_true, beq_iff_eq, decide_eq_true_eq] at this
    exact ⟨this.1.1, this.1.2, this.2⟩
/-- Powers as both count them. -/
def pw (p c : Int) : Nat → Int → Int
  | 0, x => x
  | m + 1, x => pw p c m (Int.tmod (x * c) p)
theorem pw_range {p c : Int} (hp : 2 ≤ p) (hc : 0 ≤ c) : ∀ (m : Nat) (x : Int), 0 ≤ x → x < p → 0 ≤ pw p c m x ∧ pw p c m x < p
  | 0, x, h0, h1 => ⟨h0, h1⟩
  | m + 1, x, h0, h1 => by
    have hx : 0 ≤ x * c := Int.mul_nonneg h0 hc
    exact pw_range hp hc m _ (by rw [Int.tmod_eq_emod_of_nonneg hx]; exact Int.emod_nonneg _ (by omega)) (by rw [Int.tmod_eq_emod_of_nonneg hx]; exact Int.emod_lt_of_pos _ (by omega))
theorem mul_small {p c x : Int} (hp : p ≤ 97) (hc : 0 ≤ c) (hcp : c < p) (h0 : 0 ≤ x) (h1 : x < p) : 0 ≤ x * c ∧ x * c ≤ 10000 := by
  constructor
  · exact Int.mul_nonneg h0 hc
  · have h2 : x * c ≤ 97 * c := Int.mul_le_mul_of_nonneg_right (by omega) hc
    omega
theorem specPow {p c : Int} (hp : 2 ≤ p) (hp97 : p ≤ 97) (hc : 0 ≤ c) (hcp : c < p) : ∀ (m k : Nat) (x : Int), m ≤ 100 → m < k → 0 ≤ x → x < p → spec_l02Power.l0 k p c (m : Int) x = some (pw p c m x) := by
  intro m
  induction m with
  | zero =>
    intro k x hm hk h0 h1
    obtain ⟨k, rfl⟩ : ∃ m, k = m + 1 := ⟨k - 1, by omega⟩
    simp only [spec_l02Power.l0]
    rw [if_neg (by omega), pw]
  | succ m ih =>
    intro k x hm hk h0 h1
    obtain ⟨k, rfl⟩ : ∃ m, k = m + 1 := ⟨k - 1, by omega⟩
    have hx := mul_small hp97 hc hcp h0 h1
    simp only [spec_l02Power.l0]
    rw [if_pos (by omega), if_neg (by omega), wrap_id (x := x * c) (by omega) (by omega), wrap_id (by omega) (by omega), show ((m + 1 : Nat) : Int) - 1 = (m : Int) by omega]
    exact ih k _ (by omega) (by omega) (by rw [Int.tmod_eq_emod_of_nonneg hx.1]; exact Int.emod_nonneg _ (by omega)) (by rw [Int.tmod_eq_emod_of_nonneg hx.1]; exact Int.emod_lt_of_pos _ (by omega))
theorem implPow {p c : Int} (hp : 2 ≤ p) (hp97 : p ≤ 97) (hc : 0 ≤ c) (hcp : c < p) (l : Int) (hl : l ≤ 100) : ∀ (m k : Nat) (x i : Int), 0 ≤ i → i + m = l → m < k → 0 ≤ x → x < p → impl_power.l0 k c p x l i = some (pw p c m x) := by
  intro m
  induction m with
  | zero =>
    intro k x i hi him hk h0 h1
    obtain ⟨k, rfl⟩ : ∃ m, k = m + 1 := ⟨k - 1, by omega⟩
    simp only [impl_power.l0]
    rw [if_neg (by omega), pw]
  | succ m ih =>
    intro k x i hi him hk h0 h1
    obtain ⟨k, rfl⟩ : ∃ m, k = m + 1 := ⟨k - 1, by omega⟩
    have hx := mul_small hp97 hc hcp h0 h1
    simp only [impl_power.l0]
    rw [if_pos (by omega), if_neg (by omega), wrap_id (x := x * c) (by omega) (by omega), wrap_id (by omega) (by omega)]
    exact ih k _ (i + 1) (by omega) (by omega) (by omega) (by rw [Int.tmod_eq_emod_of_nonneg hx.1]; exact Int.emod_nonneg _ (by omega)) (by rw [Int.tmod_eq_emod_of_nonneg hx.1]; exact Int.emod_lt_of_pos _ (by omega))
/-- An entry of the Gram table. -/
def en (p c : Int) (a b : ByteArray) : Int := if (pv a b).1 = true then pw p c (pv a b).2.toNat 1 else 0
def gram (p c : Int) (L : List ByteArray) : List (List Int) := L.map fun a => L.map fun b => en p c a b
/-- What is known of the numbers of a table. -/
structure Ok (p c : Int) (L : List ByteArray) : Prop where
  p2 : 2 ≤ p
  p97 : p ≤ 97
  c0 : 0 ≤ c
  cp : c < p
  len : L.length ≤ 9
  pos : 0 < L.length
  pair : ∀ a ∈ L, ∀ b ∈ L, spec_l04Pair.f a b = some (pv a b) ∧ impl_paired.f a b = some (pv a b) ∧ 0 ≤ (pv a b).2 ∧ (pv a b).2 ≤ 8
theorem rdOf_mem {L : List ByteArray} {i : Nat} (h : i < L.length) : rdOf ByteArray.empty L (i : Int) = L[i] := by
  unfold rdOf
  rw [Int.toNat_natCast, List.getD_eq_getElem?_getD, List.getElem?_eq_getElem h]
  rfl
theorem set_next (A : List Int) (d : Nat) (t : Int) : (A ++ List.replicate (d + 1) 0).set A.length t = (A ++ [t]) ++ List.replicate d 0 := by
  rw [List.set_append_right _ _ (Nat.le_refl _), Nat.sub_self, List.replicate_succ, List.set_cons_zero, List.append_assoc, List.singleton_append]
theorem take_next {α β : Type} (f : α → β) (L : List α) (j : Nat) (h : j < L.length) : (L.take (j + 1)).map f = (L.take j).map f ++ [f L[j]] := by
  rw [List.take_succ_eq_append_getElem h, List.map_append]; rfl
theorem specRow {p c : Int} {L : List ByteArray} (H : Ok p c L) (out : List (List Int)) (i : Nat) (hi : i < L.length) (ho : out.length ≤ 100) : ∀ (d j k : Nat), j + d = L.length → 20 ≤ k →
    spec_l04Gram.l1 (k + d + 1) p c L out (i : Int) ((L.take j).map (fun b => en p c L[i] b) ++ List.replicate d 0) (j : Int) = spec_l04Gram.l0 k p c L (out ++ [L.map fun b => en p c L[i] b]) ((i + 1 : Nat) : Int) := by
  have hlen := H.len
  intro d
  induction d with
  | zero =>
    intro j k hj hk
    simp only [spec_l04Gram.l1]
    rw [if_neg (by omega), if_pos (by omega), wrap_id (by omega) (by omega), List.replicate_zero, List.append_nil, List.take_of_length_le (by omega)]
    rfl
  | succ d ih =>
    intro j k hj hk
    have hjl : j < L.length := by omega
    have hp := H.pair L[i] (List.getElem_mem _) L[j] (List.getElem_mem _)
    have hl : ((L.take j).map fun b => en p c L[i] b).length = j := by simp; omega
    have next := ih (j + 1) k (by omega) hk
    rw [show k + (d + 1) + 1 = (k + d + 1) + 1 by omega]
    generalize hK : k + d + 1 = K at next ⊢
    simp only [spec_l04Gram.l1]
    rw [if_pos (by omega), if_pos (by omega), if_pos (by omega), if_pos (by omega), rdOf_mem hi, rdOf_mem hjl, hp.1, Option.bind_some, wrap_id (by omega) (by omega), show (j : Int) + 1 = ((j + 1 : Nat) : Int) by omega]
    by_cases hg : (pv L[i] L[j]).1 = true
    · rw [if_pos hg]
      obtain ⟨m, hm⟩ := Int.eq_ofNat_of_zero_le hp.2.2.1
      have hpow := specPow H.p2 H.p97 H.c0 H.cp m K 1 (by omega) (by omega) (by omega) (by have := H.p2; omega)
      unfold spec_l02Power.f
      rw [if_neg (by have := H.p2; omega), Int.emod_eq_of_lt (by omega) (by have := H.p2; omega), hm, hpow, Option.bind_some, if_pos (by rw [List.length_append, hl, List.length_replicate]; omega), Int.toNat_natCast]
      have e : en p c L[i] L[j] = pw p c m 1 := by unfold en; rw [if_pos hg, hm, Int.toNat_natCast]
      rw [take_next _ L j hjl, e] at next
      have hs := set_next ((L.take j).map fun b => en p c L[i] b) d (pw p c m 1)
      rw [hl] at hs
      rw [hs]
      exact next
    · rw [if_neg hg]
      have e : en p c L[i] L[j] = 0 := by unfold en; rw [if_neg hg]
      rw [take_next _ L j hjl, e, List.append_assoc] at next
      exact next
theorem specRows {p c : Int} {L : List ByteArray} (H : Ok p c L) : ∀ (d i k : Nat), i + d = L.length → 20 ≤ k →
    spec_l04Gram.l0 (k + d * 12 + 1) p c L ((L.take i).map fun a => L.map fun b => en p c a b) (i : Int) = some (gram p c L) := by
  have hlen := H.len
  intro d
  induction d with
  | zero =>
    intro i k hi hk
    simp only [spec_l04Gram.l0]
    rw [if_neg (by omega), List.take_of_length_le (by omega)]
    rfl
  | succ d ih =>
    intro i k hi hk
    have hil : i < L.length := by omega
    rw [show k + (d + 1) * 12 + 1 = (k + d * 12 + 12) + 1 by omega]
    generalize hK : k + d * 12 + 12 = K
    simp only [spec_l04Gram.l0]
    rw [if_pos (by omega), if_pos (by omega), Int.toNat_natCast, if_pos (by omega), show K = (k + (11 - L.length) + d * 12) + L.length + 1 by omega]
    have h := specRow H ((L.take i).map fun a => L.map fun b => en p c a b) i hil (by simp; omega) L.length 0 (k + (11 - L.length) + d * 12) (by omega) (by omega)
    simp only [List.take_zero, List.map_nil, List.nil_append, Int.natCast_zero] at h
    rw [h, ← take_next _ L i hil, show k + (11 - L.length) + d * 12 = (k + 10 - L.length) + d * 12 + 1 by omega]
    exact ih (i + 1) (k + 10 - L.length) (by omega) (by omega)
theorem implRow {p c : Int} {L : List ByteArray} (H : Ok p c L) (out : List (List Int)) (i : Nat) (hi : i < L.length) (ho : out.length ≤ 100) : ∀ (d j k : Nat), j + d = L.length → 20 ≤ k →
    impl_GramTable.l1 (k + d + 1) p c L out L[i] ((L.take j).map (fun b => en p c L[i] b)) L (L.length : Int) (i : Int) L (L.length : Int) (j : Int) = impl_GramTable.l0 k p c L (out ++ [L.map fun b => en p c L[i] b]) L (L.length : Int) ((i + 1 : Nat) : Int) := by
  have hlen := H.len
  intro d
  induction d with
  | zero =>
    intro j k hj hk
    simp only [impl_GramTable.l1]
    rw [if_neg (by omega), if_pos (by omega), wrap_id (by omega) (by omega), List.take_of_length_le (by omega)]
    rfl
  | succ d ih =>
    intro j k hj hk
    have hjl : j < L.length := by omega
    have hp := H.pair L[i] (List.getElem_mem _) L[j] (List.getElem_mem _)
    have hl : ((L.take j).map fun b => en p c L[i] b).length = j := by simp; omega
    have next := ih (j + 1) k (by omega) hk
    rw [show k + (d + 1) + 1 = (k + d + 1) + 1 by omega]
    generalize hK : k + d + 1 = K at next ⊢
    simp only [impl_GramTable.l1]
    rw [if_pos (by omega), if_pos (by omega), if_pos (by omega), rdOf_mem hjl, hp.2.1, Option.bind_some, wrap_id (by omega) (by omega), show (j : Int) + 1 = ((j + 1 : Nat) : Int) by omega, hl]
    rw [take_next _ L j hjl] at next
    by_cases hg : (pv L[i] L[j]).1 = true
    · rw [if_pos hg]
      obtain ⟨m, hm⟩ := Int.eq_ofNat_of_zero_le hp.2.2.1
      have hpow := implPow H.p2 H.p97 H.c0 H.cp (m : Int) (by omega) m K 1 0 (by omega) (by omega) (by omega) (by omega) (by have := H.p2; omega)
      unfold impl_power.f
      rw [hm, hpow, Option.bind_some, if_pos (by omega)]
      have e : en p c L[i] L[j] = pw p c m 1 := by unfold en; rw [if_pos hg, hm, Int.toNat_natCast]
      rw [e] at next
      exact next
    · rw [if_neg hg, if_pos (by omega)]
      have e : en p c L[i] L[j] = 0 := by unfold en; rw [if_neg hg]
      rw [e] at next
      exact next
theorem implRows {p c : Int} {L : List ByteArray} (H : Ok p c L) : ∀ (d i k : Nat), i + d = L.length → 20 ≤ k →
    impl_GramTable.l0 (k + d * 12 + 1) p c L ((L.take i).map fun a => L.map fun b => en p c a b) L (L.length : Int) (i : Int) = some (gram p c L, 0) := by
  have hlen := H.len
  intro d
  induction d with
  | zero =>
    intro i k hi hk
    simp only [impl_GramTable.l0]
    rw [if_neg (by omega), List.take_of_length_le (by omega)]
    rfl
  | succ d ih =>
    intro i k hi hk
    have hil : i < L.length := by omega
    rw [show k + (d + 1) * 12 + 1 = (k + d * 12 + 12) + 1 by omega]
    generalize hK : k + d * 12 + 12 = K
    simp only [impl_GramTable.l0]
    rw [if_pos (by omega), if_pos (by omega), if_pos (by omega), rdOf_mem hil, show K = (k + (11 - L.length) + d * 12) + L.length + 1 by omega]
    have h := implRow H ((L.take i).map fun a => L.map fun b => en p c a b) i hil (by simp; omega) L.length 0 (k + (11 - L.length) + d * 12) (by omega) (by omega)
    simp only [List.take_zero, List.map_nil, Int.natCast_zero] at h
    rw [h, ← take_next _ L i hil, show k + (11 - L.length) + d * 12 = (k + 10 - L.length) + d * 12 + 1 by omega]
    exact ih (i + 1) (k + 10 - L.length) (by omega) (by omega)
theorem up_f {α : Type} {f : Nat → Option α} (hm : ∀ k, LeO (f k) (f (k + 1))) {r : α} {k : Nat} (h : f k = some r) : ∀ d, f (k + d) = some r := by
  intro d
  induction d with
  | zero => exact h
  | succ d ih => exact hm (k + d) r ih
theorem tableE3 (p c n k : Int) : spec_l04Two.f 3000 p c n k = some (isT p c n k) ∧ impl_tableOk.f 3000 p c n k = some (isT p c n k) :=
  ⟨up_f (f := fun x => spec_l04Two.f x p c n k) (spec_l04Two.mono p c n k) (tableE p c n k).1 2700, up_f (f := fun x => impl_tableOk.f x p c n k) (impl_tableOk.mono p c n k) (tableE p c n k).2 2700⟩
/-- Both tables: out of the ranges an error, else one list of half diagrams. -/
theorem gramE (p c n k : Int) : (isT p c n k = false) ∨ (isT p c n k = true ∧ ∃ L, Ok p c L ∧ spec_l04Gram.f 3000 p c n k = some (gram p c L) ∧ impl_GramTable.f 3000 p c n k = some (gram p c L, 0)) := by
  cases hT : isT p c n k with
  | false => exact Or.inl rfl
  | true =>
    obtain ⟨hp, c0, cp, n1, n6, k0, kn, he⟩ := isT_iff hT
    have hr := isP_range hp
    obtain ⟨L, h1, h2, h3, h4⟩ := halvesAt n1 n6 k0 kn he
    have H : Ok p c L := ⟨hr.1, hr.2, c0, cp, h3.2, h3.1, h4⟩
    refine Or.inr ⟨rfl, L, H, ?_, ?_⟩
    · unfold spec_l04Gram.f
      rw [h1, Option.bind_some]
      have := specRows H L.length 0 (2999 - L.length * 12) (by omega) (by omega)
      rw [show 2999 - L.length * 12 + L.length * 12 + 1 = 3000 by omega] at this
      exact this
    · unfold impl_GramTable.f
      rw [(tableE3 p c n k).2, hT, Option.bind_some, if_pos rfl, h2, Option.bind_some]
      have := implRows H L.length 0 (2999 - L.length * 12) (by omega) (by omega)
      rw [show 2999 - L.length * 12 + L.length * 12 + 1 = 3000 by omega] at this
      exact this
theorem gram_dims (p c : Int) (L : List ByteArray) : (gram p c L).length = L.length ∧ ∀ r ∈ gram p c L, r.length = L.length := by
  unfold gram
  constructor
  · simp
  · intro r hr
    rw [List.mem_map] at hr
    obtain ⟨a, _, rfl⟩ := hr
    simp

end Go.Proofs.Ytgllnmefcikdnaa.PG
