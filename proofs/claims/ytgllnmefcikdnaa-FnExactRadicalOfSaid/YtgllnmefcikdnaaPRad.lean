/- RadicalOf of the program returns what the reference returns. No condition. -/
import Derived.Test.YtgllnmefcikdnaaPR
import Derived.Test.YtgllnmefcikdnaaPF
import Derived.Test.YtgllnmefcikdnaaPSR
namespace Go.Proofs.Ytgllnmefcikdnaa.PRad
open Go.RowKit Go.Proofs.Ytgllnmefcikdnaa.Hand Go.Proofs.YtgllnmefcikdnaaW.PrintWords Go.Proofs.YtgllnmefcikdnaaW.PrintLast Go.Proofs.Ytgllnmefcikdnaa.RW Go.Proofs.Ytgllnmefcikdnaa.PA Go.Proofs.Ytgllnmefcikdnaa.PE Go.Proofs.Ytgllnmefcikdnaa.PG Go.Proofs.Ytgllnmefcikdnaa.PF Go.Proofs.Ytgllnmefcikdnaa.PR Go.Proofs.Ytgllnmefcikdnaa.PSR
set_option linter.unusedVariables false
set_option linter.unusedSimpArgs false

set_option maxRecDepth 100000 in
theorem sym7 : ∀ n m : Fin 7, 1 ≤ n.val → m.val ≤ n.val → (n.val - m.val) % 2 = 0 → ((hl n.val 0 m.val ⟨#[]⟩).all fun a => (hl n.val 0 m.val ⟨#[]⟩).all fun b => pv a b == pv b a) = true := by decide +kernel
theorem symAt {n k : Int} {L : List ByteArray} (h1 : 1 ≤ n) (h6 : n ≤ 6) (hk : 0 ≤ k) (hkn : k ≤ n) (he : (n - k) % 2 = 0) (hL : spec_l04Halves.f 3000 n k = some L) : ∀ a ∈ L, ∀ b ∈ L, pv a b = pv b a := by
  obtain ⟨n, rfl⟩ := Int.eq_ofNat_of_zero_le (show 0 ≤ n by omega)
  obtain ⟨m, rfl⟩ := Int.eq_ofNat_of_zero_le hk
  have hh := halves7 ⟨n, by omega⟩ ⟨m, by omega⟩ (by show 1 ≤ n; omega) (by show m ≤ n; omega) (by show (n - m) % 2 = 0; omega)
  have hp := sym7 ⟨n, by omega⟩ ⟨m, by omega⟩ (by show 1 ≤ n; omega) (by show m ≤ n; omega) (by show (n - m) % 2 = 0; omega)
  simp only at hh hp
  rw [hh] at hL
  obtain rfl := Option.some.inj hL
  intro a ha b hb
  have := List.all_eq_true.1 (List.all_eq_true.1 hp a ha) b hb
  exact beq_iff_eq.1 this
/-- Both tables, with what the radical asks. -/
theorem gramS (p c n k : Int) : (isT p c n k = false) ∨ (isT p c n k = true ∧ ∃ L, Ok p c L ∧ spec_l04Gram.f 3000 p c n k = some (gram p c L) ∧ impl_GramTable.f 3000 p c n k = some (gram p c L, 0) ∧ ∀ a ∈ L, ∀ b ∈ L, pv a b = pv b a) := by
  cases hT : isT p c n k with
  | false => exact Or.inl rfl
  | true =>
    obtain ⟨hp, c0, cp, n1, n6, k0, kn, he⟩ := isT_iff hT
    have hr := isP_range hp
    obtain ⟨L, h1, h2, h3, h4⟩ := halvesAt n1 n6 k0 kn he
    have H : Ok p c L := ⟨hr.1, hr.2, c0, cp, h3.2, h3.1, h4⟩
    refine Or.inr ⟨rfl, L, H, ?_, ?_, symAt n1 n6 k0 kn he h1⟩
    · unfold spec_l04Gram.f
      rw [h1, Option.bind_some]
      have := specRows H L.length 0 (2999 - L.length * 12) (by have := H.len; omega) (by have := H.len; omega)
      rw [show 2999 - L.length * 12 + L.length * 12 + 1 = 3000 by have := H.len; omega] at this
      exact this
    · unfold impl_GramTable.f
      rw [(tableE3 p c n k).2, hT, Option.bind_some, if_pos rfl, h2, Option.bind_some]
      have := implRows H L.length 0 (2999 - L.length * 12) (by have := H.len; omega) (by have := H.len; omega)
      rw [show 2999 - L.length * 12 + L.length * 12 + 1 = 3000 by have := H.len; omega] at this
      exact this
theorem ent_gram2 (p c : Int) (L : List ByteArray) {i j : Nat} (hi : i < L.length) (hj : j < L.length) : ent (gram p c L) i j = en p c L[i] L[j] := by
  unfold ent gram
  simp [List.getD_eq_getElem?_getD, hi, hj]
theorem radE (p c n k : Int) : ∃ (R : List (List Int)) (code : Int), spec_RadicalOf.f p c n k = some (R, code) ∧ impl_RadicalOf.f p c n k = some (R, code) ∧ R.length ≤ 9 ∧ ∀ x ∈ R, x.length ≤ 9 := by
  rcases gramS p c n k with hT | ⟨hT, L, H, hs, hi, hsym⟩
  · refine ⟨[], 2, ?_, ?_, by simp, by simp⟩
    · unfold spec_RadicalOf.f
      rw [(tableE3 p c n k).1, hT]; rfl
    · unfold impl_RadicalOf.f impl_GramTable.f
      rw [(tableE3 p c n k).2, hT]; rfl
  · have hd := gram_dims p c L
    have hp := (isT_iff hT).1
    have hD : Dm (gram p c L).length (gram p c L).length (gram p c L) := by rw [hd.1]; exact dm_gram p c L
    obtain ⟨R, h1, h2, h3, h4⟩ := radical_same hp (ent_gram p c L H) hD (by rw [hd.1]; exact H.pos) (by rw [hd.1]; exact H.len) (by rw [hd.1]; exact hd.2) (fun i j hi hj => by
      rw [hd.1] at hi hj
      rw [ent_gram2 p c L hi hj, ent_gram2 p c L hj hi]
      unfold en
      rw [hsym _ (List.getElem_mem hi) _ (List.getElem_mem hj)])
    refine ⟨R, 0, ?_, ?_, h3, fun x hx => by rw [h4 x hx, hd.1]; exact H.len⟩
    · unfold spec_RadicalOf.f
      rw [(tableE3 p c n k).1, hT, Option.bind_some, if_pos rfl, hs, Option.bind_some, h2]; rfl
    · unfold impl_RadicalOf.f
      rw [hi, Option.bind_some]
      simp only [if_pos]
      rw [h1]; rfl
theorem pure_ : laws_FnExactRadicalOf.Pure := by
  intro p c n k
  obtain ⟨R, code, hs, hi, h9, hr⟩ := radE p c n k
  obtain ⟨he, m, L', hm, hh, h0⟩ := SSlaw R (by omega) (fun r hr2 => by have := hr r hr2; omega) (k := 3000) (by omega)
  exact ⟨3000, R, code, L', m, hs, hi, he, hm, hh, h0⟩
theorem law_walk (a0 a1 a2 a3 : Int) (W : World) : Calls Try.prog 6 #[.int .i64 a0, .int .i64 a1, .int .i64 a2, .int .i64 a3] W fun e w' => e = .returned (.bool true) ∧ Below W.heap.size W w' := laws_FnExactRadicalOf.walk pure_ a0 a1 a2 a3 W

end Go.Proofs.Ytgllnmefcikdnaa.PRad
