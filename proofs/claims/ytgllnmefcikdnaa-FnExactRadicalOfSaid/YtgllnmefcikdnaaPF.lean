/- The Gram tables are what the eliminations ask: plain lemmas. No condition. -/
import Derived.Test.YtgllnmefcikdnaaPG
import Derived.Test.YtgllnmefcikdnaaPE
namespace Go.Proofs.Ytgllnmefcikdnaa.PF
open Go.RowKit Go.Proofs.Ytgllnmefcikdnaa.Hand Go.Proofs.YtgllnmefcikdnaaW.PrintWords Go.Proofs.YtgllnmefcikdnaaW.PrintLast Go.Proofs.Ytgllnmefcikdnaa.PA Go.Proofs.Ytgllnmefcikdnaa.PG Go.Proofs.Ytgllnmefcikdnaa.PE
set_option linter.unusedVariables false
set_option linter.unusedSimpArgs false


theorem ent_gram (p c : Int) (L : List ByteArray) (H : Ok p c L) : Rg p (gram p c L) := by
  refine Rg.of H.p2 (n := L.length) (m := L.length) ⟨(gram_dims p c L).1, fun j hj => (gram_dims p c L).2 _ ?_⟩ fun j k hj hk => ?_
  · rw [List.getD_eq_getElem?_getD, List.getElem?_eq_getElem (by rw [(gram_dims p c L).1]; exact hj)]
    exact List.getElem_mem _
  · have e : ent (gram p c L) j k = en p c L[j] L[k] := by
      unfold ent gram
      simp [List.getD_eq_getElem?_getD, hj, hk]
    rw [e]
    unfold en
    have h2 := H.p2
    split
    · exact pw_range H.p2 H.c0 _ _ (by omega) (by omega)
    · omega
theorem dm_gram (p c : Int) (L : List ByteArray) : Dm L.length L.length (gram p c L) := by
  refine ⟨(gram_dims p c L).1, fun j hj => (gram_dims p c L).2 _ ?_⟩
  rw [List.getD_eq_getElem?_getD, List.getElem?_eq_getElem (by rw [(gram_dims p c L).1]; exact hj)]
  exact List.getElem_mem _

/-- Both tables, with what the eliminations ask. -/
theorem gramF (p c n k : Int) : (isT p c n k = false ∧ spec_l04Two.f 3000 p c n k = some false ∧ impl_GramTable.f 3000 p c n k = some ([], 2)) ∨ (isP p = true ∧ spec_l04Two.f 3000 p c n k = some true ∧ ∃ T, spec_l04Gram.f 3000 p c n k = some T ∧ impl_GramTable.f 3000 p c n k = some (T, 0) ∧ Rg p T ∧ Dm T.length T.length T ∧ 0 < T.length ∧ T.length ≤ 9 ∧ (∀ r ∈ T, r.length = T.length)) := by
  rcases gramE p c n k with hT | ⟨hT, L, H, hs, hi⟩
  · refine Or.inl ⟨hT, by rw [(tableE3 p c n k).1, hT], ?_⟩
    unfold impl_GramTable.f
    rw [(tableE3 p c n k).2, hT]; rfl
  · have hd := gram_dims p c L
    refine Or.inr ⟨(isT_iff hT).1, by rw [(tableE3 p c n k).1, hT], gram p c L, hs, hi, ent_gram p c L H, ?_, by rw [hd.1]; exact H.pos, by rw [hd.1]; exact H.len, ?_⟩
    · rw [hd.1]; exact dm_gram p c L
    · rw [hd.1]; exact hd.2
theorem detE {p : Int} {T : List (List Int)} (hp : isP p = true) (hR : Rg p T) (hD : Dm T.length T.length T) (h0 : 0 < T.length) (h9 : T.length ≤ 100) (hr : ∀ r ∈ T, r.length = T.length) :
    ∃ d r, detF T p = some d ∧ echF p T = some (d, r) ∧ iechF T p = some r := by
  obtain ⟨h2, h1⟩ := isP_range hp
  refine ⟨(e0 p (iv1 p) T.length T.length 0 T 1 0).1, ((e0 p (iv1 p) T.length T.length 0 T 1 0).2 : Int), ?_, ?_, ?_⟩
  · unfold detF
    rw [if_pos ⟨by omega, h0, h9, hr⟩, Int.emod_eq_of_lt (by omega) (by omega)]
    exact dt0_spec hp h9 T.length 0 T 1 (by omega) hD hR (by omega) (by omega)
  · unfold echF
    rw [if_pos ⟨⟨h2, by omega⟩, h0, h9, hr⟩]
  · unfold iechF
    rw [if_pos ⟨⟨h2, by omega⟩, h0, h9, hr⟩, rank_spec hp T.length 0 0 T T 1 (by omega) hD hD hR hR fun _ _ _ => rfl]

end Go.Proofs.Ytgllnmefcikdnaa.PF
