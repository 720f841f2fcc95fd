/- Theta numbers do not depend on the order of the labels: plain lemmas. No condition. -/
import Derived.Test.YtbkokdpginghoaaPU
namespace Go.Proofs.Ytbkokdpginghoaa.PV
open Go.RowKit Go.Proofs.Ytbkokdpginghoaa.Q Go.Proofs.YtbkokdpginghoaaW.PrintWords Go.Proofs.YtbkokdpginghoaaW.PrintLast Go.Proofs.Ytbkokdpginghoaa.PA Go.Proofs.Ytbkokdpginghoaa.PB Go.Proofs.Ytbkokdpginghoaa.PT Go.Proofs.Ytbkokdpginghoaa.PU


/-- Half of what two labels have more than a third one. -/
def X (a b d : Int) : Int := wrap64 (Int.tdiv (wrap64 ((wrap64 (a + b)) - d)) 2)
def inv (p B : Int) : Int := (Hand.impl_inverse.f 400 B p).getD 0
/-- The theta number of three halves. -/
def E (p c x y v : Int) : Int := (U p c (x + y + v).toNat * U p c (x - 1).toNat * U p c (y - 1).toNat * U p c (v - 1).toNat * inv p ((U p c (y + v - 1).toNat * U p c (v + x - 1).toNat * U p c (x + y - 1).toNat) % p)) % p
theorem E_turn (p c x y v : Int) : E p c y v x = E p c x y v := by
  unfold E
  rw [show y + v + x = x + y + v by omega]
  rw [show U p c (x + y + v).toNat * U p c (y - 1).toNat * U p c (v - 1).toNat * U p c (x - 1).toNat = U p c (x + y + v).toNat * U p c (x - 1).toNat * U p c (y - 1).toNat * U p c (v - 1).toNat by ac_rfl]
  rw [show U p c (v + x - 1).toNat * U p c (x + y - 1).toNat * U p c (y + v - 1).toNat = U p c (y + v - 1).toNat * U p c (v + x - 1).toNat * U p c (x + y - 1).toNat by ac_rfl]
theorem E_swap (p c x y v : Int) : E p c x v y = E p c x y v := by
  unfold E
  rw [show x + v + y = x + y + v by omega, show v + y - 1 = y + v - 1 by omega, show y + x - 1 = x + y - 1 by omega, show x + v - 1 = v + x - 1 by omega]
  rw [show U p c (x + y + v).toNat * U p c (x - 1).toNat * U p c (v - 1).toNat * U p c (y - 1).toNat = U p c (x + y + v).toNat * U p c (x - 1).toNat * U p c (y - 1).toNat * U p c (v - 1).toNat by ac_rfl]
  rw [show U p c (y + v - 1).toNat * U p c (x + y - 1).toNat * U p c (v + x - 1).toNat = U p c (y + v - 1).toNat * U p c (v + x - 1).toNat * U p c (x + y - 1).toNat by ac_rfl]
theorem ml2 {p a b : Int} (hp : 2 ≤ p ∧ p ≤ 97) (hb : 0 ≤ b ∧ b < p) : Int.tmod (wrap64 (a % p * b)) p = (a * b) % p := by
  rw [mulmod hp (mod_range hp) hb, ml]
theorem inv_rng : (List.range 98).all (fun p => !isP (p : Int) || (List.range p).all fun b => b == 0 || (match Hand.impl_inverse.f 300 (b : Int) (p : Int) with | some v => decide (0 ≤ v ∧ v < (p : Int)) | none => false)) = true := by decide +kernel
theorem inv_range {p b v : Int} (hp : isP p = true) (hb : 0 < b ∧ b < p) (h : Hand.impl_inverse.f 400 b p = some v) : 0 ≤ v ∧ v < p := by
  have hr := isP_range hp
  obtain ⟨P, rfl⟩ := Int.eq_ofNat_of_zero_le (show 0 ≤ p by omega)
  obtain ⟨B, rfl⟩ := Int.eq_ofNat_of_zero_le (show 0 ≤ b by omega)
  have h1 := List.all_eq_true.1 inv_rng P (List.mem_range.2 (by omega))
  rw [hp, Bool.not_true, Bool.false_or] at h1
  have h1 := List.all_eq_true.1 h1 B (List.mem_range.2 (by omega))
  rw [show (B == 0) = false from beq_eq_false_iff_ne.2 (by omega), Bool.false_or] at h1
  cases hi : Hand.impl_inverse.f 300 (B : Int) (P : Int) with
  | none => rw [hi] at h1; simp at h1
  | some w =>
    have := at_rounds (fun k => Hand.impl_inverse.mono _ _ k) (show 300 ≤ 400 by omega) hi
    have e : w = v := Option.some.inj (this.symm.trans h)
    rw [hi, e] at h1
    exact of_decide_eq_true h1
theorem labs_of {z : Nat} {a b d : Int} (hl : labOk z [a, b, d] = true) : (0 ≤ a ∧ a ≤ (z : Int) - 1) ∧ (0 ≤ b ∧ b ≤ (z : Int) - 1) ∧ (0 ≤ d ∧ d ≤ (z : Int) - 1) := by
  unfold labOk at hl
  simpa only [List.all_cons, List.all_nil, Bool.and_true, Bool.and_eq_true, decide_eq_true_eq] using hl
theorem labs_mk {z : Nat} {a b d : Int} (ha : 0 ≤ a ∧ a ≤ (z : Int) - 1) (hb : 0 ≤ b ∧ b ≤ (z : Int) - 1) (hd : 0 ≤ d ∧ d ≤ (z : Int) - 1) : labOk z [a, b, d] = true := by
  unfold labOk
  simp only [List.all_cons, List.all_nil, Bool.and_true, Bool.and_eq_true, decide_eq_true_eq]
  exact ⟨ha, hb, hd⟩
theorem thetaVal {p c a b d : Int} (h : okPC p c = true) {z : Nat} (hz : IsZ p c z) (hl : labOk z [a, b, d] = true) (ha : impl_admissible.f z a b d = some true) :
    Hand.impl_ThetaNumber.f 400 p c a b d = some (E p c (X a b d) (X b d a) (X d a b), 0) := by
  obtain ⟨hp, hc⟩ := okPC_spec h
  have hr := isP_range hp
  unfold Hand.impl_ThetaNumber.f
  rw [eLab, eZero, eAdm, eCheb]
  obtain ⟨hi1, hi2⟩ := implLabels (p := p) (c := c) (l := [a, b, d]) (by simp) (k := 400) (by omega)
  rw [hi2 z h hz, hl]
  simp only [Option.bind_some, if_true]
  rw [implZeroF hr hc hz (by omega), Option.bind_some, ha]
  simp only [Option.bind_some, if_true]
  obtain ⟨x, y, v, ex, ey, ev, h0x, h0y, h0v, hsum⟩ := adm_halves hz.2.1 hl ha
  have hz99 := hz.2.1
  obtain ⟨F, hF, hlF, hvF⟩ := implChebF hr hc (n := z) (k := 400) (by omega) (by omega) (by omega)
  have eX : X a b d = x := ex
  have eY : X b d a = y := ey
  have eV : X d a b = v := ev
  rw [eX, eY, eV]
  rw [hF, Option.bind_some, ex, ey, ev]
  unfold Hand.thetaTail
  have wxy : wrap64 (x + y) = x + y := wrap_id (by omega) (by omega)
  have wyv : wrap64 (y + v) = y + v := wrap_id (by omega) (by omega)
  have wvx : wrap64 (v + x) = v + x := wrap_id (by omega) (by omega)
  rw [wxy, wyv, wvx, wrap_id (x := x + y + v) (by omega) (by omega), wrap_id (x := x - 1) (by omega) (by omega), wrap_id (x := y - 1) (by omega) (by omega), wrap_id (x := v - 1) (by omega) (by omega),
    wrap_id (x := y + v - 1) (by omega) (by omega), wrap_id (x := v + x - 1) (by omega) (by omega), wrap_id (x := x + y - 1) (by omega) (by omega)]
  rw [implProdF hr hvF (x + y + v) (by omega) (by omega) (by omega) (by omega), implProdF hr hvF (x - 1) (by omega) (by omega) (by omega) (by omega), implProdF hr hvF (y - 1) (by omega) (by omega) (by omega) (by omega), implProdF hr hvF (v - 1) (by omega) (by omega) (by omega) (by omega),
    implProdF hr hvF (y + v - 1) (by omega) (by omega) (by omega) (by omega), implProdF hr hvF (v + x - 1) (by omega) (by omega) (by omega) (by omega), implProdF hr hvF (x + y - 1) (by omega) (by omega) (by omega) (by omega)]
  simp only [Option.bind_some]
  rw [if_neg (by omega)]
  have p1 := U_pos hp hz (y + v - 1).toNat (by omega)
  have p2 := U_pos hp hz (v + x - 1).toNat (by omega)
  have p3 := U_pos hp hz (x + y - 1).toNat (by omega)
  have q1 := prime_ne hp ⟨p1, (U_range hr _).2⟩ ⟨p2, (U_range hr _).2⟩
  have q2 := mod_range (x := U p c (y + v - 1).toNat * U p c (v + x - 1).toNat) hr
  have q3 := prime_ne hp (a := U p c (y + v - 1).toNat * U p c (v + x - 1).toNat % p) ⟨by omega, q2.2⟩ ⟨p3, (U_range hr _).2⟩
  have q4 := mod_range (x := U p c (y + v - 1).toNat * U p c (v + x - 1).toNat % p * U p c (x + y - 1).toNat) hr
  rw [mulmod hr (U_range hr _) (U_range hr _), mulmod hr (mod_range hr) (U_range hr _)]
  obtain ⟨iv, hiv, _⟩ := inv_both hp (b := U p c (y + v - 1).toNat * U p c (v + x - 1).toNat % p * U p c (x + y - 1).toNat % p) ⟨by omega, q4.2⟩ (k := 400) (by omega)
  rw [hiv, Option.bind_some]
  have hivv : inv p ((U p c (y + v - 1).toNat * U p c (v + x - 1).toNat * U p c (x + y - 1).toNat) % p) = iv := by
    unfold inv
    rw [← ml, hiv]
    rfl
  have hivr := inv_range hp ⟨by omega, q4.2⟩ hiv
  unfold E
  rw [hivv, mulmod hr (U_range hr _) (U_range hr _), ml2 hr (U_range hr _), ml2 hr (U_range hr _), ml2 hr hivr]
theorem adm_val {z : Nat} (hz : z ≤ 99) {a b d : Int} (hl : labOk z [a, b, d] = true) : impl_admissible.f z a b d = some (decide ((a + b + d) % 2 = 0 ∧ a ≤ b + d ∧ b ≤ a + d ∧ d ≤ a + b ∧ a + b + d ≤ 2 * ((z : Int) - 1))) := by
  obtain ⟨ha, hb, hd⟩ := labs_of hl
  have wab : wrap64 (a + b) = a + b := wrap_id (by omega) (by omega)
  have wbd : wrap64 (b + d) = b + d := wrap_id (by omega) (by omega)
  have wad : wrap64 (a + d) = a + d := wrap_id (by omega) (by omega)
  have wabd : wrap64 (a + b + d) = a + b + d := wrap_id (by omega) (by omega)
  have wz : wrap64 ((z : Int) - 1) = (z : Int) - 1 := wrap_id (by omega) (by omega)
  have w2z : wrap64 (2 * ((z : Int) - 1)) = 2 * ((z : Int) - 1) := wrap_id (by omega) (by omega)
  unfold impl_admissible.f
  rw [wab, wbd, wad, wabd, wz, w2z, Int.tmod_eq_emod_of_nonneg (by omega)]
  by_cases h1 : (a + b + d) % 2 = 0
  · rw [if_pos h1]
    by_cases h2 : a ≤ b + d
    · rw [if_pos h2]
      by_cases h3 : b ≤ a + d
      · rw [if_pos h3]
        by_cases h4 : d ≤ a + b
        · rw [if_pos h4]
          congr 1
          exact decide_eq_decide.2 ⟨fun h => ⟨h1, h2, h3, h4, h⟩, fun h => h.2.2.2.2⟩
        · rw [if_neg h4, decide_eq_false (fun h => h4 h.2.2.2.1)]
      · rw [if_neg h3, decide_eq_false (fun h => h3 h.2.2.1)]
    · rw [if_neg h2, decide_eq_false (fun h => h2 h.2.1)]
  · rw [if_neg h1, decide_eq_false (fun h => h1 h.1)]
theorem adm_ok {z : Nat} (hz : z ≤ 99) {a b d a' b' d' : Int} (hl : labOk z [a, b, d] = true) (hl' : labOk z [a', b', d'] = true) (h : impl_admissible.f z a b d = some true)
    (hs : a' + b' + d' = a + b + d) (hm : (a' = b ∧ b' = d ∧ d' = a) ∨ (a' = b ∧ b' = a ∧ d' = d) ∨ (a' = d ∧ b' = b ∧ d' = a)) : impl_admissible.f z a' b' d' = some true := by
  rw [adm_val hz hl] at h
  have h2 := of_decide_eq_true (Option.some.inj h)
  rw [adm_val hz hl']
  rw [decide_eq_true (by omega)]

end Go.Proofs.Ytbkokdpginghoaa.PV
