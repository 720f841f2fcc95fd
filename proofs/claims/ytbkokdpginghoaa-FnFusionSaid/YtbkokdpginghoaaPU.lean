/- ThetaNumber: the program and the reference say the same; plain lemmas. No condition. -/
import Derived.Test.YtbkokdpginghoaaPT
import Derived.Test.YtbkokdpginghoaaQx1
import Derived.Test.YtbkokdpginghoaaQx2
import Derived.Test.YtbkokdpginghoaaQx3
import Derived.Test.YtbkokdpginghoaaQx5
namespace Go.Proofs.Ytbkokdpginghoaa.PU
open Go.RowKit Go.Proofs.Ytbkokdpginghoaa.Q Go.Proofs.YtbkokdpginghoaaW.PrintWords Go.Proofs.YtbkokdpginghoaaW.PrintLast Go.Proofs.Ytbkokdpginghoaa.PA Go.Proofs.Ytbkokdpginghoaa.PB Go.Proofs.Ytbkokdpginghoaa.PT


theorem eIn : @Hand.impl_in.f = @impl_in.f := by funext a b c; rfl
theorem eRest : @Hand.impl_rest.f = @impl_rest.f := by funext a b; rfl
theorem eAdm : @Hand.impl_admissible.f = @impl_admissible.f := by funext a b c d; rfl
theorem ePrime0 : ∀ k a b, Hand.impl_isPrime.l0 k a b = impl_isPrime.l0 k a b := by
  intro k
  induction k with
  | zero => intro a b; rfl
  | succ k ih => intro a b; simp only [Hand.impl_isPrime.l0, impl_isPrime.l0, ih]
theorem ePrime : @Hand.impl_isPrime.f = @impl_isPrime.f := by funext k a; simp only [Hand.impl_isPrime.f, impl_isPrime.f, ePrime0, eIn]
theorem eField : @Hand.impl_fieldOk.f = @impl_fieldOk.f := by funext k a b; simp only [Hand.impl_fieldOk.f, impl_fieldOk.f, ePrime, eIn]
theorem eCheb0 : ∀ k a b c l, Hand.impl_chebyshev.l0 k a b c l = impl_chebyshev.l0 k a b c l := by
  intro k
  induction k with
  | zero => intro a b c l; rfl
  | succ k ih => intro a b c l; simp only [Hand.impl_chebyshev.l0, impl_chebyshev.l0, ih, eRest]
theorem eCheb : @Hand.impl_chebyshev.f = @impl_chebyshev.f := by funext k a b c; simp only [Hand.impl_chebyshev.f, impl_chebyshev.f, eCheb0]
theorem eZero0 : ∀ k a b c, Hand.impl_firstZero.l0 k a b c = impl_firstZero.l0 k a b c := by
  intro k
  induction k with
  | zero => intro a b c; rfl
  | succ k ih => intro a b c; simp only [Hand.impl_firstZero.l0, impl_firstZero.l0, ih, eCheb]
theorem eZero : @Hand.impl_firstZero.f = @impl_firstZero.f := by funext k a b; simp only [Hand.impl_firstZero.f, impl_firstZero.f, eZero0]
theorem eLab0 : ∀ k a l b c, Hand.impl_labelsOk.l0 k a l b c = impl_labelsOk.l0 k a l b c := by
  intro k
  induction k with
  | zero => intro a l b c; rfl
  | succ k ih => intro a l b c; simp only [Hand.impl_labelsOk.l0, impl_labelsOk.l0, ih, eIn]
theorem eLab : @Hand.impl_labelsOk.f = @impl_labelsOk.f := by funext k a b l; simp only [Hand.impl_labelsOk.f, impl_labelsOk.f, eLab0, eField, eZero]
theorem thetaBoth {p c a b d : Int} : ∃ r, spec_ThetaNumber.f 400 p c a b d = some r ∧ Hand.impl_ThetaNumber.f 400 p c a b d = some r := by
  unfold spec_ThetaNumber.f Hand.impl_ThetaNumber.f
  rw [eLab, eZero, eAdm, eCheb]
  obtain ⟨hi1, hi2⟩ := implLabels (p := p) (c := c) (l := [a, b, d]) (by simp) (k := 400) (by omega)
  rcases specLabels (p := p) (c := c) (l := [a, b, d]) (by simp) (k := 400) (by omega) with ⟨h, hs⟩ | ⟨z, h, hz, hs⟩
  · rw [hs, hi1 h]
    exact ⟨_, rfl, rfl⟩
  · rw [hs, hi2 z h hz]
    obtain ⟨hp, hc⟩ := okPC_spec h
    have hr := isP_range hp
    cases hl : labOk z [a, b, d] with
    | false => exact ⟨_, rfl, rfl⟩
    | true =>
      obtain ⟨r, hr'⟩ := adm_some z a b d
      simp only [Option.bind_some, if_true, adm_eq]
      rw [implZeroF hr hc hz (by omega), Option.bind_some, hr']
      simp only [Option.bind_some]
      cases r with
      | false => exact ⟨_, rfl, rfl⟩
      | true =>
        obtain ⟨x, y, v, ex, ey, ev, h0x, h0y, h0v, hsum⟩ := adm_halves hz.2.1 hl hr'
        have hz99 := hz.2.1
        obtain ⟨F, hF, hlF, hvF⟩ := implChebF hr hc (n := z) (k := 400) (by omega) (by omega) (by omega)
        simp only [if_true]
        rw [hF, Option.bind_some, ex, ey, ev]
        unfold Hand.thetaTail
        have wxy : wrap64 (x + y) = x + y := wrap_id (by omega) (by omega)
        have wyv : wrap64 (y + v) = y + v := wrap_id (by omega) (by omega)
        have wvx : wrap64 (v + x) = v + x := wrap_id (by omega) (by omega)
        rw [wxy, wyv, wvx, wrap_id (x := x + y + v) (by omega) (by omega), wrap_id (x := x - 1) (by omega) (by omega), wrap_id (x := y - 1) (by omega) (by omega), wrap_id (x := v - 1) (by omega) (by omega),
          wrap_id (x := y + v - 1) (by omega) (by omega), wrap_id (x := v + x - 1) (by omega) (by omega), wrap_id (x := x + y - 1) (by omega) (by omega)]
        rw [specProdF hr (x + y + v) (by omega) (by omega) (by omega), specProdF hr (x - 1) (by omega) (by omega) (by omega), specProdF hr (y - 1) (by omega) (by omega) (by omega), specProdF hr (v - 1) (by omega) (by omega) (by omega),
          specProdF hr (y + v - 1) (by omega) (by omega) (by omega), specProdF hr (v + x - 1) (by omega) (by omega) (by omega), specProdF hr (x + y - 1) (by omega) (by omega) (by omega)]
        rw [implProdF hr hvF (x + y + v) (by omega) (by omega) (by omega) (by omega), implProdF hr hvF (x - 1) (by omega) (by omega) (by omega) (by omega), implProdF hr hvF (y - 1) (by omega) (by omega) (by omega) (by omega), implProdF hr hvF (v - 1) (by omega) (by omega) (by omega) (by omega),
          implProdF hr hvF (y + v - 1) (by omega) (by omega) (by omega) (by omega), implProdF hr hvF (v + x - 1) (by omega) (by omega) (by omega) (by omega), implProdF hr hvF (x + y - 1) (by omega) (by omega) (by omega) (by omega)]
        simp only [Option.bind_some]
        rw [if_neg (by omega), if_neg (by omega)]
        have hb : 0 < Int.tmod (wrap64 (Int.tmod (wrap64 (U p c (y + v - 1).toNat * U p c (v + x - 1).toNat)) p * U p c (x + y - 1).toNat)) p ∧ Int.tmod (wrap64 (Int.tmod (wrap64 (U p c (y + v - 1).toNat * U p c (v + x - 1).toNat)) p * U p c (x + y - 1).toNat)) p < p := by
          rw [mulmod hr (U_range hr _) (U_range hr _), mulmod hr (mod_range hr) (U_range hr _)]
          have p1 := U_pos hp hz (y + v - 1).toNat (by omega)
          have p2 := U_pos hp hz (v + x - 1).toNat (by omega)
          have p3 := U_pos hp hz (x + y - 1).toNat (by omega)
          have q1 := prime_ne hp ⟨p1, (U_range hr _).2⟩ ⟨p2, (U_range hr _).2⟩
          have q2 := mod_range (x := U p c (y + v - 1).toNat * U p c (v + x - 1).toNat) hr
          have q3 := prime_ne hp (a := U p c (y + v - 1).toNat * U p c (v + x - 1).toNat % p) ⟨by omega, q2.2⟩ ⟨p3, (U_range hr _).2⟩
          have q4 := mod_range (x := U p c (y + v - 1).toNat * U p c (v + x - 1).toNat % p * U p c (x + y - 1).toNat) hr
          omega
        obtain ⟨iv, hi, hsv⟩ := inv_both hp hb (k := 400) (by omega)
        rw [hi, hsv]
        exact ⟨_, rfl, rfl⟩

end Go.Proofs.Ytbkokdpginghoaa.PU
