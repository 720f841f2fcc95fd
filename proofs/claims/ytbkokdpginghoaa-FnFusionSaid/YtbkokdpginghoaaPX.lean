/- The parts of FnFusion, each from some number of rounds on: plain lemmas. No condition. -/
import Derived.Test.YtbkokdpginghoaaPD
import Derived.Test.YtbkokdpginghoaaPP
import Derived.Test.YtbkokdpginghoaaPV
import Derived.Test.YtbkokdpginghoaaQx1
import Derived.Test.YtbkokdpginghoaaQx11
import Derived.Test.YtbkokdpginghoaaQx2
import Derived.Test.YtbkokdpginghoaaQx3
import Derived.Test.YtbkokdpginghoaaQx4
import Derived.Test.YtbkokdpginghoaaQx7
import Derived.Test.YtbkokdpginghoaaQx8
namespace Go.Proofs.Ytbkokdpginghoaa.PX
open Go.RowKit Go.Proofs.Ytbkokdpginghoaa.Q Go.Proofs.YtbkokdpginghoaaW.PrintWords Go.Proofs.YtbkokdpginghoaaW.PrintLast Go.Proofs.Ytbkokdpginghoaa.PA Go.Proofs.Ytbkokdpginghoaa.PB Go.Proofs.Ytbkokdpginghoaa.PT Go.Proofs.Ytbkokdpginghoaa.PU Go.Proofs.Ytbkokdpginghoaa.PV Go.Proofs.Ytbkokdpginghoaa.PD

set_option linter.unusedVariables false
/-- The labels from d on that are admissible with a and b, behind a list. -/
theorem fuse (a b : Int) {z : Nat} (hz : z ≤ 99) : ∀ (d i : Nat) (xs : List Int), i + d = z → xs.length ≤ i →
    ∃ ys, ys.length ≤ z ∧ ∀ k, d < k → spec_FusionOf.l0 k a b (z : Int) xs (i : Int) = some (ys, 0) ∧ impl_FusionOf.l0 k a b (z : Int) xs (z : Int) (i : Int) = some (ys, 0) := by
  intro d
  induction d with
  | zero =>
    intro i xs hi hx
    refine ⟨xs, by omega, fun k hk => ?_⟩
    obtain ⟨k, rfl⟩ : ∃ m, k = m + 1 := ⟨k - 1, by omega⟩
    simp only [spec_FusionOf.l0, impl_FusionOf.l0]
    exact ⟨if_neg (by omega), if_neg (by omega)⟩
  | succ d ih =>
    intro i xs hi hx
    obtain ⟨r, hr⟩ := adm_some z a b i
    cases r with
    | true =>
      obtain ⟨ys, hy, h⟩ := ih (i + 1) (xs ++ [(i : Int)]) (by omega) (by simp; omega)
      refine ⟨ys, hy, fun k hk => ?_⟩
      obtain ⟨k, rfl⟩ : ∃ m, k = m + 1 := ⟨k - 1, by omega⟩
      have e : wrap64 ((i : Int) + 1) = ((i + 1 : Nat) : Int) := by rw [wrap_id (by omega) (by omega)]; omega
      simp only [spec_FusionOf.l0, impl_FusionOf.l0, adm_eq, hr, Option.bind_some, if_true, e]
      refine ⟨?_, ?_⟩ <;> rw [if_pos (by omega), if_pos (by omega)]
      · exact (h k (by omega)).1
      · exact (h k (by omega)).2
    | false =>
      obtain ⟨ys, hy, h⟩ := ih (i + 1) xs (by omega) (by omega)
      refine ⟨ys, hy, fun k hk => ?_⟩
      obtain ⟨k, rfl⟩ : ∃ m, k = m + 1 := ⟨k - 1, by omega⟩
      have e : wrap64 ((i : Int) + 1) = ((i + 1 : Nat) : Int) := by rw [wrap_id (by omega) (by omega)]; omega
      simp only [spec_FusionOf.l0, impl_FusionOf.l0, adm_eq, hr, Option.bind_some, e]
      refine ⟨?_, ?_⟩ <;> rw [if_pos (by omega), if_neg (by simp)]
      · exact (h k (by omega)).1
      · exact (h k (by omega)).2
/-- Both give one list and one code. -/
theorem fusBoth (p c a b : Int) : ∃ ys e, ys.length ≤ 99 ∧ ∀ k, 400 ≤ k → spec_FusionOf.f k p c a b = some (ys, e) ∧ impl_FusionOf.f k p c a b = some (ys, e) := by
  by_cases h : okPC p c = true
  · obtain ⟨hp, hc⟩ := okPC_spec h
    have hr := isP_range hp
    obtain ⟨z, hz⟩ := zero_ex hp hc
    by_cases hl : labOk z [a, b] = true
    · obtain ⟨ys, hy, hf⟩ := fuse a b hz.2.1 z 0 [] (by omega) (by simp)
      refine ⟨ys, 0, by have := hz.2.1; omega, fun k hk => ?_⟩
      obtain ⟨hi1, hi2⟩ := implLabels (p := p) (c := c) (l := [a, b]) (by simp) (k := k) (by omega)
      have hs : spec_l05Labels.f k p c [a, b] = some ((z : Int), 0) := by
        unfold spec_l05Labels.f
        rw [specCode (by omega), Option.bind_some, if_pos h, if_pos rfl, specZeroF (by omega) hz (by omega), Option.bind_some]
        have := specLab hz.2.1 [a, b] (by simp) 2 0 k rfl (by omega)
        rw [List.drop_zero] at this
        unfold labOk at hl
        rw [hl, if_pos rfl] at this
        exact this
      obtain ⟨h1, h2⟩ := hf k (by have := hz.2.1; omega)
      unfold spec_FusionOf.f impl_FusionOf.f
      rw [hs, hi2 z h hz, hl]
      simp only [Option.bind_some, if_true]
      rw [implZeroF hr hc hz (by omega), Option.bind_some]
      exact ⟨h1, h2⟩
    · refine ⟨[], 2, by simp, fun k hk => ?_⟩
      obtain ⟨hi1, hi2⟩ := implLabels (p := p) (c := c) (l := [a, b]) (by simp) (k := k) (by omega)
      have hs : spec_l05Labels.f k p c [a, b] = some (0, 2) := by
        unfold spec_l05Labels.f
        rw [specCode (by omega), Option.bind_some, if_pos h, if_pos rfl, specZeroF (by omega) hz (by omega), Option.bind_some]
        have := specLab hz.2.1 [a, b] (by simp) 2 0 k rfl (by omega)
        rw [List.drop_zero] at this
        unfold labOk at hl
        rw [if_neg hl] at this
        exact this
      unfold spec_FusionOf.f impl_FusionOf.f
      rw [hs, hi2 z h hz]
      simp only [Option.bind_some]
      rw [if_neg (by omega), if_neg hl]
      exact ⟨rfl, rfl⟩
  · refine ⟨[], 2, by simp, fun k hk => ?_⟩
    obtain ⟨hi1, hi2⟩ := implLabels (p := p) (c := c) (l := [a, b]) (by simp) (k := k) (by omega)
    have h' : okPC p c = false := by simpa using h
    have hs : spec_l05Labels.f k p c [a, b] = some (0, 2) := by
      unfold spec_l05Labels.f
      rw [specCode (by omega), Option.bind_some, h']
      rfl
    unfold spec_FusionOf.f impl_FusionOf.f
    rw [hs, hi1 h']
    exact ⟨rfl, rfl⟩

theorem theta_zero {p c a b d t : Int} (h : Hand.impl_ThetaNumber.f 400 p c a b d = some (t, 0)) : ∃ z, okPC p c = true ∧ IsZ p c z ∧ labOk z [a, b, d] = true ∧ impl_admissible.f z a b d = some true := by
  obtain ⟨hi1, hi2⟩ := implLabels (p := p) (c := c) (l := [a, b, d]) (by simp) (k := 400) (by omega)
  unfold Hand.impl_ThetaNumber.f at h
  rw [eLab, eZero, eAdm, eCheb] at h
  cases hok : okPC p c with
  | false =>
    rw [hi1 hok] at h
    simp at h
  | true =>
    obtain ⟨hp, hc⟩ := okPC_spec hok
    have hr := isP_range hp
    obtain ⟨z, hz⟩ := zero_ex hp hc
    rw [hi2 z hok hz] at h
    cases hl : labOk z [a, b, d] with
    | false => rw [hl] at h; simp at h
    | true =>
      rw [hl] at h
      simp only [Option.bind_some, if_true] at h
      rw [implZeroF hr hc hz (by omega), Option.bind_some] at h
      obtain ⟨r, hr'⟩ := adm_some z a b d
      cases r with
      | false => rw [hr'] at h; simp at h
      | true => exact ⟨z, rfl, hz, hl, hr'⟩
theorem admImpl {p c a b d : Int} (h : okPC p c = true) {z : Nat} (hz : IsZ p c z) (hl : labOk z [a, b, d] = true) (ha : impl_admissible.f z a b d = some true) : impl_IsAdmissible.f 400 p c a b d = some (true, 0) := by
  obtain ⟨hi1, hi2⟩ := implLabels (p := p) (c := c) (l := [a, b, d]) (by simp) (k := 400) (by omega)
  obtain ⟨hp, hc⟩ := okPC_spec h
  have hr := isP_range hp
  unfold impl_IsAdmissible.f
  rw [hi2 z h hz, hl]
  simp only [Option.bind_some, if_true]
  rw [implZeroF hr hc hz (by omega), Option.bind_some, ha]
  rfl
theorem thetaTurn {p c a b d t : Int} (h : Hand.impl_ThetaNumber.f 400 p c a b d = some (t, 0)) :
    Hand.impl_ThetaNumber.f 400 p c b d a = some (t, 0) ∧ Hand.impl_ThetaNumber.f 400 p c b a d = some (t, 0) ∧ impl_IsAdmissible.f 400 p c d b a = some (true, 0) := by
  obtain ⟨z, hok, hz, hl, ha⟩ := theta_zero h
  obtain ⟨la, lb, ld⟩ := labs_of hl
  have l1 := labs_mk lb ld la
  have l2 := labs_mk lb la ld
  have l3 := labs_mk ld lb la
  have a1 := adm_ok hz.2.1 hl l1 ha (by omega) (.inl ⟨rfl, rfl, rfl⟩)
  have a2 := adm_ok hz.2.1 hl l2 ha (by omega) (.inr (.inl ⟨rfl, rfl, rfl⟩))
  have a3 := adm_ok hz.2.1 hl l3 ha (by omega) (.inr (.inr ⟨rfl, rfl, rfl⟩))
  rw [thetaVal hok hz hl ha] at h
  have ht := (Prod.mk.injEq _ _ _ _ ▸ Option.some.inj h).1
  refine ⟨?_, ?_, admImpl hok hz l3 a3⟩
  · rw [thetaVal hok hz l1 a1, E_turn, ht]
  · rw [thetaVal hok hz l2 a2]
    have e1 : X b a d = X a b d := by unfold X; rw [Int.add_comm b a]
    have e2 : X a d b = X d a b := by unfold X; rw [Int.add_comm a d]
    have e3 : X d b a = X b d a := by unfold X; rw [Int.add_comm d b]
    rw [e1, e2, e3, E_swap, ht]
theorem thetaEv (p c a b d : Int) : ∃ r, EvF (fun k => Hand.impl_ThetaNumber.f k p c a b d) r ∧ EvF (fun k => spec_ThetaNumber.f k p c a b d) r ∧ (r.2 = 0 → EvF (fun k => Hand.impl_ThetaNumber.f k p c b d a) r ∧ EvF (fun k => Hand.impl_ThetaNumber.f k p c b a d) r ∧ EvF (fun k => impl_IsAdmissible.f k p c d b a) (true, 0)) := by
  obtain ⟨r, h1, h2⟩ := thetaBoth (p := p) (c := c) (a := a) (b := b) (d := d)
  refine ⟨r, EvF.of (fun k => Hand.impl_ThetaNumber.mono _ _ _ _ _ k) h2, EvF.of (fun k => spec_ThetaNumber.mono _ _ _ _ _ k) h1, fun h0 => ?_⟩
  obtain ⟨t, e⟩ := r
  simp only at h0
  subst h0
  obtain ⟨t1, t2, t3⟩ := thetaTurn h2
  exact ⟨EvF.of (fun k => Hand.impl_ThetaNumber.mono _ _ _ _ _ k) t1, EvF.of (fun k => Hand.impl_ThetaNumber.mono _ _ _ _ _ k) t2, EvF.of (fun k => impl_IsAdmissible.mono _ _ _ _ _ k) t3⟩
theorem lab2 {z : Nat} {a b : Int} : labOk z [a, b] = labOk z [b, a] := by
  unfold labOk
  simp only [List.all_cons, List.all_nil, Bool.and_true]
  rw [Bool.and_comm]
theorem labs2 {z : Nat} {a b : Int} (hl : labOk z [a, b] = true) : (0 ≤ a ∧ a ≤ (z : Int) - 1) ∧ (0 ≤ b ∧ b ≤ (z : Int) - 1) := by
  unfold labOk at hl
  simpa only [List.all_cons, List.all_nil, Bool.and_true, Bool.and_eq_true, decide_eq_true_eq] using hl
theorem adm_comm {z : Nat} (hz : z ≤ 99) {a b d : Int} (hl : labOk z [a, b] = true) (hd : 0 ≤ d ∧ d < (z : Int)) : impl_admissible.f z a b d = impl_admissible.f z b a d := by
  obtain ⟨la, lb⟩ := labs2 hl
  rw [adm_val hz (labs_mk la lb ⟨hd.1, by omega⟩), adm_val hz (labs_mk lb la ⟨hd.1, by omega⟩)]
  congr 1
  exact decide_eq_decide.2 (by omega)
theorem fus_comm {z : Nat} (hz : z ≤ 99) {a b : Int} (hl : labOk z [a, b] = true) : ∀ (k : Nat) (xs : List Int) (i : Int), 0 ≤ i → impl_FusionOf.l0 k a b (z : Int) xs (z : Int) i = impl_FusionOf.l0 k b a (z : Int) xs (z : Int) i := by
  intro k
  induction k with
  | zero => intro xs i _; rfl
  | succ k ih =>
    intro xs i hi
    simp only [impl_FusionOf.l0]
    by_cases h : i < (z : Int)
    · rw [if_pos h, if_pos h, adm_comm hz hl ⟨hi, h⟩]
      have e : wrap64 (i + 1) = i + 1 := wrap_id (by omega) (by omega)
      rw [e]
      simp only [ih _ (i + 1) (by omega)]
    · rw [if_neg h, if_neg h]
theorem fusEv (p c a b : Int) : ∃ ys e, ys.length ≤ 99 ∧ EvF (fun k => impl_FusionOf.f k p c a b) (ys, e) ∧ EvF (fun k => spec_FusionOf.f k p c a b) (ys, e) ∧ EvF (fun k => impl_FusionOf.f k p c b a) (ys, e) := by
  obtain ⟨ys, e, hy, h⟩ := fusBoth p c a b
  refine ⟨ys, e, hy, ⟨400, fun k hk => (h k hk).2⟩, ⟨400, fun k hk => (h k hk).1⟩, 400, fun k hk => ?_⟩
  rw [← (h k hk).2]
  show impl_FusionOf.f k p c b a = impl_FusionOf.f k p c a b
  obtain ⟨hi1, hi2⟩ := implLabels (p := p) (c := c) (l := [a, b]) (by simp) (k := k) (by omega)
  obtain ⟨hj1, hj2⟩ := implLabels (p := p) (c := c) (l := [b, a]) (by simp) (k := k) (by omega)
  unfold impl_FusionOf.f
  cases hok : okPC p c with
  | false => rw [hi1 hok, hj1 hok]; rfl
  | true =>
    obtain ⟨hp, hc⟩ := okPC_spec hok
    have hr := isP_range hp
    obtain ⟨z, hz⟩ := zero_ex hp hc
    rw [hi2 z hok hz, hj2 z hok hz, lab2 (a := b) (b := a)]
    cases hl : labOk z [a, b] with
    | false => rfl
    | true =>
      simp only [Option.bind_some, if_true]
      rw [implZeroF hr hc hz (by omega), Option.bind_some, Option.bind_some]
      exact (fus_comm hz.2.1 hl k [] 0 (by omega)).symm
theorem like_go (l : List Int) (hb : l.length ≤ 1000000) : ∀ (d i k : Nat), i + d = l.length → d < k → laws_likeInts.l0 k l l (i : Int) = some true := by
  intro d
  induction d with
  | zero =>
    intro i k hi hk
    obtain ⟨k, rfl⟩ : ∃ m, k = m + 1 := ⟨k - 1, by omega⟩
    simp only [laws_likeInts.l0]
    rw [if_neg (by omega)]
  | succ d ih =>
    intro i k hi hk
    obtain ⟨k, rfl⟩ : ∃ m, k = m + 1 := ⟨k - 1, by omega⟩
    simp only [laws_likeInts.l0]
    rw [if_pos (by omega), if_pos (by omega), if_pos (by omega), if_pos trivial, wrap_id (by omega) (by omega)]
    exact ih (i + 1) k (by omega) (by omega)
theorem likeEv (l : List Int) (hb : l.length ≤ 1000000) : EvF (fun k => laws_likeInts.f k l l) true := by
  refine ⟨l.length + 1, fun k hk => ?_⟩
  show laws_likeInts.f k l l = some true
  unfold laws_likeInts.f
  rw [if_pos rfl]
  exact like_go l hb l.length 0 k (by omega) (by omega)
theorem zeroEv (p c : Int) : ∃ v e, EvF (fun k => impl_FirstZero.f k p c) (v, e) ∧ EvF (fun k => spec_FirstZero.f k p c) (v, e) ∧ (e = 0 → ¬ v < 1 ∧ EvF (fun k => impl_ChebyshevNumber.f k p c v) (0, 0)) := by
  cases h : okPC p c with
  | false =>
    refine ⟨0, 2, ⟨400, fun k hk => ?_⟩, ⟨400, fun k hk => ?_⟩, fun h => by omega⟩
    · show impl_FirstZero.f k p c = _
      unfold impl_FirstZero.f
      rw [implField (by omega), h]
      rfl
    · show spec_FirstZero.f k p c = _
      unfold spec_FirstZero.f
      rw [specCode (by omega), h]
      rfl
  | true =>
    obtain ⟨hp, hc⟩ := okPC_spec h
    have hr := isP_range hp
    obtain ⟨z, hz⟩ := zero_ex hp hc
    refine ⟨(z : Int), 0, ⟨400, fun k hk => ?_⟩, ⟨400, fun k hk => ?_⟩, fun _ => ⟨by have := hz.1; omega, 1100, fun k hk => ?_⟩⟩
    · show impl_FirstZero.f k p c = _
      unfold impl_FirstZero.f
      rw [implField (by omega), h, Option.bind_some, if_pos rfl, implZeroF hr hc hz (by omega)]
      rfl
    · show spec_FirstZero.f k p c = _
      unfold spec_FirstZero.f
      rw [specCode (by omega), h, Option.bind_some, if_pos rfl, specZeroF (by omega) hz (by omega)]
      rfl
    · show impl_ChebyshevNumber.f k p c (z : Int) = _
      obtain ⟨F, hF, hlF, hvF⟩ := implChebF hr hc (n := z) (k := k) (by have := hz.2.1; omega) (by have := hz.2.1; omega) (by omega)
      unfold impl_ChebyshevNumber.f
      rw [implField (by omega), h, implIn, decide_eq_true (show (0 : Int) ≤ (z : Int) ∧ (z : Int) ≤ 1000 by have := hz.2.1; omega)]
      simp only [Option.bind_some, if_true]
      rw [hF]
      have hrd : rd F (z : Int) = 0 := by
        unfold Go.Proofs.YtbkokdpginghoaaW.PrintWords.rd
        rw [Int.toNat_natCast, hvF z hlF, hz.2.2.1]
      simp only [Option.bind_some]
      rw [if_pos (by omega), if_pos (by omega), hrd]
theorem chebEv (p c n : Int) : ∃ r, EvF (fun k => impl_ChebyshevNumber.f k p c n) r ∧ EvF (fun k => spec_ChebyshevNumber.f k p c n) r := by
  cases h : okPC p c with
  | false =>
    refine ⟨(0, 2), ⟨400, fun k hk => ?_⟩, ⟨400, fun k hk => ?_⟩⟩
    · show impl_ChebyshevNumber.f k p c n = _
      unfold impl_ChebyshevNumber.f
      rw [implField (by omega), h]
      rfl
    · show spec_ChebyshevNumber.f k p c n = _
      unfold spec_ChebyshevNumber.f
      rw [specCode (by omega), h]
      rfl
  | true =>
    obtain ⟨hp, hc⟩ := okPC_spec h
    have hr := isP_range hp
    by_cases hn : 0 ≤ n ∧ n ≤ 1000
    · obtain ⟨m, rfl⟩ := Int.eq_ofNat_of_zero_le hn.1
      refine ⟨((S p c m).2, 0), ⟨1100, fun k hk => ?_⟩, ⟨1100, fun k hk => ?_⟩⟩
      · show impl_ChebyshevNumber.f k p c (m : Int) = _
        obtain ⟨F, hF, hlF, hvF⟩ := implChebF hr hc (n := m) (k := k) (by omega) (by omega) (by omega)
        unfold impl_ChebyshevNumber.f
        rw [implField (by omega), h, implIn, decide_eq_true hn]
        simp only [Option.bind_some, if_true]
        rw [hF]
        have hrd : rd F (m : Int) = (S p c m).2 := by
          unfold Go.Proofs.YtbkokdpginghoaaW.PrintWords.rd
          rw [Int.toNat_natCast, hvF m hlF]
        simp only [Option.bind_some]
        rw [if_pos (by omega), if_pos (by omega), hrd]
      · show spec_ChebyshevNumber.f k p c (m : Int) = _
        unfold spec_ChebyshevNumber.f
        rw [specCode (by omega), h, specIn, decide_eq_true hn]
        simp only [Option.bind_some, if_true]
        rw [specNumberF (by omega) (by omega) (by omega)]
        rfl
    · refine ⟨(0, 2), ⟨400, fun k hk => ?_⟩, ⟨400, fun k hk => ?_⟩⟩
      · show impl_ChebyshevNumber.f k p c n = _
        unfold impl_ChebyshevNumber.f
        rw [implField (by omega), h, implIn, decide_eq_false hn]
        rfl
      · show spec_ChebyshevNumber.f k p c n = _
        unfold spec_ChebyshevNumber.f
        rw [specCode (by omega), h, specIn, decide_eq_false hn]
        rfl
theorem pathEv (z n k : Int) : ∃ r, EvF (fun m => impl_CountPaths.f m z n k) r ∧ EvF (fun m => spec_CountPaths.f m z n k) r := by
  obtain ⟨m, v, h1, h2⟩ := PP.cpBoth z n k
  exact ⟨v, EvF.of (fun m => impl_CountPaths.mono _ _ _ m) h2, EvF.of (fun m => spec_CountPaths.mono _ _ _ m) h1⟩
theorem admEv (p c a b d : Int) : ∃ r, EvF (fun k => impl_IsAdmissible.f k p c a b d) r ∧ EvF (fun k => spec_IsAdmissible.f k p c a b d) r := by
  have h : ∃ r, spec_IsAdmissible.f 400 p c a b d = some r ∧ impl_IsAdmissible.f 400 p c a b d = some r := by
    unfold spec_IsAdmissible.f impl_IsAdmissible.f
    obtain ⟨hi1, hi2⟩ := implLabels (p := p) (c := c) (l := [a, b, d]) (by simp) (k := 400) (by omega)
    rcases specLabels (p := p) (c := c) (l := [a, b, d]) (by simp) (k := 400) (by omega) with ⟨h, hs⟩ | ⟨z, h, hz, hs⟩
    · rw [hs, hi1 h]
      exact ⟨_, rfl, rfl⟩
    · rw [hs, hi2 z h hz]
      obtain ⟨hp, hc⟩ := okPC_spec h
      have hr := isP_range hp
      cases labOk z [a, b, d] with
      | false => exact ⟨_, rfl, rfl⟩
      | true =>
        obtain ⟨r, hr'⟩ := adm_some z a b d
        simp only [Option.bind_some, if_true, adm_eq]
        rw [implZeroF hr hc hz (by omega), Option.bind_some, hr']
        exact ⟨_, rfl, rfl⟩
  obtain ⟨r, h1, h2⟩ := h
  exact ⟨r, EvF.of (fun k => impl_IsAdmissible.mono _ _ _ _ _ k) h2, EvF.of (fun k => spec_IsAdmissible.mono _ _ _ _ _ k) h1⟩
section
variable {s : List Int} (hb : Byt s) (hl : (s.length : Int) ≤ 140737488351232)
include hb hl
theorem dFusion : ∃ p c a b, EvF (fun k => spec_DrawFusionOf.f k s) (p, c, a, b) := by
  obtain ⟨g, hf⟩ := from_out s
  obtain ⟨p, c, i1, g1, hd, i1a, i1b⟩ := draw_out hb hl (Int.le_refl 0) (by omega) g
  obtain ⟨a, i2, g2, ha, i2a, i2b⟩ := label_out hb hl i1a i1b g1 p c
  obtain ⟨b, i3, g3, hb', i3a, i3b⟩ := label_out hb hl i2a i2b g2 p c
  refine ⟨p, c, a, b, EvF.bind hf ?_⟩
  simp only [hd, Option.bind_some]
  refine EvF.bind ha ?_
  refine EvF.bind hb' ?_
  exact EvF.now _
theorem dAdm : ∃ p c a b d, EvF (fun k => spec_DrawIsAdmissible.f k s) (p, c, a, b, d) := by
  obtain ⟨g, hf⟩ := from_out s
  obtain ⟨p, c, i1, g1, hd, i1a, i1b⟩ := draw_out hb hl (Int.le_refl 0) (by omega) g
  obtain ⟨a, i2, g2, ha, i2a, i2b⟩ := label_out hb hl i1a i1b g1 p c
  obtain ⟨b, i3, g3, hb', i3a, i3b⟩ := label_out hb hl i2a i2b g2 p c
  obtain ⟨d, i4, g4, hd', i4a, i4b⟩ := label_out hb hl i3a i3b g3 p c
  refine ⟨p, c, a, b, d, EvF.bind hf ?_⟩
  simp only [hd, Option.bind_some]
  refine EvF.bind ha ?_
  refine EvF.bind hb' ?_
  refine EvF.bind hd' ?_
  exact EvF.now _
theorem dZero : ∃ p c, EvF (fun k => spec_DrawFirstZero.f k s) (p, c) := by
  obtain ⟨g, hf⟩ := from_out s
  obtain ⟨p, c, i1, g1, hd, i1a, i1b⟩ := draw_out hb hl (Int.le_refl 0) (by omega) g
  refine ⟨p, c, EvF.bind hf ?_⟩
  simp only [hd, Option.bind_some]
  exact EvF.now _
theorem dCheb : ∃ p c n, EvF (fun k => spec_DrawChebyshevNumber.f k s) (p, c, n) := by
  obtain ⟨g, hf⟩ := from_out s
  obtain ⟨p, c, i1, g1, hd, i1a, i1b⟩ := draw_out hb hl (Int.le_refl 0) (by omega) g
  obtain ⟨x, i2, g2, e2, i2a, i2b, _⟩ := next_out hb hl i1a i1b g1 10
  obtain ⟨y, i3, g3, e3, i3a, i3b, _⟩ := near_out hb hl i2a i2b g2 1000
  obtain ⟨v, i4, g4, e4, i4a, i4b, _⟩ := pick_out hb hl i3a i3b g3 ([x, y] : List Int) (by simp)
  refine ⟨p, c, v, EvF.bind hf ?_⟩
  simp only [hd, e2, e3, e4, Option.bind_some]
  exact EvF.now _
theorem dPaths : ∃ z n k, EvF (fun m => spec_DrawCountPaths.f m s) (z, n, k) := by
  obtain ⟨g, hf⟩ := from_out s
  obtain ⟨x, i1, g1, e1, i1a, i1b, _⟩ := pick_out hb hl (Int.le_refl 0) (by omega) g ([3, 6, 99] : List Int) (by simp)
  obtain ⟨y, i2, g2, e2, i2a, i2b, _⟩ := near_out hb hl i1a i1b g1 x
  obtain ⟨n, i3, g3, e3, i3a, i3b, _⟩ := near_out hb hl i2a i2b g2 40
  obtain ⟨k, i4, g4, e4, i4a, i4b, _⟩ := near_out hb hl i3a i3b g3 (mn (mx (wrap64 ((wrap64 (1 + y)) - 1)) 0) 10)
  refine ⟨wrap64 (1 + y), n, k, EvF.bind hf ?_⟩
  simp only [e1, e2, e3, e4, Option.bind_some]
  exact EvF.now _
theorem dTheta : ∃ p c a b d, EvF (fun k => spec_DrawThetaNumber.f k s) (p, c, a, b, d) := by
  obtain ⟨g, hf⟩ := from_out s
  obtain ⟨p, c, i1, g1, hd, i1a, i1b⟩ := draw_out hb hl (Int.le_refl 0) (by omega) g
  obtain ⟨a, i2, g2, ha, i2a, i2b⟩ := label_out hb hl i1a i1b g1 p c
  obtain ⟨b, i3, g3, hb', i3a, i3b⟩ := label_out hb hl i2a i2b g2 p c
  obtain ⟨ys, e, hy, _, hfu, _⟩ := fusEv p c a b
  have hno : ∀ i' g', 0 ≤ i' → i' ≤ (s.length : Int) → ∃ d, EvF (fun k => spec_DrawThetaNumber.j0 k p c a b ys false s i' g') (p, c, a, b, d) := by
    intro i' g' h1 h2
    obtain ⟨d, i4, g4, hd', i4a, i4b⟩ := label_out hb hl h1 h2 g' p c
    refine ⟨d, EvF.succ ?_ (fun k => by simp only [spec_DrawThetaNumber.j0]; rw [if_neg (by simp)])⟩
    refine EvF.bind hd' ?_
    exact EvF.now _
  have hmid : ∃ d, EvF (fun k => (if e = 0 then (if (ys.length : Int) > 0 then ((spec_l01Next.f s i3 g3 6).bind fun bt255 => (spec_DrawThetaNumber.j0 k p c a b ys (decide (bt255.1 > 0)) s bt255.2.1 bt255.2.2)) else (spec_DrawThetaNumber.j0 k p c a b ys false s i3 g3)) else (spec_DrawThetaNumber.j0 k p c a b ys false s i3 g3))) (p, c, a, b, d) := by
    by_cases he : e = 0
    · by_cases hy0 : (ys.length : Int) > 0
      · obtain ⟨x, i4, g4, e4, i4a, i4b, _⟩ := next_out hb hl i3a i3b g3 6
        simp only [if_pos he, if_pos hy0, e4, Option.bind_some]
        by_cases hx : x > 0
        · obtain ⟨x5, i5, g5, e5, i5a, i5b, x5a, x5b⟩ := next_out hb hl i4a i4b g4 (ys.length : Int)
          refine ⟨rd ys x5, EvF.succ (g := fun _ => some (p, c, a, b, rd ys x5)) (EvF.now _) (fun k => ?_)⟩
          rw [decide_eq_true hx]
          simp only [spec_DrawThetaNumber.j0]
          rw [if_pos trivial, e5, Option.bind_some, if_pos x5a, if_pos (x5b (by omega))]
        · rw [decide_eq_false hx]
          exact hno _ _ i4a i4b
      · simp only [if_pos he, if_neg hy0]
        exact hno _ _ i3a i3b
    · simp only [if_neg he]
      exact hno _ _ i3a i3b
  obtain ⟨d, hm⟩ := hmid
  refine ⟨p, c, a, b, d, EvF.bind hf ?_⟩
  simp only [hd, Option.bind_some]
  refine EvF.bind ha ?_
  refine EvF.bind hb' ?_
  refine EvF.bind hfu ?_
  exact hm
end

end Go.Proofs.Ytbkokdpginghoaa.PX
