/- What holds of meanders, their orders and their turns: plain lemmas. No condition. -/
import Derived.Test.YtopcnhppbmmbbaaPF
namespace Go.Proofs.Ytopcnhppbmmbbaa.PG
open Go.RowKit Go.Proofs.Ytopcnhppbmmbbaa.Q Go.Proofs.Ytopcnhppbmmbbaa.Hand Go.Proofs.YtopcnhppbmmbbaaW.PrintWords Go.Proofs.YtopcnhppbmmbbaaW.PrintLast Go.Proofs.Ytopcnhppbmmbbaa.PA Go.Proofs.Ytopcnhppbmmbbaa.PC Go.Proofs.Ytopcnhppbmmbbaa.PD Go.Proofs.Ytopcnhppbmmbbaa.PE Go.Proofs.Ytopcnhppbmmbbaa.PF
set_option linter.unusedVariables false
set_option linter.unusedSimpArgs false

/-! #### systems -/
structure Sysm (s : ByteArray) (p : List Int) : Prop where
  pr : ∀ k, s.size < k → impl_partners.f k s = some (p, true)
  ar : ∀ k, s.size < k → spec_l08Arcs.f k s = some (p ++ List.replicate (12 - s.size) 0, true)
  is1 : ∀ k, s.size < k → spec_l08Is.f k s = some true
  is2 : ∀ k, s.size < k → impl_IsSystem.f k s = some true
  n2 : 2 ≤ s.size
  n12 : s.size ≤ 12
  ev : s.size % 2 = 0
  len : p.length = s.size
  prs : Pairs s.size p
theorem sysOf (s : ByteArray) (hb : s.size ≤ 1048576) : (∃ p, Sysm s p) ∨ ((∀ k, s.size < k → spec_l08Is.f k s = some false) ∧ (∀ k, s.size < k → impl_IsSystem.f k s = some false)) := by
  obtain ⟨o, p, t, y, h1, h2, h3, h4, h5⟩ := sysBoth s hb
  obtain ⟨o', r, y', k1, k2, k3, k4⟩ := arcs s hb
  have e1 : r = (p, t) := by
    have := k2 (s.size + 1) (by omega)
    rw [h2 (s.size + 1) (by omega)] at this
    exact (Option.some.inj this).symm
  have e2 : y' = y := by
    have := k1 (s.size + 1) (by omega)
    rw [h1 (s.size + 1) (by omega)] at this
    exact (Prod.mk.inj (Option.some.inj this)).2.symm
  cases y with
  | false => exact .inr ⟨h3, h4⟩
  | true =>
    obtain ⟨u1, u2, u3, u4, u5⟩ := h5 rfl
    obtain ⟨v1, _, _, v4, _, _, _⟩ := k4 e2
    rw [e1] at v1
    have ht : t = true := v1
    subst ht
    exact .inl ⟨p, h2, by intro k hk; rw [h1 k hk, u5], h3, h4, u1, u2, v4, u3, u4⟩
theorem sysMk (s : ByteArray) (p : List Int) {k0 : Nat} (hk : s.size < k0) (h : impl_partners.f k0 s = some (p, true)) (n2 : 2 ≤ s.size) (n12 : s.size ≤ 12) (ev : s.size % 2 = 0) : Sysm s p := by
  obtain ⟨o', r, y', k1, k2, k3, k4⟩ := arcs s (by omega)
  have e1 : r = (p, true) := by
    have := k2 k0 hk
    rw [h] at this
    exact (Option.some.inj this).symm
  have hy : y' = true := by rw [k3, e1, decide_eq_true ev, decide_eq_true ⟨n2, n12⟩]; rfl
  rcases sysOf s (by omega) with ⟨p', hp'⟩ | ⟨hf, _⟩
  · have : p' = p := by
      have := hp'.pr k0 hk
      rw [h] at this
      exact (Prod.mk.inj (Option.some.inj this)).1.symm
    rw [← this]
    exact hp'
  · exfalso
    have := hf (s.size + 1) (by omega)
    unfold spec_l08Is.f at this
    rw [k1 _ (by omega), hy] at this
    cases this
/-- The code of a pair. -/
def cdV (ya yb : Bool) (e : Prop) [Decidable e] : Int := if (ya && yb) = true then (if e then 0 else 2) else 1
theorem codeVal (a b : ByteArray) (ha : a.size ≤ 1048576) (hb : b.size ≤ 1048576) {ya yb : Bool} (a1 : ∀ k, a.size < k → spec_l08Is.f k a = some ya) (a2 : ∀ k, a.size < k → impl_IsSystem.f k a = some ya) (b1 : ∀ k, b.size < k → spec_l08Is.f k b = some yb) (b2 : ∀ k, b.size < k → impl_IsSystem.f k b = some yb) :
    ∀ k, 1048580 ≤ k → spec_l08Code.f k a b = some (cdV ya yb (a.size = b.size)) ∧ impl_pairFault.f k a b = some (cdV ya yb (a.size = b.size)) := by
  intro k hk
  obtain ⟨k, rfl⟩ : ∃ m, k = m + 1 := ⟨k - 1, by omega⟩
  unfold cdV
  constructor
  · unfold spec_l08Code.f
    rw [a1 _ (by omega), b1 _ (by omega), Option.bind_some, Option.bind_some]
    simp only [spec_l08Code.j0]
    cases ya <;> cases yb <;> simp
    by_cases he : a.size = b.size
    · rw [if_pos he, if_pos (by omega)]
    · rw [if_neg he, if_neg (by omega)]
  · unfold impl_pairFault.f
    rw [a2 _ (by omega), b2 _ (by omega), Option.bind_some, Option.bind_some]
    simp only [impl_pairFault.j0]
    cases ya <;> cases yb <;> simp
    by_cases he : a.size = b.size
    · rw [if_pos he, if_pos (by omega)]
    · rw [if_neg he, if_neg (by omega)]
theorem compVal {a b : ByteArray} {p1 p2 : List Int} (A : Sysm a p1) (B : Sysm b p2) (he : a.size = b.size) {q1 q2 : Nat → Nat} (h1 : Mate a.size p1 q1) (h2 : Mate a.size p2 q2) : ∀ k, 1048580 ≤ k → impl_components.f k a b = some ((curves q1 q2 a.size : Nat) : Int) ∧ spec_l08Components.f k a b = some ((curves q1 q2 a.size : Nat) : Int) := by
  intro k hk
  have hn := A.n12
  have hI : impl_components.f k a b = some ((curves q1 q2 a.size : Nat) : Int) := by
    unfold impl_components.f
    rw [A.pr k (by omega), B.pr k (by omega), Option.bind_some, Option.bind_some, if_pos (by omega), if_pos (by omega), Option.bind_some, Int.toNat_natCast, List.length_replicate]
    have := comp_val h1 h2 A.len (by rw [B.len, he]) hn a.size 0 0 k (List.replicate a.size false) (by omega) (by omega) (by simp) (by omega) (fun y hy => by
      rw [List.getD_eq_getElem?_getD, List.getElem?_replicate, if_pos hy]
      constructor
      · intro h; cases h
      · rintro ⟨j, hj, _⟩; omega)
    rw [show ((0 : Nat) : Int) = 0 from rfl, Nat.zero_add] at this
    exact this
  refine ⟨hI, ?_⟩
  obtain ⟨c, c1, c2⟩ := compBoth a b hk (A.ar k (by omega)) (B.ar k (by omega)) (A.pr k (by omega)) (B.pr k (by omega)) hn A.len (by rw [B.len, he]) A.prs (by rw [he]; exact B.prs) rfl (by rw [he])
  rw [hI] at c1
  rw [c2, ← Option.some.inj c1]
/-- The text of a system's joined places is the system. -/
theorem sysText {s : ByteArray} {p : List Int} (A : Sysm s p) : ∀ k, 100 ≤ k → impl_system.f k p = some (s, true) := by
  intro k hk
  have hn := A.n12
  have hs := (sysFacts s p A.pr A.n2 A.n12 A.ev).1
  unfold impl_system.f
  rw [if_pos (by rw [A.len]; omega), hs, A.pr k (by omega), Option.bind_some, if_pos rfl]
  unfold slices_Equal_int_int.f
  rw [if_pos rfl]
  have := equal_go p p rfl (by rw [A.len]; omega) p.length 0 (by omega) k (by rw [A.len]; omega)
  rw [show ((0 : Nat) : Int) = 0 from rfl] at this
  rw [this, Option.bind_some, decide_eq_true (fun j _ _ => rfl)]
theorem sysText_inv {U : List Int} {s : ByteArray} {k : Nat} (h1 : 2 ≤ U.length) (h2 : U.length ≤ 12) (h3 : U.length % 2 = 0) (hk : 100 ≤ k) (h : impl_system.f k U = some (s, true)) : Sysm s U ∧ s.size = U.length := by
  have hS : (strOfNums (signs U U.length)).size = U.length := by rw [strSize, signs_len]
  obtain ⟨r, g1, g2⟩ := PA.partners (strOfNums (signs U U.length)) (by rw [hS]; omega)
  rw [hS] at g1 g2
  unfold impl_system.f at h
  rw [if_pos (by omega), g1 k (by omega), Option.bind_some] at h
  cases hr : r.2 with
  | false => rw [hr] at h; simp at h
  | true =>
    rw [hr, if_pos rfl] at h
    obtain ⟨u1, u2, u3⟩ := g2 hr
    unfold slices_Equal_int_int.f at h
    rw [if_pos (by omega)] at h
    have := equal_go r.1 U (by omega) (by omega) r.1.length 0 (by omega) k (by omega)
    rw [show ((0 : Nat) : Int) = 0 from rfl] at this
    rw [this, Option.bind_some] at h
    obtain ⟨e1, e2⟩ := Prod.mk.inj (Option.some.inj h)
    have e3 := of_decide_eq_true e2
    have e4 : r.1 = U := ext_rd (by omega) (fun x hx => e3 x hx (Nat.zero_le _))
    have e5 : r = (U, true) := by rw [← e4, ← hr]
    rw [← e1]
    refine ⟨sysMk _ U (k0 := k) (by rw [hS]; omega) (by rw [g1 k (by omega), e5]) (by rw [hS]; exact h1) (by rw [hS]; exact h2) (by rw [hS]; exact h3), hS⟩
/-! #### the order of a meander -/
theorem orderVal {a b : ByteArray} {p1 p2 : List Int} (A : Sysm a p1) (B : Sysm b p2) (he : a.size = b.size) {q1 q2 : Nat → Nat} (h1 : Mate a.size p1 q1) (h2 : Mate a.size p2 q2) : ∀ k, 1048580 ≤ k → impl_OrderOfMeander.f k a b = if curves q1 q2 a.size = 1 then some (tab (xs q1 q2 0) a.size, 0) else some ([], 5) := by
  intro k hk
  have hn := A.n12
  have hn2 := A.n2
  have hb := B.n12
  unfold impl_OrderOfMeander.f
  rw [(codeVal a b (by omega) (by omega) A.is1 A.is2 B.is1 B.is2 k hk).2, Option.bind_some]
  have e0 : cdV true true (a.size = b.size) = 0 := by unfold cdV; simp [he]
  rw [e0, if_pos rfl, (compVal A B he h1 h2 k hk).1, Option.bind_some]
  by_cases hc : curves q1 q2 a.size = 1
  · rw [if_pos hc, if_pos (by rw [hc]; rfl), A.pr k (by omega), B.pr k (by omega), Option.bind_some, Option.bind_some]
    obtain ⟨m4, m5, m3⟩ := one_full h1 h2 (by omega) (one_all h1 h2 (by omega) hc)
    have : impl_curve.f k p1 p2 ((0 : Nat) : Int) = some (tab (xs q1 q2 0) a.size) := curve_impl h1 h2 A.len (by rw [B.len, he]) hn (by omega) (Nat.le_refl _) m4 m5 ((a.size - 2) / 2) 0 k (by omega) (by omega) rfl
    rw [show ((0 : Nat) : Int) = 0 from rfl] at this
    rw [this]
    rfl
  · rw [if_neg hc, if_neg (by omega)]
theorem orderOk {a b : ByteArray} (ha : a.size ≤ 1048576) (hb : b.size ≤ 1048576) {k : Nat} (hk : 1048580 ≤ k) {l : List Int} (h : impl_OrderOfMeander.f k a b = some (l, 0)) :
    ∃ p1 p2 q1 q2, Sysm a p1 ∧ Sysm b p2 ∧ a.size = b.size ∧ Mate a.size p1 q1 ∧ Mate a.size p2 q2 ∧ curves q1 q2 a.size = 1 ∧ l = tab (xs q1 q2 0) a.size := by
  have bad : ∀ ya yb : Bool, (∀ k, a.size < k → spec_l08Is.f k a = some ya) → (∀ k, a.size < k → impl_IsSystem.f k a = some ya) → (∀ k, b.size < k → spec_l08Is.f k b = some yb) → (∀ k, b.size < k → impl_IsSystem.f k b = some yb) → cdV ya yb (a.size = b.size) ≠ 0 → False := by
    intro ya yb a1 a2 b1 b2 hne
    unfold impl_OrderOfMeander.f at h
    rw [(codeVal a b ha hb a1 a2 b1 b2 k hk).2, Option.bind_some, if_neg hne] at h
    exact hne (Prod.mk.inj (Option.some.inj h)).2
  rcases sysOf a ha with ⟨p1, A⟩ | ⟨fa1, fa2⟩
  · rcases sysOf b hb with ⟨p2, B⟩ | ⟨fb1, fb2⟩
    · by_cases he : a.size = b.size
      · obtain ⟨q1, h1⟩ := Pairs.mate A.prs
        have hp2 : Pairs a.size p2 := by rw [he]; exact B.prs
        obtain ⟨q2, h2⟩ := Pairs.mate hp2
        have hv := orderVal A B he h1 h2 k hk
        rw [h] at hv
        by_cases hc : curves q1 q2 a.size = 1
        · rw [if_pos hc] at hv
          exact ⟨p1, p2, q1, q2, A, B, he, h1, h2, hc, (Prod.mk.inj (Option.some.inj hv)).1⟩
        · rw [if_neg hc] at hv
          have := (Prod.mk.inj (Option.some.inj hv)).2
          cases this
      · exact (bad true true A.is1 A.is2 B.is1 B.is2 (by unfold cdV; simp [he])).elim
    · exact (bad true false A.is1 A.is2 fb1 fb2 (by unfold cdV; simp)).elim
  · rcases sysOf b hb with ⟨p2, B⟩ | ⟨fb1, fb2⟩
    · exact (bad false true fa1 fa2 B.is1 B.is2 (by unfold cdV; simp)).elim
    · exact (bad false false fa1 fa2 fb1 fb2 (by unfold cdV; simp)).elim
/-- No interval of a meander is closed. -/
theorem irrOk {a b : ByteArray} {p1 p2 : List Int} (A : Sysm a p1) (B : Sysm b p2) (he : a.size = b.size) {q1 q2 : Nat → Nat} (h1 : Mate a.size p1 q1) (h2 : Mate a.size p2 q2) (hc : curves q1 q2 a.size = 1) : ∀ k, 1048580 ≤ k → impl_IsIrreduciblePair.f k a b = some (true, 0) := by
  intro k hk
  have hn := A.n12
  have hn2 := A.n2
  have hb := B.n12
  obtain ⟨y, e, s1, s2⟩ := irrBoth a b (by omega) (by omega)
  refine at_rounds (impl_IsIrreduciblePair.mono a b) hk ?_
  rw [s2, ← s1]
  unfold spec_IsIrreduciblePair.f
  have e0 : cdV true true (a.size = b.size) = 0 := by unfold cdV; simp [he]
  rw [(codeVal a b (by omega) (by omega) A.is1 A.is2 B.is1 B.is2 1048580 (by omega)).1, e0, Option.bind_some, if_pos rfl, A.ar _ (by omega), B.ar _ (by omega), Option.bind_some, Option.bind_some, if_pos hn]
  have hall := one_all h1 h2 (by omega) hc
  have : irrB (p1 ++ List.replicate (12 - a.size) 0) (p2 ++ List.replicate (12 - b.size) 0) (a.size : Int) a.size = true := by
    unfold irrB
    rw [List.all_eq_true]
    intro f hf
    rw [List.mem_range] at hf
    unfold rowB
    rw [List.all_eq_true]
    intro g hg
    rw [List.mem_range] at hg
    rw [Bool.not_eq_true']
    cases hcl : closedB (p1 ++ List.replicate (12 - a.size) 0) (p2 ++ List.replicate (12 - b.size) 0) (a.size : Int) (f : Int) ((f : Int) + (g : Int)) with
    | false => rfl
    | true =>
      exfalso
      unfold closedB closeds at hcl
      rw [Bool.and_eq_true, decide_eq_true_eq, List.all_eq_true] at hcl
      obtain ⟨hlt, hcl⟩ := hcl
      have hgn : f + g < a.size := by omega
      have step : ∀ (p z : List Int) (q : Nat → Nat), Mate a.size p q → p.length = a.size → (∀ d : Nat, d < g + 1 → inB (p ++ z) (f : Int) ((f : Int) + (g : Int)) ((f : Int) + (d : Int)) = true) → ∀ x, f ≤ x → x ≤ f + g → f ≤ q x ∧ q x ≤ f + g := by
        intro p z q hq hl hin x hx1 hx2
        have := hin (x - f) (by omega)
        unfold inB at this
        rw [show ((f : Int) + ((x - f : Nat) : Int)) = (x : Int) by omega, rd_app_l p z x (by omega), (hq x (by omega)).2.2.2, Bool.and_eq_true, decide_eq_true_eq, decide_eq_true_eq] at this
        omega
      have hcl' : ∀ d : Nat, d < g + 1 → inB (p1 ++ List.replicate (12 - a.size) 0) (f : Int) ((f : Int) + (g : Int)) ((f : Int) + (d : Int)) = true ∧ inB (p2 ++ List.replicate (12 - b.size) 0) (f : Int) ((f : Int) + (g : Int)) ((f : Int) + (d : Int)) = true := by
        intro d hd
        have := hcl d (List.mem_range.2 (by omega))
        rw [Bool.and_eq_true] at this
        exact this
      have := one_open h1 h2 (by omega) hall f (f + g) (by omega) hgn (step p1 _ q1 h1 A.len (fun d hd => (hcl' d hd).1)) (step p2 _ q2 h2 (by rw [B.len, he]) (fun d hd => (hcl' d hd).2))
      omega
  rw [this]

end Go.Proofs.Ytopcnhppbmmbbaa.PG
