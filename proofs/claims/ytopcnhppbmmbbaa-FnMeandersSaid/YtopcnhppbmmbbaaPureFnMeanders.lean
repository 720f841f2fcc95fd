/- The plain law FnMeanders. No condition. -/
import Derived.Test.YtopcnhppbmmbbaaPI
import Derived.Test.YtopcnhppbmmbbaaQx5
namespace Go.Proofs.Ytopcnhppbmmbbaa.Pure
open Go.RowKit Go.Proofs.Ytopcnhppbmmbbaa.Q Go.Proofs.Ytopcnhppbmmbbaa.Hand Go.Proofs.YtopcnhppbmmbbaaW.PrintWords Go.Proofs.YtopcnhppbmmbbaaW.PrintLast Go.Proofs.Ytopcnhppbmmbbaa.PA Go.Proofs.Ytopcnhppbmmbbaa.PC Go.Proofs.Ytopcnhppbmmbbaa.PD Go.Proofs.Ytopcnhppbmmbbaa.PE Go.Proofs.Ytopcnhppbmmbbaa.PF Go.Proofs.Ytopcnhppbmmbbaa.PG Go.Proofs.Ytopcnhppbmmbbaa.PH Go.Proofs.Ytopcnhppbmmbbaa.PI
set_option linter.unusedVariables false
set_option linter.unusedSimpArgs false

theorem like_go (l : List Int) (hb : l.length ≤ 2000000) : ∀ (d i k : Nat), i + d = l.length → d < k → laws_likeInts.l0 k l l (i : Int) = some true := by
  intro d
  induction d with
  | zero =>
    intro i k hi hk
    obtain ⟨k, rfl⟩ : ∃ m, k = m + 1 := ⟨k - 1, by omega⟩
    simp only [laws_likeInts.l0]
    rw [if_neg (by omega)]
  | succ d ih =>
    intro i k hi hk
    obtain ⟨k, rfl⟩ : ∃ m, k = m + 1 := ⟨k - 1, by omega⟩
    simp only [laws_likeInts.l0]
    rw [if_pos (by omega), if_pos (by omega), if_pos (by omega), if_pos trivial, wrap_id (by omega) (by omega)]
    exact ih (i + 1) k (by omega) (by omega)
theorem likeS (l : List Int) (hb : l.length ≤ 2000000) {k : Nat} (hk : l.length < k) : laws_likeInts.f k l l = some true := by
  unfold laws_likeInts.f
  rw [if_pos rfl]
  exact like_go l hb l.length 0 k (by omega) hk
theorem moLen {l : List Int} {e f : ByteArray} {k : Nat} (h : impl_MeanderOfOrder.f k l = some (e, f, 0)) : l.length ≤ 12 := by
  unfold impl_MeanderOfOrder.f at h
  cases hok : okO l with
  | false =>
    rw [hok, if_neg (by simp)] at h
    have := (Prod.mk.inj (Prod.mk.inj (Option.some.inj h)).2).2
    cases this
  | true =>
    unfold okO at hok
    rw [Bool.and_eq_true, decide_eq_true_eq] at hok
    exact hok.1.2.1
theorem last (a b : ByteArray) (ha : a.size ≤ 1000) (hb : b.size ≤ 1000) (cv ce : Int) (ts : ByteArray) (te : Int) (P2 : ce ≠ 0 → cv = 0) (P3 : ce = 0 → ∃ p1 p2 q1 q2, Sysm a p1 ∧ Sysm b p2 ∧ a.size = b.size ∧ Mate a.size p1 q1 ∧ Mate a.size p2 q2 ∧ cv = ((curves q1 q2 a.size : Nat) : Int))
    (T : ∀ k, 1048580 ≤ k → impl_TurnSystem.f k a = some (ts, te)) : ∀ k, 1048581 ≤ k → laws_FnMeanders.j8 k a b cv ce ts te = some true := by
  intro k hk
  obtain ⟨k, rfl⟩ : ∃ m, k = m + 1 := ⟨k - 1, by omega⟩
  simp only [laws_FnMeanders.j8]
  by_cases h0 : ce = 0
  · rw [if_pos h0]
    obtain ⟨p1, p2, q1, q2, A, B, he, h1, h2, hcv⟩ := P3 h0
    have hn := A.n12
    have own : impl_ComponentsOfPair.f k a a = some (((a.size / 2 : Nat) : Int), 0) := by
      unfold impl_ComponentsOfPair.f
      have e0 : cdV true true (a.size = a.size) = 0 := by unfold cdV; simp
      have hs := (sysFacts a p1 A.pr A.n2 A.n12 A.ev).2.2 k (by omega)
      rw [A.len] at hs
      rw [(codeVal a a (by omega) (by omega) A.is1 A.is2 A.is1 A.is2 k (by omega)).2, e0, Option.bind_some, if_pos rfl, hs, Option.bind_some]
    obtain ⟨t1, U1, S1, z1⟩ := turnOk A
    obtain ⟨t2, U2, S2, z2⟩ := turnOk B
    have hT := T k (by omega)
    rw [U1 k (by omega)] at hT
    obtain ⟨e1, e2⟩ := Prod.mk.inj (Option.some.inj hT)
    subst e1 e2
    obtain ⟨r1, g1⟩ := Pairs.mate S1.prs
    have hp2 : Pairs t1.size (turned p2 b.size b.size) := by
      have e12 : t1.size = t2.size := by omega
      rw [e12]
      exact S2.prs
    obtain ⟨r2, g2⟩ := Pairs.mate hp2
    have hpv := (pairVal S1 S2 (by omega) g1 g2 k (by omega)).1
    rw [z1] at g1 g2 hpv
    rw [← he] at g2
    have hc := curves_turn h1 h2 g1 g2 (fun j hj => by
      have a1 := turned_rd h1 hn a.size (Nat.le_refl _) j hj
      have a2 := (g1 _ (Nat.mod_lt (j + 1) (by omega))).2.2.2
      unfold Is at a2
      rw [a2] at a1
      exact Int.ofNat.inj a1) (fun j hj => by
      have a1 := turned_rd h2 hn a.size (Nat.le_refl _) j hj
      have a2 := (g2 _ (Nat.mod_lt (j + 1) (by omega))).2.2.2
      unfold Is at a2
      rw [a2] at a1
      exact Int.ofNat.inj a1)
    have hw : wrap64 ((a.size : Int) / 2) = ((a.size / 2 : Nat) : Int) := by rw [wrap_id (by omega) (by omega)]; omega
    rw [own, Option.bind_some, U2 k (by omega), Option.bind_some]
    simp only
    rw [hpv, Option.bind_some]
    simp only
    rw [if_pos (by first | exact True.intro | rfl), hw, if_pos (by first | exact True.intro | rfl), if_pos (by first | exact True.intro | rfl), if_pos (by first | exact True.intro | rfl), if_pos (by first | exact True.intro | rfl), hc, hcv]
    simp
  · rw [if_neg h0, P2 h0]
    rfl
theorem core (x : List Int) (K0 : Nat) (hK : 1048600 ≤ K0) (a b c d : ByteArray) (l : List Int) (ha : a.size ≤ 1000) (hb : b.size ≤ 1000) (hc : c.size ≤ 1000) (hd : d.size ≤ 1000)
    (D1 : ∀ k, K0 ≤ k → spec_DrawComponentsOfPair.f k x = some (a, b)) (D2 : ∀ k, K0 ≤ k → spec_DrawOrderOfMeander.f k x = some (c, d)) (D3 : ∀ k, K0 ≤ k → spec_DrawMeanderOfOrder.f k x = some l) (D4 : ∀ k, K0 ≤ k → spec_DrawIsIrreduciblePair.f k x = some (c, d)) (hx : x.length ≤ 4096) :
    laws_FnMeanders.f (K0 + 20) x = some true := by
  obtain ⟨cv, ce, P1, P2, P3⟩ := pairBoth a b (by omega) (by omega)
  obtain ⟨_, _, _, y, _, _, s1, s2, _⟩ := sysBoth a (by omega)
  obtain ⟨ys, e2, Y1, Y2, Y3⟩ := orderBoth c d (by omega) (by omega)
  obtain ⟨⟨me, mf, mc⟩, M⟩ := moBoth l
  obtain ⟨ts, te, T1, T2⟩ := turnBoth a (by omega)
  obtain ⟨yy, ye, I1, I2⟩ := irrBoth c d (by omega) (by omega)
  have T1' : ∀ k, 1048580 ≤ k → spec_TurnSystem.f k a = some (ts, te) := fun k hk => at_rounds (spec_TurnSystem.mono a) hk T1
  have T2' : ∀ k, 1048580 ≤ k → impl_TurnSystem.f k a = some (ts, te) := fun k hk => at_rounds (impl_TurnSystem.mono a) hk T2
  have I1' : ∀ k, 1048580 ≤ k → spec_IsIrreduciblePair.f k c d = some (yy, ye) := fun k hk => at_rounds (spec_IsIrreduciblePair.mono c d) hk I1
  have I2' : ∀ k, 1048580 ≤ k → impl_IsIrreduciblePair.f k c d = some (yy, ye) := fun k hk => at_rounds (impl_IsIrreduciblePair.mono c d) hk I2
  have J8 := last a b ha hb cv ce ts te P2 P3 T2'
  have J7 : ∀ k, K0 + 2 ≤ k → laws_FnMeanders.j7 k a b cv ce l me mf mc ts te = some true := by
    intro k hk
    obtain ⟨k, rfl⟩ : ∃ m, k = m + 1 := ⟨k - 1, by omega⟩
    simp only [laws_FnMeanders.j7]
    by_cases h0 : mc = 0
    · have hm := (M 1048580 (by omega)).2
      rw [h0] at hm
      have hlen := moLen hm
      rw [if_pos h0, moInv (by omega) hm k (by omega), Option.bind_some]
      simp only
      rw [if_pos (by first | exact True.intro | rfl), likeS l (by omega) (by omega), Option.bind_some, if_pos (by first | exact True.intro | rfl)]
      exact J8 k (by omega)
    · rw [if_neg h0]
      exact J8 k (by omega)
  have J6 : ∀ k, K0 + 3 ≤ k → laws_FnMeanders.j6 k a b cv ce c d ys e2 l me mf mc ts te = some true := by
    intro k hk
    obtain ⟨k, rfl⟩ : ∃ m, k = m + 1 := ⟨k - 1, by omega⟩
    simp only [laws_FnMeanders.j6]
    by_cases h0 : e2 = 0
    · have ho := Y3 1048580 (by omega)
      rw [h0] at ho
      obtain ⟨p1, p2, q1, q2, A, B, he, h1, h2, hcu, hys⟩ := orderOk (by omega) (by omega) (Nat.le_refl _) ho
      rw [if_pos h0, hys, moOk A B he h1 h2 hcu k (by omega), Option.bind_some]
      simp only
      rw [if_pos (by first | exact True.intro | rfl), if_pos (by first | exact True.intro | rfl), if_pos (by first | exact True.intro | rfl)]
      exact J7 k (by omega)
    · rw [if_neg h0]
      exact J7 k (by omega)
  have J5 : ∀ k, K0 + 4 ≤ k → ∀ v : Bool, (v = true → e2 = 0) → laws_FnMeanders.j5 k a b cv ce c d ys e2 l me mf mc ts te v = some true := by
    intro k hk v hv
    obtain ⟨k, rfl⟩ : ∃ m, k = m + 1 := ⟨k - 1, by omega⟩
    simp only [laws_FnMeanders.j5]
    cases v with
    | true =>
      have ho := Y3 1048580 (by omega)
      rw [hv rfl] at ho
      obtain ⟨p1, p2, q1, q2, A, B, he, h1, h2, hcu, hys⟩ := orderOk (by omega) (by omega) (Nat.le_refl _) ho
      rw [if_pos (by first | exact True.intro | rfl), irrOk A B he h1 h2 hcu k (by omega), Option.bind_some]
      simp only
      rw [if_pos (by first | exact True.intro | rfl), if_pos (by first | exact True.intro | rfl)]
      exact J6 k (by omega)
    | false =>
      rw [if_neg (by simp)]
      exact J6 k (by omega)
  have J4 : ∀ k, K0 + 5 ≤ k → laws_FnMeanders.j4 k a b cv ce c d ys e2 l me mf mc ts te ye false = some true := by
    intro k hk
    obtain ⟨k, rfl⟩ : ∃ m, k = m + 1 := ⟨k - 1, by omega⟩
    simp only [laws_FnMeanders.j4]
    rw [if_neg (by simp)]
    by_cases h0 : ye = 0
    · rw [if_pos h0]
      exact J5 k (by omega) _ (fun h => by simpa using h)
    · rw [if_neg h0]
      exact J5 k (by omega) _ (fun h => by cases h)
  have J3 : ∀ k, K0 + 6 ≤ k → laws_FnMeanders.j3 k x a b cv ce c d ys e2 l me mf mc ts te false = some true := by
    intro k hk
    obtain ⟨k, rfl⟩ : ∃ m, k = m + 1 := ⟨k - 1, by omega⟩
    simp only [laws_FnMeanders.j3]
    rw [if_neg (by simp), D4 k (by omega), Option.bind_some]
    simp only
    rw [I2' k (by omega), Option.bind_some, I1' k (by omega), Option.bind_some]
    simp only
    rw [if_pos (by first | exact True.intro | rfl), show (yy != yy) = false by simp]
    exact J4 k (by omega)
  have J2 : ∀ k, K0 + 7 ≤ k → laws_FnMeanders.j2 k x a b cv ce c d ys e2 l me mf mc false = some true := by
    intro k hk
    obtain ⟨k, rfl⟩ : ∃ m, k = m + 1 := ⟨k - 1, by omega⟩
    simp only [laws_FnMeanders.j2]
    rw [if_neg (by simp), T2' k (by omega), Option.bind_some, T1' k (by omega), Option.bind_some]
    simp only
    rw [if_pos (by first | exact True.intro | rfl), show (ts.toList != ts.toList) = false by simp]
    exact J3 k (by omega)
  have J1 : ∀ k, K0 + 8 ≤ k → laws_FnMeanders.j1 k x a b cv ce c d ys e2 false = some true := by
    intro k hk
    obtain ⟨k, rfl⟩ : ∃ m, k = m + 1 := ⟨k - 1, by omega⟩
    obtain ⟨m1, m2⟩ := M k (by omega)
    simp only [laws_FnMeanders.j1]
    rw [if_neg (by simp), D3 k (by omega), Option.bind_some, m2, Option.bind_some, m1, Option.bind_some]
    simp only
    rw [if_pos (by first | exact True.intro | rfl), if_pos (by first | exact True.intro | rfl), show (mf.toList != mf.toList) = false by simp]
    exact J2 k (by omega)
  have J0 : ∀ k, K0 + 9 ≤ k → laws_FnMeanders.j0 k x a b cv ce false = some true := by
    intro k hk
    obtain ⟨k, rfl⟩ : ∃ m, k = m + 1 := ⟨k - 1, by omega⟩
    simp only [laws_FnMeanders.j0]
    rw [if_neg (by simp), D2 k (by omega), Option.bind_some]
    simp only
    rw [Y3 k (by omega), Option.bind_some, Y2 k (by omega), Option.bind_some]
    simp only
    rw [if_pos (by first | exact True.intro | rfl), likeS ys (by omega) (by omega), Option.bind_some, show (!true) = false from rfl]
    exact J1 k (by omega)
  have hbig : laws_big.f x = some false := by
    unfold laws_big.f
    rw [decide_eq_false (by omega)]
  have hsys : spec_IsSystem.f (K0 + 20) a = some y := by
    unfold spec_IsSystem.f
    rw [s1 _ (by omega)]
    rfl
  obtain ⟨pa, pb⟩ := P1 (K0 + 20) (by omega)
  unfold laws_FnMeanders.f
  rw [hbig, Option.bind_some, if_neg (by simp), D1 _ (by omega), Option.bind_some]
  simp only
  rw [pa, Option.bind_some, pb, Option.bind_some]
  simp only
  rw [if_pos (by first | exact True.intro | rfl), if_pos (by first | exact True.intro | rfl), s2 _ (by omega), Option.bind_some, hsys, Option.bind_some, show (y != y) = false by simp]
  exact J0 _ (by omega)
theorem FnMeanders : laws_FnMeanders.Pure := by
  intro x h1 h2 h3
  by_cases hx : x.length ≤ 4096
  · have hb : Byt x := by
      intro z hz
      have := h3 z hz
      simp only [Lit.wf, Bool.and_eq_true, decide_eq_true_eq] at this
      have e1 : IntKind.u8.min = 0 := by decide
      have e2 : IntKind.u8.max = 255 := by decide
      rw [e1, e2] at this
      omega
    have hl : (x.length : Int) ≤ 140737488351232 := by omega
    obtain ⟨a, b, ⟨K1, D1⟩, a1, a2⟩ := two_out x hb hl
    obtain ⟨c, d, ⟨K2, D2⟩, b1, b2⟩ := orderDraw x hb hl
    obtain ⟨l, ⟨K3, D3⟩⟩ := meanderDraw x hb hl
    dsimp only at D1 D2 D3
    refine ⟨max K1 (max K2 (max K3 1048600)) + 20, core x _ (by omega) a b c d l (by omega) (by omega) (by omega) (by omega) (fun k hk => ?_) (fun k hk => D2 k (by omega)) (fun k hk => D3 k (by omega)) (fun k hk => ?_) hx⟩
    · unfold spec_DrawComponentsOfPair.f
      rw [D1 k (by omega)]
      rfl
    · unfold spec_DrawIsIrreduciblePair.f
      rw [D2 k (by omega)]
      rfl
  · refine ⟨1, ?_⟩
    unfold laws_FnMeanders.f laws_big.f
    rw [Option.bind_some, decide_eq_true (by omega), if_pos rfl]

end Go.Proofs.Ytopcnhppbmmbbaa.Pure
