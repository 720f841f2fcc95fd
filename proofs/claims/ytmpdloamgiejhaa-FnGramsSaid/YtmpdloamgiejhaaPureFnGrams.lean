/- FnGrams holds for every code: the pure statement. No condition. -/
import Derived.Test.YtmpdloamgiejhaaPDQ
import Derived.Test.YtmpdloamgiejhaaPAll
import Derived.Test.YtmpdloamgiejhaaQx5
namespace Go.Proofs.Ytmpdloamgiejhaa.Pure
open Go.RowKit Go.Proofs.Ytmpdloamgiejhaa.Q Go.Proofs.Ytmpdloamgiejhaa.Hand Go.Proofs.YtmpdloamgiejhaaW.PrintWords Go.Proofs.YtmpdloamgiejhaaW.PrintLast Go.Proofs.Ytmpdloamgiejhaa.PA Go.Proofs.Ytmpdloamgiejhaa.PE Go.Proofs.Ytmpdloamgiejhaa.PG Go.Proofs.Ytmpdloamgiejhaa.PF Go.Proofs.Ytmpdloamgiejhaa.PR Go.Proofs.Ytmpdloamgiejhaa.PN Go.Proofs.Ytmpdloamgiejhaa.PGr Go.Proofs.Ytmpdloamgiejhaa.PD Go.Proofs.Ytmpdloamgiejhaa.PQ
set_option linter.unusedVariables false
set_option linter.unusedSimpArgs false

theorem tabEv {p c n k : Int} {r : List (List Int) × Int} (h : impl_GramTable.f 3000 p c n k = some r) : EvF (fun K => impl_GramTable.f K p c n k) r := EvF.of (k := 3000) (fun K => impl_GramTable.mono _ _ _ _ K) h
theorem tabEvS {p c n k : Int} {r : List (List Int) × Int} (h : spec_GramTable.f 3000 p c n k = some r) : EvF (fun K => spec_GramTable.f K p c n k) r := EvF.of (k := 3000) (fun K => spec_GramTable.mono _ _ _ _ K) h
/-- Of one draw: what all eight functions tell. -/
theorem grE (p c n k : Int) : ∃ (T : List (List Int)) (code d dc r rc : Int) (R : List (List Int)) (xc : Int), EvF (fun K => impl_GramTable.f K p c n k) (T, code) ∧ EvF (fun K => spec_GramTable.f K p c n k) (T, code) ∧ impl_GramDeterminant.f p c n k = some (d, dc) ∧ spec_GramDeterminant.f p c n k = some (d, dc) ∧ impl_GramRank.f p c n k = some (r, rc) ∧ spec_GramRank.f p c n k = some (r, rc) ∧ impl_RadicalOf.f p c n k = some (R, xc) ∧ spec_RadicalOf.f p c n k = some (R, xc) ∧
    (T.length ≤ 1000 ∧ (∀ x ∈ T, x.length ≤ 1000) ∧ R.length ≤ 1000 ∧ ∀ x ∈ R, x.length ≤ 1000) ∧ ((T = [] ∧ code = 2 ∧ xc = 2) ∨ (code = 0 ∧ dc = 0 ∧ rc = 0 ∧ xc = 0 ∧ ∃ rn : Nat, r = (rn : Int) ∧ Gms p T R d rn)) := by
  rcases gramAll p c n k with ⟨a1, a2, a3, a4, a5, a6, a7, a8⟩ | ⟨T, R, d, r, a1, a2, a3, a4, a5, a6, a7, a8, G⟩
  · exact ⟨[], 2, 0, 2, 0, 2, [], 2, tabEv a2, tabEvS a1, a4, a3, a6, a5, a8, a7, ⟨by simp, by simp, by simp, by simp⟩, .inl ⟨rfl, rfl, rfl⟩⟩
  · exact ⟨T, 0, d, 0, r, 0, R, 0, tabEv a2, tabEvS a1, a4, a3, a6, a5, a8, a7, ⟨by have := G.t9; omega, fun x hx => by rw [G.tr x hx]; have := G.t9; omega, by have := G.rad; have := G.t9; omega, fun x hx => by rw [G.rr x hx]; have := G.t9; omega⟩, .inr ⟨rfl, rfl, rfl, rfl, r, rfl, G⟩⟩
theorem l1_go {p d : Int} {T R : List (List Int)} {r : Nat} (G : Gms p T R d r) {i : Nat} (hi : i < T.length) (h : EvF (fun k => laws_FnGrams.l0 k T d 0 (r : Int) 0 ((i + 1 : Nat) : Int)) true) : ∀ (e j : Nat), j + e = i → EvF (fun k => laws_FnGrams.l1 k T d 0 (r : Int) 0 (i : Int) (j : Int)) true := by
  have t9 := G.t9
  intro e
  induction e with
  | zero =>
    intro j hj
    refine EvF.succ h (fun k => ?_)
    simp only [laws_FnGrams.l1]
    rw [if_neg (by omega), wn (by omega)]
  | succ e ih =>
    intro j hj
    refine EvF.succ (ih (j + 1) (by omega)) (fun k => ?_)
    have hjl : j < T.length := by omega
    have hs := G.sym i j hi hjl
    unfold ent at hs
    simp only [laws_FnGrams.l1]
    rw [rdL_nat, rdL_nat, rd_nat, rd_nat, if_pos (by omega), if_pos (by omega), if_pos (by omega), if_pos (by omega), if_pos (by rw [row_len G.tr hi]; omega), if_pos (by omega), if_pos (by rw [row_len G.tr hjl]; omega), if_pos hs, wn (by omega)]
theorem l0_go {p d : Int} {T R : List (List Int)} {r : Nat} (G : Gms p T R d r) : ∀ (e i : Nat), i + e = T.length → EvF (fun k => laws_FnGrams.l0 k T d 0 (r : Int) 0 (i : Int)) true := by
  have t9 := G.t9
  intro e
  induction e with
  | zero =>
    intro i hi
    refine EvF.succ (EvF.now true) (fun k => ?_)
    simp only [laws_FnGrams.l0]
    rw [if_neg (by omega), if_pos trivial, if_pos trivial]
    have hd := G.det
    congr 1
    by_cases h : d = 0
    · rw [show (d == 0) = true from beq_iff_eq.2 h, decide_eq_true (show (r : Int) < (T.length : Int) by have := hd.1 h; omega)]; rfl
    · rw [show (d == 0) = false from beq_eq_false_iff_ne.2 h, decide_eq_false (show ¬ (r : Int) < (T.length : Int) by intro h2; exact h (hd.2 (by omega)))]; rfl
  | succ e ih =>
    intro i hi
    refine EvF.succ (l1_go G (by omega) (ih (i + 1) (by omega)) i 0 (by omega)) (fun k => ?_)
    simp only [laws_FnGrams.l0]
    rw [if_pos (by omega)]; rfl
theorem j4Ev {p d code dc r rc xc : Int} {T R : List (List Int)} (h : (T = [] ∧ code = 2 ∧ xc = 2) ∨ (code = 0 ∧ dc = 0 ∧ rc = 0 ∧ xc = 0 ∧ ∃ rn : Nat, r = (rn : Int) ∧ Gms p T R d rn)) : EvF (fun k => laws_FnGrams.j4 k T code d dc r rc) true := by
  rcases h with ⟨rfl, rfl, rfl⟩ | ⟨rfl, rfl, rfl, rfl, rn, rfl, G⟩
  · refine EvF.succ (EvF.now true) (fun k => ?_)
    simp only [laws_FnGrams.j4]
    rw [if_neg (by decide)]; rfl
  · refine EvF.succ (l0_go G T.length 0 (by omega)) (fun k => ?_)
    simp only [laws_FnGrams.j4]
    rw [if_pos trivial]; rfl
theorem j3Ev {code d dc r rc q e m l code' d' dc' r' rc' xc' : Int} {T T' R' : List (List Int)} (hj4 : EvF (fun k => laws_FnGrams.j4 k T code d dc r rc) true) (b1 : EvF (fun K => impl_GramTable.f K q e m l) (T', code')) (b5 : impl_GramRank.f q e m l = some (r', rc'))
    (bF : (T' = [] ∧ code' = 2 ∧ xc' = 2) ∨ (code' = 0 ∧ dc' = 0 ∧ rc' = 0 ∧ xc' = 0 ∧ ∃ rn : Nat, r' = (rn : Int) ∧ Gms q T' R' d' rn)) : EvF (fun k => laws_FnGrams.j3 k T code d dc r rc q e m l R' xc' false) true := by
  rcases bF with ⟨rfl, rfl, rfl⟩ | ⟨rfl, rfl, rfl, rfl, rn, rfl, G⟩
  · exact EvF.succ hj4 (fun k => by simp only [laws_FnGrams.j3]; rw [if_neg (by simp), if_neg (by decide)])
  · have hz := G.rad
    have t9 := G.t9
    have hw : wrap64 ((R'.length : Int) + (rn : Int)) = (T'.length : Int) := by unfold wrap64; omega
    have HS : Sqs q R' T' := ⟨G.p2, G.p97, G.rg, G.tg, G.tr, G.rr, t9, by omega⟩
    obtain ⟨K1, q1⟩ := b1
    obtain ⟨K2, q2⟩ := prod_zero HS G.prod
    obtain ⟨K3, q3⟩ := scaled_zero HS
    obtain ⟨K4, q4⟩ := lists_refl (List.replicate R'.length (List.replicate T'.length 0)) (by simp; omega) (fun x hx => by rw [List.eq_of_mem_replicate hx]; simp; omega)
    obtain ⟨K5, q5⟩ := hj4
    dsimp only at q1 q2 q3 q4
    refine ⟨K1 + K2 + K3 + K4 + K5 + 1, fun k hk => ?_⟩
    obtain ⟨n, rfl⟩ : ∃ n, k = n + 1 := ⟨k - 1, by omega⟩
    simp only [laws_FnGrams.j3]
    rw [if_neg (by simp), if_pos trivial, q1 n (by omega), Option.bind_some, b5, Option.bind_some]
    simp only [if_true]
    rw [if_pos hw, q2 n (by omega), Option.bind_some, q3 n (by omega), Option.bind_some, q4 n (by omega), Option.bind_some, if_pos rfl]
    exact q5 n (by omega)
theorem j2Ev {s : List Int} {code d dc r rc q e m l xc' : Int} {T R' : List (List Int)} (h2 : EvF (fun k => spec_DrawRadicalOf.f k s) (q, e, m, l)) (b7 : impl_RadicalOf.f q e m l = some (R', xc')) (b8 : spec_RadicalOf.f q e m l = some (R', xc')) (h5 : R'.length ≤ 1000) (h6 : ∀ x ∈ R', x.length ≤ 1000)
    (hj3 : EvF (fun k => laws_FnGrams.j3 k T code d dc r rc q e m l R' xc' false) true) : EvF (fun k => laws_FnGrams.j2 k s T code d dc r rc false) true := by
  obtain ⟨K1, q1⟩ := h2
  obtain ⟨K2, q2⟩ := lists_refl R' h5 h6
  obtain ⟨K3, q3⟩ := hj3
  dsimp only at q1 q2
  refine ⟨K1 + K2 + K3 + 1, fun k hk => ?_⟩
  obtain ⟨n, rfl⟩ : ∃ n, k = n + 1 := ⟨k - 1, by omega⟩
  simp only [laws_FnGrams.j2]
  rw [if_neg (by simp), q1 n (by omega), Option.bind_some]
  simp only
  rw [b7, Option.bind_some, b8, Option.bind_some, if_pos rfl, q2 n (by omega), Option.bind_some]
  exact q3 n (by omega)
theorem j1Ev {s : List Int} {p c n k code d dc r rc : Int} {T : List (List Int)} (a5 : impl_GramRank.f p c n k = some (r, rc)) (a6 : spec_GramRank.f p c n k = some (r, rc)) (hj2 : EvF (fun K => laws_FnGrams.j2 K s T code d dc r rc false) true) : EvF (fun K => laws_FnGrams.j1 K s p c n k T code d dc false) true := by
  obtain ⟨K3, q3⟩ := hj2
  refine ⟨K3 + 1, fun k hk => ?_⟩
  obtain ⟨n, rfl⟩ : ∃ n, k = n + 1 := ⟨k - 1, by omega⟩
  simp only [laws_FnGrams.j1]
  rw [if_neg (by simp), a5, Option.bind_some, a6, Option.bind_some, if_pos rfl, bne_self_eq_false]
  exact q3 n (by omega)
theorem j0Ev {s : List Int} {p c n k code d dc : Int} {T : List (List Int)} (a3 : impl_GramDeterminant.f p c n k = some (d, dc)) (a4 : spec_GramDeterminant.f p c n k = some (d, dc)) (hj1 : EvF (fun K => laws_FnGrams.j1 K s p c n k T code d dc false) true) : EvF (fun K => laws_FnGrams.j0 K s p c n k T code false) true := by
  obtain ⟨K3, q3⟩ := hj1
  refine ⟨K3 + 1, fun k hk => ?_⟩
  obtain ⟨n, rfl⟩ : ∃ n, k = n + 1 := ⟨k - 1, by omega⟩
  simp only [laws_FnGrams.j0]
  rw [if_neg (by simp), a3, Option.bind_some, a4, Option.bind_some, if_pos rfl, bne_self_eq_false]
  exact q3 n (by omega)
theorem topEv {s : List Int} {p c n k code : Int} {T : List (List Int)} (h1 : EvF (fun K => spec_DrawGramTable.f K s) (p, c, n, k)) (a1 : EvF (fun K => impl_GramTable.f K p c n k) (T, code)) (a2 : EvF (fun K => spec_GramTable.f K p c n k) (T, code)) (h5 : T.length ≤ 1000) (h6 : ∀ x ∈ T, x.length ≤ 1000)
    (hj0 : EvF (fun K => laws_FnGrams.j0 K s p c n k T code false) true) : EvF (fun K => laws_FnGrams.f K s) true := by
  obtain ⟨K1, q1⟩ := h1
  obtain ⟨K2, q2⟩ := a1
  obtain ⟨K3, q3⟩ := a2
  obtain ⟨K4, q4⟩ := lists_refl T h5 h6
  obtain ⟨K5, q5⟩ := hj0
  dsimp only at q1 q2 q3 q4
  refine ⟨K1 + K2 + K3 + K4 + K5, fun k hk => ?_⟩
  show laws_FnGrams.f k s = some true
  unfold laws_FnGrams.f laws_big.f
  rw [Option.bind_some]
  by_cases hbig : (s.length : Int) > 4096
  · rw [decide_eq_true hbig, if_pos rfl]
  · rw [decide_eq_false hbig, if_neg (by simp), q1 k (by omega), Option.bind_some]
    simp only
    rw [q2 k (by omega), Option.bind_some, q3 k (by omega), Option.bind_some, if_pos rfl, q4 k (by omega), Option.bind_some]
    exact q5 k (by omega)
theorem lawEv {s : List Int} (hb : Byt s) (hl : (s.length : Int) ≤ 140737488351232) : EvF (fun k => laws_FnGrams.f k s) true := by
  obtain ⟨⟨p, c, n, k⟩, h1⟩ := dGram hb hl
  obtain ⟨⟨q, e, m, l⟩, h2⟩ := dRad hb hl
  obtain ⟨T, code, d, dc, r, rc, R, xc, a1, a2, a3, a4, a5, a6, a7, a8, a9, aF⟩ := grE p c n k
  obtain ⟨T', code', d', dc', r', rc', R', xc', b1, b2, b3, b4, b5, b6, b7, b8, b9, bF⟩ := grE q e m l
  exact topEv h1 a1 a2 a9.1 a9.2.1 (j0Ev a3 a4 (j1Ev a5 a6 (j2Ev h2 b7 b8 b9.2.2.1 b9.2.2.2 (j3Ev (j4Ev aF) b1 b5 bF))))
theorem FnGrams : laws_FnGrams.Pure := by
  intro s h1 h2 h3
  obtain ⟨K, h⟩ := lawEv (s := s) (fun x hx => by
    have := h3 x hx
    have e1 : IntKind.u8.min = 0 := by decide
    have e2 : IntKind.u8.max = 255 := by decide
    simp only [Lit.wf, e1, e2, Bool.and_eq_true, decide_eq_true_eq] at this
    omega) (by omega)
  exact ⟨K, h K (Nat.le_refl _)⟩

end Go.Proofs.Ytmpdloamgiejhaa.Pure
