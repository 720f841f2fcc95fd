/- Draws come out: plain lemmas. No condition. -/
import Derived.Test.YtmpdloamgiejhaaPAll
import Derived.Test.YtmpdloamgiejhaaQx2
import Derived.Laws.BitsLemmas
import Derived.Test.YtmpdloamgiejhaaQx4
import Derived.Test.YtmpdloamgiejhaaQx3
namespace Go.Proofs.Ytmpdloamgiejhaa.PD
open Go.RowKit Go.Proofs.Ytmpdloamgiejhaa.Q Go.Proofs.Ytmpdloamgiejhaa.Hand Go.Proofs.YtmpdloamgiejhaaW.PrintWords Go.Proofs.YtmpdloamgiejhaaW.PrintLast Go.Proofs.Ytmpdloamgiejhaa.PA
set_option linter.unusedVariables false
set_option linter.unusedSimpArgs false

/-- From some number of rounds on, always the same. -/
def EvF {α : Type} (f : Nat → Option α) (v : α) : Prop := ∃ K, ∀ k, K ≤ k → f k = some v
theorem EvF.now {α : Type} (v : α) : EvF (fun _ => some v) v := ⟨0, fun _ _ => rfl⟩
theorem EvF.bind {α β : Type} {f : Nat → Option α} {g : Nat → α → Option β} {a : α} {v : β} (h : EvF f a) (h2 : EvF (fun k => g k a) v) : EvF (fun k => (f k).bind (g k)) v := by
  obtain ⟨K1, h1⟩ := h
  obtain ⟨K2, h2⟩ := h2
  refine ⟨max K1 K2, fun k hk => ?_⟩
  show (f k).bind (g k) = some v
  rw [h1 k (by omega), Option.bind_some]
  exact h2 k (by omega)
theorem EvF.succ {α : Type} {f g : Nat → Option α} {v : α} (h : EvF g v) (he : ∀ k, f (k + 1) = g k) : EvF f v := by
  obtain ⟨K, h⟩ := h
  refine ⟨K + 1, fun k hk => ?_⟩
  obtain ⟨m, rfl⟩ : ∃ m, k = m + 1 := ⟨k - 1, by omega⟩
  rw [he]
  exact h m (by omega)
theorem EvF.of {α : Type} {f : Nat → Option α} {v : α} {k : Nat} (hm : ∀ k, LeO (f k) (f (k + 1))) (h : f k = some v) : EvF f v := ⟨k, fun m hk => at_rounds hm hk h⟩
theorem EvF.at {α : Type} {f : Nat → Option α} {v : α} {K : Nat} (h : ∀ k, K ≤ k → f k = some v) : EvF f v := ⟨K, h⟩
/-- The list holds bytes. -/
def Byt (s : List Int) : Prop := ∀ x ∈ s, 0 ≤ x ∧ x ≤ 255
theorem Byt.rd {s : List Int} (h : Byt s) (i : Int) : 0 ≤ rd s i ∧ rd s i ≤ 255 := by
  unfold Go.Proofs.YtmpdloamgiejhaaW.PrintWords.rd
  rw [List.getD_eq_getElem?_getD]
  cases he : s[i.toNat]? with
  | none => simp
  | some x => exact h x (List.mem_of_getElem? he)
theorem bits_range (x : Int) (h : 0 ≤ x) (h2 : x < 18446744073709551616) : 0 ≤ Go.bits .and .u64 (x / 8589934592) 16777215 ∧ Go.bits .and .u64 (x / 8589934592) 16777215 < 16777216 := by
  have := Go.bits_mask .u64 31 (by decide) (fun n h0 h1 => by
    show n % 18446744073709551616 = n
    have : (2 : Int) ^ 31 = 2147483648 := by decide
    omega) 24 (by decide) (x / 8589934592) (by omega) (by have : (2 : Int) ^ 31 = 2147483648 := by decide
                                                          omega)
  rw [show (2 : Int) ^ 24 - 1 = 16777215 by decide, show (2 : Int) ^ 24 = 16777216 by decide] at this
  rw [this]
  omega
theorem u64_range (x : Int) : 0 ≤ IntKind.u64.wrap x ∧ IntKind.u64.wrap x < 18446744073709551616 := by
  show 0 ≤ x % 18446744073709551616 ∧ x % 18446744073709551616 < 18446744073709551616
  omega
/-- A draw comes out: a number, and the source behind it. -/
def Out (s : List Int) (r : Option (Int × Int × Int)) (P : Int → Prop) : Prop := ∃ x i h, r = some (x, i, h) ∧ 0 ≤ i ∧ i ≤ (s.length : Int) ∧ P x
theorem next_out {s : List Int} (hb : Byt s) (hl : (s.length : Int) ≤ 140737488351232) {i : Int} (hi : 0 ≤ i) (hi2 : i ≤ (s.length : Int)) (h n : Int) : Out s (spec_l01Next.f s i h n) (fun x => 0 ≤ x ∧ (1 ≤ n → x < n)) := by
  unfold spec_l01Next.f
  by_cases h1 : n < 1
  · rw [if_pos h1]
    exact ⟨0, i, h, rfl, hi, hi2, by omega, fun h => by omega⟩
  · rw [if_neg h1]
    have u := u64_range ((IntKind.u64.wrap (h * 6364136223846793005)) + 1442695040888963407)
    generalize IntKind.u64.wrap ((IntKind.u64.wrap (h * 6364136223846793005)) + 1442695040888963407) = U at u ⊢
    have b := bits_range U u.1 u.2
    generalize Go.bits .and .u64 (U / 8589934592) 16777215 = B at b ⊢
    by_cases h2 : i < (s.length : Int)
    · have r := hb.rd i
      rw [if_pos h2, if_pos hi, if_neg (by omega)]
      refine ⟨_, _, _, rfl, ?_, ?_, ?_, fun _ => ?_⟩
      · rw [wrap_id (by omega) (by omega)]; omega
      · rw [wrap_id (by omega) (by omega)]; omega
      · rw [wrap_id (x := B) (by omega) (by omega), wrap_id (x := rd s i) (by omega) (by omega), wrap_id (by omega) (by omega)]
        exact Int.tmod_nonneg _ (by omega)
      · exact Int.tmod_lt_of_pos _ (by omega)
    · rw [if_neg h2, if_neg (by omega)]
      refine ⟨_, _, _, rfl, hi, hi2, ?_, fun _ => ?_⟩
      · rw [wrap_id (x := B) (by omega) (by omega)]
        exact Int.tmod_nonneg _ (by omega)
      · exact Int.tmod_lt_of_pos _ (by omega)
theorem pick_out {s : List Int} (hb : Byt s) (hl : (s.length : Int) ≤ 140737488351232) {i : Int} (hi : 0 ≤ i) (hi2 : i ≤ (s.length : Int)) (h : Int) (l : List Int) (hl0 : 0 < l.length) : Out s (spec_l01Pick.f s i h l) (fun _ => True) := by
  unfold spec_l01Pick.f
  obtain ⟨x, j, g, e, h1, h2, h3, h4⟩ := next_out hb hl hi hi2 h (l.length : Int)
  rw [e, Option.bind_some]
  rw [if_pos h3, if_pos (h4 (by omega))]
  exact ⟨_, _, _, rfl, h1, h2, trivial⟩
theorem from_go (s : List Int) : ∀ (d : Nat) (i h : Int), 0 ≤ i → 4096 - i = d → ∃ g, ∀ k, d < k → spec_l01From.l0 k s i s 0 h = some (s, 0, g) := by
  intro d
  induction d with
  | zero =>
    intro i h hi hd
    refine ⟨h, fun k hk => ?_⟩
    obtain ⟨k, rfl⟩ : ∃ m, k = m + 1 := ⟨k - 1, by omega⟩
    simp only [spec_l01From.l0]
    by_cases c : i < (s.length : Int)
    · rw [if_pos c, if_neg (by omega)]
    · rw [if_neg c]
  | succ d ih =>
    intro i h hi hd
    by_cases c : i < (s.length : Int)
    · obtain ⟨g, hg⟩ := ih (i + 1) (IntKind.u64.wrap ((IntKind.u64.wrap ((IntKind.u64.wrap (h * 1099511628211)) + (IntKind.u64.wrap (rd s i)))) + 67)) (by omega) (by omega)
      refine ⟨g, fun k hk => ?_⟩
      obtain ⟨k, rfl⟩ : ∃ m, k = m + 1 := ⟨k - 1, by omega⟩
      simp only [spec_l01From.l0]
      rw [if_pos c, if_pos (by omega), if_pos hi, wrap_id (x := i + 1) (by omega) (by omega)]
      exact hg k (by omega)
    · refine ⟨h, fun k hk => ?_⟩
      obtain ⟨k, rfl⟩ : ∃ m, k = m + 1 := ⟨k - 1, by omega⟩
      simp only [spec_l01From.l0]
      rw [if_neg c]
theorem from_out (s : List Int) : ∃ g, EvF (fun k => spec_l01From.f k s) (s, 0, g) := by
  obtain ⟨g, hg⟩ := from_go s 4096 0 (IntKind.u64.wrap (12511 + (IntKind.u64.wrap ((s.length : Int))))) (by omega) (by omega)
  refine ⟨g, 4097, fun k hk => ?_⟩
  unfold spec_l01From.f
  exact hg k (by omega)
theorem primeEv (p : Int) : EvF (fun k => spec_l01Prime.f k p) (isP p) := EvF.of (k := 300) (fun k => spec_l01Prime.mono p k) (specPrime p)
section
variable {s : List Int} (hb : Byt s) (hl : (s.length : Int) ≤ 140737488351232)
include hb hl
theorem four_out {i : Int} (hi : 0 ≤ i) (hi2 : i ≤ (s.length : Int)) (h : Int) : ∃ p c n k i' h', spec_l04Four.f s i h = some (p, c, n, k, i', h') ∧ 0 ≤ i' ∧ i' ≤ (s.length : Int) := by
  obtain ⟨x1, i1, h1, e1, a1, b1, _⟩ := pick_out hb hl hi hi2 h ([2, 3, 5, 5, 7, 7, 11, 13, 97] : List Int) (by simp)
  obtain ⟨x2, i2, h2, e2, a2, b2, _⟩ := next_out hb hl a1 b1 h1 x1
  obtain ⟨x3, i3, h3, e3, a3, b3, _⟩ := pick_out hb hl a2 b2 h2 ([1, 2, 3, 4, 4, 5, 6] : List Int) (by simp)
  obtain ⟨x4, i4, h4, e4, a4, b4, _⟩ := next_out hb hl a3 b3 h3 (wrap64 ((wrap64 (Int.tdiv x3 2)) + 1))
  obtain ⟨x5, i5, h5, e5, a5, b5, _⟩ := next_out hb hl a4 b4 h4 40
  by_cases c0 : x5 = 0
  · obtain ⟨x6, i6, h6, e6, a6, b6, _⟩ := pick_out hb hl a5 b5 h5 ([1, 4, 101] : List Int) (by simp)
    refine ⟨x6, x2, x3, wrap64 (x3 - (wrap64 (2 * x4))), i6, h6, ?_, a6, b6⟩
    simp only [spec_l04Four.f, spec_l01DrawPrime.f, e1, e2, e3, e4, e5, e6, Option.bind_some, if_pos c0]
  · by_cases c1 : x5 = 1
    · obtain ⟨x6, i6, h6, e6, a6, b6, _⟩ := pick_out hb hl a5 b5 h5 ([(-1), wrap64 ((wrap64 (x3 - (wrap64 (2 * x4)))) + 1)] : List Int) (by simp)
      refine ⟨x1, x2, x3, x6, i6, h6, ?_, a6, b6⟩
      simp only [spec_l04Four.f, spec_l01DrawPrime.f, e1, e2, e3, e4, e5, e6, Option.bind_some, if_neg c0, if_pos c1]
    · by_cases c2 : x5 = 2
      · obtain ⟨x6, i6, h6, e6, a6, b6, _⟩ := pick_out hb hl a5 b5 h5 ([0, 7] : List Int) (by simp)
        refine ⟨x1, x2, x6, wrap64 (x3 - (wrap64 (2 * x4))), i6, h6, ?_, a6, b6⟩
        simp only [spec_l04Four.f, spec_l01DrawPrime.f, e1, e2, e3, e4, e5, e6, Option.bind_some, if_neg c0, if_neg c1, if_pos c2]
      · refine ⟨x1, x2, x3, wrap64 (x3 - (wrap64 (2 * x4))), i5, h5, ?_, a5, b5⟩
        simp only [spec_l04Four.f, spec_l01DrawPrime.f, e1, e2, e3, e4, e5, Option.bind_some, if_neg c0, if_neg c1, if_neg c2]
theorem dGram : ∃ r, EvF (fun k => spec_DrawGramTable.f k s) r := by
  obtain ⟨g, hf⟩ := from_out s
  obtain ⟨p, c, n, k, i, h, e, _, _⟩ := four_out hb hl (Int.le_refl 0) (by omega) g
  refine ⟨(p, c, n, k), EvF.bind hf ?_⟩
  simp only [e, Option.bind_some]
  exact EvF.now _
theorem dRad : ∃ r, EvF (fun k => spec_DrawRadicalOf.f k s) r := by
  obtain ⟨g, hf⟩ := from_out s
  obtain ⟨p, c, n, k, i, h, e, a, b⟩ := four_out hb hl (Int.le_refl 0) (by omega) g
  cases hp : isP p with
  | false =>
    refine ⟨(p, c, n, k), EvF.bind hf ?_⟩
    simp only [e, Option.bind_some]
    refine EvF.bind (primeEv p) ?_
    simp only [hp, Bool.false_eq_true, if_false]
    exact EvF.now _
  | true =>
    obtain ⟨x, i2, h2, e2, a2, b2, _⟩ := next_out hb hl a b h 2
    by_cases hx : x = 0
    · obtain ⟨y, i3, h3, e3, _⟩ := pick_out hb hl a2 b2 h2 ([0, 1, wrap64 (p - 1)] : List Int) (by simp)
      refine ⟨(p, y, n, k), EvF.bind hf ?_⟩
      simp only [e, Option.bind_some]
      refine EvF.bind (primeEv p) ?_
      simp only [hp, if_true, e2, e3, Option.bind_some, if_pos hx]
      exact EvF.now _
    · refine ⟨(p, c, n, k), EvF.bind hf ?_⟩
      simp only [e, Option.bind_some]
      refine EvF.bind (primeEv p) ?_
      simp only [hp, if_true, e2, Option.bind_some, if_neg hx]
      exact EvF.now _
end

end Go.Proofs.Ytmpdloamgiejhaa.PD
namespace Go.Proofs.Ytmpdloamgiejhaa.PQ
open Go.RowKit Go.Proofs.Ytmpdloamgiejhaa.Q Go.Proofs.Ytmpdloamgiejhaa.Hand Go.Proofs.YtmpdloamgiejhaaW.PrintWords Go.Proofs.YtmpdloamgiejhaaW.PrintLast Go.Proofs.Ytmpdloamgiejhaa.PA Go.Proofs.Ytmpdloamgiejhaa.PE Go.Proofs.Ytmpdloamgiejhaa.PR Go.Proofs.Ytmpdloamgiejhaa.PN Go.Proofs.Ytmpdloamgiejhaa.PD
set_option linter.unusedVariables false
set_option linter.unusedSimpArgs false

theorem rd_nat (l : List Int) (i : Nat) : rd l (i : Int) = l.getD i 0 := by unfold Go.Proofs.YtmpdloamgiejhaaW.PrintWords.rd; rw [Int.toNat_natCast]
theorem rdL_nat (xs : List (List Int)) (i : Nat) : Q.rd_L2 xs (i : Int) = xs.getD i [] := by unfold Q.rd_L2; rw [Int.toNat_natCast]
theorem wn {i : Nat} (h : i ≤ 1000) : wrap64 ((i : Int) + 1) = ((i + 1 : Nat) : Int) := by unfold wrap64; omega
theorem row_len {L : List (List Int)} {n i : Nat} (h : ∀ x ∈ L, x.length = n) (hi : i < L.length) : (L.getD i []).length = n := by
  rw [List.getD_eq_getElem?_getD, List.getElem?_eq_getElem hi]
  exact h _ (List.getElem_mem _)
/-! #### equal lists -/
theorem like_go (l : List Int) (hl : l.length ≤ 1000) : ∀ (d i : Nat), i + d = l.length → EvF (fun k => laws_likeInts.l0 k l l (i : Int)) true := by
  intro d
  induction d with
  | zero => intro i h; exact EvF.succ (EvF.now true) (fun k => by simp only [laws_likeInts.l0]; rw [if_neg (by omega)])
  | succ d ih =>
    intro i h
    refine EvF.succ (ih (i + 1) (by omega)) (fun k => ?_)
    simp only [laws_likeInts.l0]
    rw [if_pos (by omega), if_pos (by omega), if_pos (by omega), if_pos trivial, wn (by omega)]
theorem like_refl (l : List Int) (hl : l.length ≤ 1000) : EvF (fun k => laws_likeInts.f k l l) true := by
  have h := like_go l hl l.length 0 (by omega)
  obtain ⟨K, h⟩ := h
  refine ⟨K, fun k hk => ?_⟩
  show laws_likeInts.f k l l = _
  unfold laws_likeInts.f
  rw [if_pos rfl]
  exact h k hk
theorem lists_go (L : List (List Int)) (hl : L.length ≤ 1000) (hr : ∀ x ∈ L, x.length ≤ 1000) : ∀ (d i : Nat), i + d = L.length → EvF (fun k => laws_lists9.l0 k L L (i : Int)) true := by
  intro d
  induction d with
  | zero => intro i h; exact EvF.succ (EvF.now true) (fun k => by simp only [laws_lists9.l0]; rw [if_neg (by omega)])
  | succ d ih =>
    intro i h
    have hlr := like_refl (L.getD i []) (by
      rw [List.getD_eq_getElem?_getD, List.getElem?_eq_getElem (by omega)]
      exact hr _ (List.getElem_mem _))
    refine EvF.succ (g := fun k => (laws_likeInts.f k (L.getD i []) (L.getD i [])).bind fun t => if t = true then laws_lists9.l0 k L L ((i + 1 : Nat) : Int) else some false) (EvF.bind hlr ?_) (fun k => ?_)
    · simp only [if_true]
      exact ih (i + 1) (by omega)
    · simp only [laws_lists9.l0]
      rw [if_pos (by omega), if_pos (by omega), if_pos (by omega), rdL_nat, wn (by omega)]
theorem lists_refl (L : List (List Int)) (hl : L.length ≤ 1000) (hr : ∀ x ∈ L, x.length ≤ 1000) : EvF (fun k => laws_lists9.f k L L) true := by
  obtain ⟨K, h⟩ := lists_go L hl hr L.length 0 (by omega)
  refine ⟨K, fun k hk => ?_⟩
  show laws_lists9.f k L L = _
  unfold laws_lists9.f
  rw [if_pos rfl]
  exact h k hk
/-! #### products -/
def pV (q : Int) (R T : List (List Int)) (i kk j : Nat) : Int := (sm (fun t => ent R i t * ent T t j) kk) % q
def mix (q : Int) (R T : List (List Int)) (n i kk j : Nat) : List Int := (List.range n).map fun j' => if j' < j then pV q R T i (kk + 1) j' else pV q R T i kk j'
theorem mix_len (q : Int) (R T : List (List Int)) (n i kk j : Nat) : (mix q R T n i kk j).length = n := by unfold mix; simp
theorem mix_get {q : Int} {R T : List (List Int)} {n i kk j l : Nat} (hl : l < n) : (mix q R T n i kk j).getD l 0 = if l < j then pV q R T i (kk + 1) l else pV q R T i kk l := by
  unfold mix
  rw [List.getD_eq_getElem?_getD, List.getElem?_map, List.getElem?_range hl]; rfl
theorem mix_full (q : Int) (R T : List (List Int)) (n i kk : Nat) : mix q R T n i kk n = mix q R T n i (kk + 1) 0 := by
  unfold mix
  refine List.map_congr_left fun l hl => ?_
  rw [if_pos (List.mem_range.1 hl), if_neg (by omega)]
theorem mix_zero (q : Int) (R T : List (List Int)) (n i : Nat) : mix q R T n i 0 0 = List.replicate n 0 := by
  refine row_ext (mix_len ..) (by simp) fun l hl => ?_
  rw [mix_get hl, if_neg (by omega), List.getD_eq_getElem?_getD, List.getElem?_replicate, if_pos hl]
  unfold pV
  rw [sm, Int.zero_emod]; rfl
theorem pV_step {q : Int} {R T : List (List Int)} (h2 : 2 ≤ q) (h1 : q ≤ 97) (hR : Rg q R) (hT : Rg q T) (i kk j : Nat) : Int.tmod (wrap64 (pV q R T i kk j + wrap64 (ent R i kk * ent T kk j))) q = pV q R T i (kk + 1) j := by
  have a := hR i kk
  have b := hT kk j
  have c := mul_rg h1 a.1 a.2 b.1 b.2
  have d : 0 ≤ pV q R T i kk j ∧ pV q R T i kk j < q := ⟨Int.emod_nonneg _ (by omega), Int.emod_lt_of_pos _ (by omega)⟩
  rw [wrap_id (x := ent R i kk * ent T kk j) (by omega) (by omega), wrap_id (by omega) (by omega), Int.tmod_eq_emod_of_nonneg (by omega)]
  unfold pV
  rw [Int.emod_add_emod]
  rfl
theorem mix_set {q : Int} {R T : List (List Int)} (h2 : 2 ≤ q) (h1 : q ≤ 97) (hR : Rg q R) (hT : Rg q T) {n i kk j : Nat} (hj : j < n) : (mix q R T n i kk j).set j (Int.tmod (wrap64 ((mix q R T n i kk j).getD j 0 + wrap64 (ent R i kk * ent T kk j))) q) = mix q R T n i kk (j + 1) := by
  refine row_ext (n := n) (by rw [List.length_set, mix_len]) (mix_len ..) fun l hl => ?_
  rw [getD_set _ _ _ _ _ (by rw [mix_len]; exact hj), mix_get hj, if_neg (Nat.lt_irrefl _), pV_step h2 h1 hR hT, mix_get hl, mix_get hl]
  by_cases e : j = l
  · subst e; rw [if_pos rfl, if_pos (by omega)]
  · rw [if_neg e]
    by_cases e2 : l < j
    · rw [if_pos e2, if_pos (by omega)]
    · rw [if_neg e2, if_neg (by omega)]
/-- Two tables whose product is made. -/
structure Sqs (q : Int) (R T : List (List Int)) : Prop where
  h2 : 2 ≤ q
  h1 : q ≤ 97
  hR : Rg q R
  hT : Rg q T
  ht : ∀ x ∈ T, x.length = T.length
  hr : ∀ x ∈ R, x.length = T.length
  h9 : T.length ≤ 9
  hr9 : R.length ≤ 9
section
variable {q : Int} {R T : List (List Int)} (H : Sqs q R T)
include H
theorem p2 {X : List (List Int)} {i kk : Nat} (hi : i < R.length) (hk : kk < T.length) {r : List (List Int)} (h : EvF (fun k => laws_product9.l1 k q R T X (i : Int) (mix q R T T.length i (kk + 1) 0) ((kk + 1 : Nat) : Int)) r) : ∀ (d j : Nat), j + d = T.length → EvF (fun k => laws_product9.l2 k q R T X (i : Int) (mix q R T T.length i kk j) (kk : Int) (j : Int)) r := by
  have h9 := H.h9
  have hr9 := H.hr9
  have h2 := H.h2
  intro d
  induction d with
  | zero =>
    intro j hj
    obtain rfl : j = T.length := by omega
    refine EvF.succ h (fun k => ?_)
    simp only [laws_product9.l2]
    rw [if_neg (by omega), mix_full, wn (by omega)]
  | succ d ih =>
    intro j hj
    refine EvF.succ (ih (j + 1) (by omega)) (fun k => ?_)
    have hjn : j < T.length := by omega
    simp only [laws_product9.l2]
    rw [rdL_nat, rdL_nat, rd_nat, rd_nat, rd_nat, if_pos (by omega), if_pos (by omega), if_pos (by rw [mix_len]; omega), if_pos (by omega), if_pos (by omega), if_pos (by omega), if_pos (by rw [row_len H.hr hi]; omega), if_pos (by omega), if_pos (by rw [row_len H.ht hk]; omega), if_neg (by omega), Int.toNat_natCast, wn (by omega)]
    have e := mix_set (n := T.length) (i := i) (kk := kk) H.h2 H.h1 H.hR H.hT hjn
    unfold ent at e
    rw [e]
theorem p1 {X : List (List Int)} {i : Nat} (hX : X.length ≤ 9) (hi : i < R.length) {r : List (List Int)} (h : EvF (fun k => laws_product9.l0 k q R T (X ++ [mix q R T T.length i T.length 0]) ((i + 1 : Nat) : Int)) r) : ∀ (d kk : Nat), kk + d = T.length → EvF (fun k => laws_product9.l1 k q R T X (i : Int) (mix q R T T.length i kk 0) (kk : Int)) r := by
  have h9 := H.h9
  have hr9 := H.hr9
  have h2 := H.h2
  intro d
  induction d with
  | zero =>
    intro kk hk
    obtain rfl : kk = T.length := by omega
    refine EvF.succ h (fun k => ?_)
    simp only [laws_product9.l1]
    rw [if_neg (by omega), if_pos (by omega), wn (by omega)]
  | succ d ih =>
    intro kk hk
    refine EvF.succ (p2 H hi (by omega) (ih (kk + 1) (by omega)) T.length 0 (by omega)) (fun k => ?_)
    simp only [laws_product9.l1]
    rw [if_pos (by omega)]; rfl
theorem p0 : ∀ (d i : Nat), i + d = R.length → EvF (fun k => laws_product9.l0 k q R T ((List.range i).map fun i => mix q R T T.length i T.length 0) (i : Int)) ((List.range R.length).map fun i => mix q R T T.length i T.length 0) := by
  have h9 := H.h9
  have hr9 := H.hr9
  have h2 := H.h2
  intro d
  induction d with
  | zero =>
    intro i hi
    obtain rfl : i = R.length := by omega
    refine EvF.succ (EvF.now _) (fun k => ?_)
    simp only [laws_product9.l0]
    rw [if_neg (by omega)]
  | succ d ih =>
    intro i hi
    have hn := ih (i + 1) (by omega)
    rw [List.range_succ, List.map_append] at hn
    refine EvF.succ (p1 H (by simp; omega) (by omega) hn T.length 0 (by omega)) (fun k => ?_)
    simp only [laws_product9.l0]
    rw [if_pos (by omega), if_pos (by omega), if_pos (by omega), Int.toNat_natCast, mix_zero]; rfl
theorem prod_zero (hp : ∀ i j, i < R.length → j < T.length → q ∣ sm (fun k => ent R i k * ent T k j) T.length) : EvF (fun k => laws_product9.f k q R T) (List.replicate R.length (List.replicate T.length 0)) := by
  have h := p0 H R.length 0 (by omega)
  have e : ((List.range R.length).map fun i => mix q R T T.length i T.length 0) = List.replicate R.length (List.replicate T.length 0) := by
    refine List.ext_getElem (by simp) fun i h1' h2' => ?_
    have hi : i < R.length := by simpa using h1'
    rw [List.getElem_map, List.getElem_range, List.getElem_replicate]
    refine row_ext (mix_len ..) (by simp) fun l hl => ?_
    rw [mix_get hl, if_neg (by omega), List.getD_eq_getElem?_getD, List.getElem?_replicate, if_pos hl]
    unfold pV
    exact Int.emod_eq_zero_of_dvd (hp i l hi hl)
  rw [e] at h
  exact h
theorem s1 {X : List (List Int)} {i : Nat} (hX : X.length ≤ 9) (hi : i < R.length) {r : List (List Int)} (h : EvF (fun k => laws_scaled9.l0 k q R 0 (X ++ [List.replicate T.length 0]) ((i + 1 : Nat) : Int)) r) : ∀ (d j : Nat), j + d = T.length → EvF (fun k => laws_scaled9.l1 k q R 0 X (i : Int) (List.replicate j 0) (j : Int)) r := by
  have h9 := H.h9
  have hr9 := H.hr9
  have h2 := H.h2
  intro d
  induction d with
  | zero =>
    intro j hj
    obtain rfl : j = T.length := by omega
    refine EvF.succ h (fun k => ?_)
    simp only [laws_scaled9.l1]
    rw [rdL_nat, if_pos (by omega), if_pos (by omega), if_neg (by rw [row_len H.hr hi]; omega), if_pos (by omega), wn (by omega)]
  | succ d ih =>
    intro j hj
    refine EvF.succ (ih (j + 1) (by omega)) (fun k => ?_)
    simp only [laws_scaled9.l1]
    rw [rdL_nat, if_pos (by omega), if_pos (by omega), if_pos (by rw [row_len H.hr hi]; omega), if_pos (by omega), if_neg (by omega), if_pos (by simp; omega), Int.mul_zero, wn (by omega), show wrap64 0 = 0 from by unfold wrap64; omega, Int.zero_tmod, List.replicate_succ']
theorem s0 : ∀ (d i : Nat), i + d = R.length → EvF (fun k => laws_scaled9.l0 k q R 0 (List.replicate i (List.replicate T.length 0)) (i : Int)) (List.replicate R.length (List.replicate T.length 0)) := by
  have h9 := H.h9
  have hr9 := H.hr9
  have h2 := H.h2
  intro d
  induction d with
  | zero =>
    intro i hi
    obtain rfl : i = R.length := by omega
    refine EvF.succ (EvF.now _) (fun k => ?_)
    simp only [laws_scaled9.l0]
    rw [if_neg (by omega)]
  | succ d ih =>
    intro i hi
    have hn := ih (i + 1) (by omega)
    rw [List.replicate_succ'] at hn
    refine EvF.succ (s1 H (by simp; omega) (by omega) hn T.length 0 (by omega)) (fun k => ?_)
    simp only [laws_scaled9.l0]
    rw [if_pos (by omega)]; rfl
theorem scaled_zero : EvF (fun k => laws_scaled9.f k q R 0) (List.replicate R.length (List.replicate T.length 0)) := s0 H R.length 0 (by omega)
end

end Go.Proofs.Ytmpdloamgiejhaa.PQ
