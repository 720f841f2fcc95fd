/- CountPaths: the program and the reference say the same; plain lemmas. No condition. -/
import Derived.Test.YtbkokdpginghoaaPA
import Derived.Test.YtbkokdpginghoaaQx10
import Derived.Test.YtbkokdpginghoaaQx9
namespace Go.Proofs.Ytbkokdpginghoaa.PP
open Go.RowKit Go.Proofs.Ytbkokdpginghoaa.Q Go.Proofs.YtbkokdpginghoaaW.PrintWords Go.Proofs.YtbkokdpginghoaaW.PrintLast Go.Proofs.Ytbkokdpginghoaa.PA

def InR (x : Int) : Prop := -9223372036854775808 ≤ x ∧ x ≤ 9223372036854775807
theorem inR_wrap (x : Int) : InR (wrap64 x) := by
  unfold InR wrap64
  omega
theorem rd_set (xs : List Int) (i : Nat) (v : Int) (j : Nat) (hi : i < xs.length) : rd (xs.set i v) (j : Int) = if j = i then v else rd xs (j : Int) := by
  unfold rd
  rw [Int.toNat_natCast, List.getD_eq_getElem?_getD, List.getD_eq_getElem?_getD, List.getElem?_set]
  by_cases h : j = i
  · subst h
    simp [hi]
  · rw [if_neg (by omega), if_neg h]
theorem rd_zeros (n j : Nat) : rd (List.replicate n (0 : Int)) (j : Int) = 0 := by
  unfold rd
  rw [List.getD_eq_getElem?_getD, List.getElem?_replicate]
  split <;> rfl
/-- At place j of a list stands v (a name that linear arithmetic does not open). -/
def At (xs : List Int) (j : Nat) (v : Int) : Prop := rd xs (j : Int) = v
/-- What stands beside place j in a row, 0 beyond its ends; the next row; the reference's next row when the places below i have been told. -/
def lft (f : Nat → Int) (j : Nat) : Int := if j = 0 then 0 else f (j - 1)
def rgt (f : Nat → Int) (z j : Nat) : Int := if j + 1 < z then f (j + 1) else 0
def G (f : Nat → Int) (z j : Nat) : Int := wrap64 (lft f j + rgt f z j)
def V (f : Nat → Int) (i j : Nat) : Int := if j + 1 < i then wrap64 (lft f j + f (j + 1)) else if j ≤ i then lft f j else 0
theorem lft_in {f : Nat → Int} (hf : ∀ j, InR (f j)) (j : Nat) : InR (lft f j) := by
  unfold lft
  split
  · unfold InR; omega
  · exact hf _
theorem wrap_in {x : Int} (h : InR x) : wrap64 x = x := wrap_id h.1 h.2
theorem V_end {f : Nat → Int} (hf : ∀ j, InR (f j)) {Z j : Nat} (hj : j < Z) : V f Z j = G f Z j := by
  unfold V G rgt
  by_cases h : j + 1 < Z
  · rw [if_pos h, if_pos h]
  · rw [if_neg h, if_neg h, if_pos (by omega), Int.add_zero, wrap_in (lft_in hf j)]
theorem V_left {f : Nat → Int} {i : Nat} (hi : 0 < i) : wrap64 (V f i (i - 1) + f i) = V f (i + 1) (i - 1) := by
  unfold V
  rw [if_neg (by omega), if_pos (by omega), if_pos (by omega), show i - 1 + 1 = i from by omega]
theorem V_right {f : Nat → Int} (hf : ∀ j, InR (f j)) {i : Nat} : wrap64 (V f i (i + 1) + f i) = V f (i + 1) (i + 1) := by
  unfold V
  rw [if_neg (by omega), if_neg (by omega), if_neg (by omega), if_pos (by omega), Int.zero_add, wrap_in (hf i)]
  unfold lft
  rw [if_neg (by omega)]
  rfl
theorem V_else {f : Nat → Int} {i j : Nat} (h1 : j + 1 ≠ i) (h2 : j ≠ i + 1) : V f i j = V f (i + 1) j := by
  unfold V
  by_cases h : j + 1 < i
  · rw [if_pos h, if_pos (by omega)]
  · rw [if_neg h]
    by_cases h3 : j ≤ i
    · rw [if_pos h3, if_neg (by omega), if_pos (by omega)]
    · rw [if_neg h3, if_neg (by omega), if_neg (by omega)]
set_option maxHeartbeats 400000 in
theorem spec_round (z n kk : Int) (now : List Int) (Z : Nat) (hZ : z = (Z : Int)) (hb : Z ≤ 100) (hl : now.length = Z) (f : Nat → Int) (hf : ∀ j, InR (f j)) (hnow : ∀ j : Nat, j < Z → rd now (j : Int) = f j) (hn : 1 ≤ n) (hn2 : n ≤ 40) :
    ∀ (d i : Nat) (nx : List Int), i + d = Z → nx.length = Z → (∀ j : Nat, j < Z → rd nx (j : Int) = V f i j) →
    ∃ ys : List Int, ys.length = Z ∧ (∀ j : Nat, j < Z → rd ys (j : Int) = G f Z j) ∧ ∀ v, Ev (fun k => spec_CountPaths.l0 k z (n - 1) kk ys) v → Ev (fun k => spec_CountPaths.l1 k z n kk now nx (i : Int)) v := by
  intro d
  induction d with
  | zero =>
    intro i nx hi hx hv
    refine ⟨nx, hx, fun j hj => ?_, fun v h => ?_⟩
    · rw [hv j hj, show i = Z from by omega, V_end hf hj]
    · refine Ev.step (f := fun k => spec_CountPaths.l0 k z (n - 1) kk nx) (fun k => ?_) h
      simp only [spec_CountPaths.l1]
      rw [if_neg (by omega), wrap_id (by omega) (by omega)]
  | succ d ih =>
    intro i nx hi hx hv
    have e2 : wrap64 ((i : Int) + 1) = ((i + 1 : Nat) : Int) := by rw [wrap_id (by omega) (by omega)]; omega
    by_cases h0 : 0 < i
    · have e1 : wrap64 ((i : Int) - 1) = ((i - 1 : Nat) : Int) := by rw [wrap_id (by omega) (by omega)]; omega
      have v1 : wrap64 (rd nx ((i - 1 : Nat) : Int) + rd now (i : Int)) = V f (i + 1) (i - 1) := by rw [hv _ (by omega), hnow _ (by omega), V_left h0]
      have hx' : (nx.set (i - 1) (V f (i + 1) (i - 1))).length = Z := by rw [List.length_set, hx]
      by_cases h1 : i + 1 < Z
      · have v2 : wrap64 (rd (nx.set (i - 1) (V f (i + 1) (i - 1))) ((i + 1 : Nat) : Int) + rd now (i : Int)) = V f (i + 1) (i + 1) := by
          rw [rd_set _ _ _ _ (by omega), if_neg (by omega), hv _ h1, hnow _ (by omega), V_right hf]
        obtain ⟨ys, a, b, c⟩ := ih (i + 1) ((nx.set (i - 1) (V f (i + 1) (i - 1))).set (i + 1) (V f (i + 1) (i + 1))) (by omega) (by rw [List.length_set, hx']) (by
          intro j hj
          rw [rd_set _ _ _ _ (by omega), rd_set _ _ _ _ (by omega)]
          by_cases ha : j = i + 1
          · rw [if_pos ha, ha]
          · rw [if_neg ha]
            by_cases hb : j = i - 1
            · rw [if_pos hb, hb]
            · rw [if_neg hb, hv j hj, V_else (by omega) ha])
        refine ⟨ys, a, b, fun v h => Ev.step (fun k => ?_) (c v h)⟩
        simp only [spec_CountPaths.l1, e1, e2, Int.toNat_natCast, v1, v2, Option.bind_some]
        rw [if_pos (by omega), if_pos (by omega), if_pos (by omega), if_pos (by omega), if_pos (by omega), if_pos (by omega), if_pos (by omega), if_pos (by omega), if_pos (by omega)]
      · obtain ⟨ys, a, b, c⟩ := ih (i + 1) (nx.set (i - 1) (V f (i + 1) (i - 1))) (by omega) hx' (by
          intro j hj
          rw [rd_set _ _ _ _ (by omega)]
          by_cases hb : j = i - 1
          · rw [if_pos hb, hb]
          · rw [if_neg hb, hv j hj, V_else (by omega) (by omega)])
        refine ⟨ys, a, b, fun v h => Ev.step (fun k => ?_) (c v h)⟩
        simp only [spec_CountPaths.l1, e1, e2, Int.toNat_natCast, v1, Option.bind_some]
        rw [if_pos (by omega), if_pos (by omega), if_pos (by omega), if_pos (by omega), if_pos (by omega), if_pos (by omega), if_neg (by omega)]
    · by_cases h1 : i + 1 < Z
      · have v2 : wrap64 (rd nx ((i + 1 : Nat) : Int) + rd now (i : Int)) = V f (i + 1) (i + 1) := by
          rw [hv _ h1, hnow _ (by omega), V_right hf]
        obtain ⟨ys, a, b, c⟩ := ih (i + 1) (nx.set (i + 1) (V f (i + 1) (i + 1))) (by omega) (by rw [List.length_set, hx]) (by
          intro j hj
          rw [rd_set _ _ _ _ (by omega)]
          by_cases ha : j = i + 1
          · rw [if_pos ha, ha]
          · rw [if_neg ha, hv j hj, V_else (by omega) ha])
        refine ⟨ys, a, b, fun v h => Ev.step (fun k => ?_) (c v h)⟩
        simp only [spec_CountPaths.l1, e2, Int.toNat_natCast, v2]
        rw [if_pos (by omega), if_neg (by omega), if_pos (by omega), if_pos (by omega), if_pos (by omega), if_pos (by omega), if_pos (by omega)]
      · obtain ⟨ys, a, b, c⟩ := ih (i + 1) nx (by omega) hx (by
          intro j hj
          rw [hv j hj, V_else (by omega) (by omega)])
        refine ⟨ys, a, b, fun v h => Ev.step (fun k => ?_) (c v h)⟩
        simp only [spec_CountPaths.l1, e2]
        rw [if_pos (by omega), if_neg (by omega), if_neg (by omega)]
set_option maxHeartbeats 400000 in
theorem impl_round (z n kk t : Int) (many : List Int) (Z : Nat) (hZ : z = (Z : Int)) (hb : Z ≤ 100) (hl : many.length = Z + 2) (f : Nat → Int) (hm : ∀ j : Nat, j < Z → rd many ((j + 1 : Nat) : Int) = f j) (hm0 : At many 0 0) (hm1 : At many (Z + 1) 0) (ht : 0 ≤ t) (ht2 : t ≤ 40) :
    ∀ (d i : Nat) (nx : List Int), i + d = Z → nx.length = Z + 2 → (∀ j : Nat, j < i → rd nx ((j + 1 : Nat) : Int) = G f Z j) → At nx 0 0 → At nx (Z + 1) 0 →
    ∃ ys : List Int, ys.length = Z + 2 ∧ (∀ j : Nat, j < Z → rd ys ((j + 1 : Nat) : Int) = G f Z j) ∧ At ys 0 0 ∧ At ys (Z + 1) 0 ∧ ∀ v, Ev (fun k => impl_CountPaths.l0 k z kk ys n (t + 1)) v → Ev (fun k => impl_CountPaths.l1 k z kk many nx n t z (i : Int)) v := by
  intro d
  induction d with
  | zero =>
    intro i nx hi hx hv hv0 hv1
    refine ⟨nx, hx, fun j hj => hv j (by omega), hv0, hv1, fun v h => ?_⟩
    refine Ev.step (fun k => ?_) h
    simp only [impl_CountPaths.l1]
    rw [if_neg (by omega), wrap_id (by omega) (by omega)]
  | succ d ih =>
    intro i nx hi hx hv hv0 hv1
    have e1 : wrap64 ((i : Int) + 1) = ((i + 1 : Nat) : Int) := by rw [wrap_id (by omega) (by omega)]; omega
    have e2 : wrap64 ((i : Int) + 2) = ((i + 2 : Nat) : Int) := by rw [wrap_id (by omega) (by omega)]; omega
    have a1 : rd many (i : Int) = lft f i := by
      unfold lft
      by_cases h : i = 0
      · subst h; rw [if_pos rfl]; exact hm0
      · rw [if_neg h]
        have := hm (i - 1) (by omega)
        rwa [show i - 1 + 1 = i from by omega] at this
    have a2 : rd many ((i + 2 : Nat) : Int) = rgt f Z i := by
      unfold rgt
      by_cases h : i + 1 < Z
      · rw [if_pos h]; exact hm (i + 1) h
      · rw [if_neg h, show i + 2 = Z + 1 from by omega]; exact hm1
    have v1 : wrap64 (rd many (i : Int) + rd many ((i + 2 : Nat) : Int)) = G f Z i := by rw [a1, a2]; rfl
    obtain ⟨ys, a, b, c0, c1, c⟩ := ih (i + 1) (nx.set (i + 1) (G f Z i)) (by omega) (by rw [List.length_set, hx]) (by
      intro j hj
      rw [rd_set _ _ _ _ (by omega)]
      by_cases h : j = i
      · rw [if_pos (by omega), h]
      · rw [if_neg (by omega)]; exact hv j (by omega)) (by unfold At; rw [rd_set _ _ _ _ (by omega), if_neg (by omega)]; exact hv0) (by unfold At; rw [rd_set _ _ _ _ (by omega), if_neg (by omega)]; exact hv1)
    refine ⟨ys, a, b, c0, c1, fun v h => Ev.step (fun k => ?_) (c v h)⟩
    simp only [impl_CountPaths.l1, e1, e2, Int.toNat_natCast, v1]
    rw [if_pos (by omega), if_pos (by omega), if_pos (by omega), if_pos (by omega), if_pos (by omega), if_pos (by omega), if_pos (by omega)]
set_option maxHeartbeats 400000 in
theorem rounds (z n kk : Int) (Z : Nat) (hZ : z = (Z : Int)) (hb : Z ≤ 100) (hk : 0 ≤ kk) (hk1 : kk < z) (hn2 : n ≤ 40) :
    ∀ (d : Nat) (now many : List Int) (f : Nat → Int), (d : Int) ≤ n → (∀ j, InR (f j)) → now.length = Z → (∀ j : Nat, j < Z → rd now (j : Int) = f j) → many.length = Z + 2 → (∀ j : Nat, j < Z → rd many ((j + 1 : Nat) : Int) = f j) → At many 0 0 → At many (Z + 1) 0 →
    ∃ v, Ev (fun k => spec_CountPaths.l0 k z (d : Int) kk now) v ∧ Ev (fun k => impl_CountPaths.l0 k z kk many n (n - d)) v := by
  intro d
  induction d with
  | zero =>
    intro now many f hd hf hl hv hml hm hm0 hm1
    obtain ⟨K, rfl⟩ := Int.eq_ofNat_of_zero_le hk
    have e1 : wrap64 ((K : Int) + 1) = ((K + 1 : Nat) : Int) := by rw [wrap_id (by omega) (by omega)]; omega
    refine ⟨(f K, 0), ⟨1, fun k hk => ?_⟩, ⟨1, fun k hk => ?_⟩⟩
    · obtain ⟨k, rfl⟩ : ∃ m, k = m + 1 := ⟨k - 1, by omega⟩
      simp only [spec_CountPaths.l0]
      rw [if_neg (by omega), if_pos (by omega), if_pos (by omega), hv K (by omega)]
    · obtain ⟨k, rfl⟩ : ∃ m, k = m + 1 := ⟨k - 1, by omega⟩
      simp only [impl_CountPaths.l0, e1]
      rw [if_neg (by omega), if_pos (by omega), if_pos (by omega), hm K (by omega)]
  | succ d ih =>
    intro now many f hd hf hl hv hml hm hm0 hm1
    obtain ⟨ys, a, b, c⟩ := spec_round z ((d + 1 : Nat) : Int) kk now Z hZ hb hl f hf hv (by omega) (by omega) Z 0 (List.replicate Z 0) (by omega) (by simp) (by
      intro j hj
      rw [rd_zeros]
      unfold V lft
      rw [if_neg (by omega)]
      split
      · rw [if_pos (by omega)]
      · rfl)
    obtain ⟨ws, a', b', c0, c1, c'⟩ := impl_round z n kk (n - (d + 1 : Nat)) many Z hZ hb hml f hm hm0 hm1 (by omega) (by omega) Z 0 (List.replicate (Z + 2) 0) (by omega) (by simp) (by intro j hj; omega) (rd_zeros _ _) (rd_zeros _ _)
    obtain ⟨v, h1, h2⟩ := ih ys ws (G f Z) (by omega) (fun j => inR_wrap _) a b a' b' c0 c1
    refine ⟨v, ?_, ?_⟩
    · refine Ev.step (fun k => ?_) (c v (by rw [show (((d + 1 : Nat) : Int) - 1) = (d : Int) from by omega]; exact h1))
      simp only [spec_CountPaths.l0]
      rw [if_pos (by omega), if_pos (by omega), if_pos (by omega), show z.toNat = Z from by omega]
      rfl
    · have e2 : wrap64 (z + 2) = ((Z + 2 : Nat) : Int) := by rw [wrap_id (by omega) (by omega)]; omega
      refine Ev.step (fun k => ?_) (c' v (by rw [show (n - ((d + 1 : Nat) : Int) + 1) = n - (d : Int) from by omega]; exact h2))
      simp only [impl_CountPaths.l0, e2]
      rw [if_pos (by omega), if_pos (by omega), if_pos (by omega), Int.toNat_natCast]
      rfl
set_option maxHeartbeats 400000 in

theorem cpBoth (z n kk : Int) : ∃ k v, spec_CountPaths.f k z n kk = some v ∧ impl_CountPaths.f k z n kk = some v := by
  by_cases hz : 1 ≤ z ∧ z ≤ 100
  · by_cases hn : 0 ≤ n ∧ n ≤ 40
    · by_cases hk : 0 ≤ kk ∧ kk ≤ z - 1
      · obtain ⟨Z, rfl⟩ := Int.eq_ofNat_of_zero_le (show 0 ≤ z by omega)
        obtain ⟨N, rfl⟩ := Int.eq_ofNat_of_zero_le hn.1
        obtain ⟨v, h1, h2⟩ := rounds Z N kk Z rfl (by omega) hk.1 (by omega) hn.2 N ((List.replicate Z 0).set 0 1) ((List.replicate (Z + 2) 0).set 1 1) (fun j => if j = 0 then 1 else 0) (by omega)
          (by intro j; unfold InR; split <;> omega) (by simp) (by intro j hj; rw [rd_set _ _ _ _ (by simp; omega), rd_zeros]) (by simp)
          (by intro j hj; rw [rd_set _ _ _ _ (by simp), rd_zeros]; by_cases h : j = 0 <;> simp [h]) (by unfold At; rw [rd_set _ _ _ _ (by simp), rd_zeros]; rfl) (by unfold At; rw [rd_set _ _ _ _ (by simp), rd_zeros, if_neg (by omega)])
        obtain ⟨K1, h1⟩ := h1
        obtain ⟨K2, h2⟩ := h2
        have e2 : wrap64 ((Z : Int) + 2) = ((Z + 2 : Nat) : Int) := by rw [wrap_id (by omega) (by omega)]; omega
        have e3 : wrap64 ((Z : Int) - 1) = (Z : Int) - 1 := wrap_id (by omega) (by omega)
        refine ⟨max K1 K2 + 1, v, ?_, ?_⟩
        · unfold spec_CountPaths.f
          rw [specIn, decide_eq_true hz, specIn, decide_eq_true hn, e3, specIn, decide_eq_true hk]
          simp only [Option.bind_some, if_true, Bool.not_true, spec_CountPaths.j0, Int.toNat_natCast]
          rw [if_neg (by simp), if_pos (by omega), if_pos (by omega), if_pos (by simp; omega)]
          exact h1 _ (by omega)
        · unfold impl_CountPaths.f
          rw [implIn, decide_eq_true hz, implIn, decide_eq_true hn, e3, implIn, decide_eq_true hk]
          simp only [Option.bind_some, if_true, Bool.not_true, impl_CountPaths.j0, Int.toNat_natCast, e2]
          rw [if_neg (by simp), if_pos (by omega), if_pos (by omega), if_pos (by simp; omega)]
          have := h2 (max K1 K2) (by omega)
          rw [Int.sub_self] at this
          exact this
      · refine ⟨1, (0, 2), ?_, ?_⟩
        · unfold spec_CountPaths.f
          rw [wrap_id (by omega) (by omega), specIn, decide_eq_true hz, specIn, decide_eq_true hn, specIn, decide_eq_false hk]
          rfl
        · unfold impl_CountPaths.f
          rw [wrap_id (by omega) (by omega), implIn, decide_eq_true hz, implIn, decide_eq_true hn, implIn, decide_eq_false hk]
          rfl
    · refine ⟨1, (0, 2), ?_, ?_⟩
      · unfold spec_CountPaths.f
        rw [specIn, decide_eq_true hz, specIn, decide_eq_false hn]
        rfl
      · unfold impl_CountPaths.f
        rw [implIn, decide_eq_true hz, implIn, decide_eq_false hn]
        rfl
  · refine ⟨1, (0, 2), ?_, ?_⟩
    · unfold spec_CountPaths.f
      rw [specIn, decide_eq_false hz]
      rfl
    · unfold impl_CountPaths.f
      rw [implIn, decide_eq_false hz]
      rfl

end Go.Proofs.Ytbkokdpginghoaa.PP
