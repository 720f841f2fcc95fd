/- Texts of brackets, all of them of meanders, their orders and their turns: plain lemmas. No condition. -/
import Derived.Test.YtopcnhppbmmbbaaPD
import Derived.Test.YtopcnhppbmmbbaaPE
namespace Go.Proofs.Ytopcnhppbmmbbaa.PF
open Go.RowKit Go.Proofs.Ytopcnhppbmmbbaa.Q Go.Proofs.Ytopcnhppbmmbbaa.Hand Go.Proofs.YtopcnhppbmmbbaaW.PrintWords Go.Proofs.YtopcnhppbmmbbaaW.PrintLast Go.Proofs.Ytopcnhppbmmbbaa.PA Go.Proofs.Ytopcnhppbmmbbaa.PC Go.Proofs.Ytopcnhppbmmbbaa.PD Go.Proofs.Ytopcnhppbmmbbaa.PE
set_option linter.unusedVariables false
set_option linter.unusedSimpArgs false

/-! #### texts of brackets, all of them -/
def dy : Nat → Nat → List (List Int)
  | 0, 0 => [[]]
  | 0, _ + 1 => []
  | d + 1, 0 => (dy d 1).map (fun t => 40 :: t)
  | d + 1, o + 1 => (dy d (o + 2)).map (fun t => 40 :: t) ++ (dy d o).map (fun t => 41 :: t)
theorem dy_open {d o : Nat} {t : List Int} (h : t ∈ dy d (o + 1)) : (40 :: t) ∈ dy (d + 1) o := by
  cases o with
  | zero => exact List.mem_map.2 ⟨t, h, rfl⟩
  | succ o => exact List.mem_append.2 (.inl (List.mem_map.2 ⟨t, h, rfl⟩))
theorem dy_shut {d o : Nat} {t : List Int} (h : t ∈ dy d o) : (41 :: t) ∈ dy (d + 1) (o + 1) := List.mem_append.2 (.inr (List.mem_map.2 ⟨t, h, rfl⟩))
def bys (s : ByteArray) (i d : Nat) : List Int := (List.range d).map fun (j : Nat) => bt s ((i + j : Nat) : Int)
theorem bys_succ (s : ByteArray) (i d : Nat) : bys s i (d + 1) = bt s (i : Int) :: bys s (i + 1) d := by
  unfold bys
  rw [List.range_succ_eq_map, List.map_cons, List.map_map]
  congr 1
  refine List.map_congr_left fun j _ => ?_
  show bt s ((i + (j + 1) : Nat) : Int) = bt s ((i + 1 + j : Nat) : Int)
  rw [show i + (j + 1) = i + 1 + j by omega]
theorem bys_len (s : ByteArray) (i d : Nat) : (bys s i d).length = d := by simp [bys]
theorem str_bys (s : ByteArray) : strOfNums (bys s 0 s.size) = s := by
  have h1 : (bys s 0 s.size).map (fun n => UInt8.ofNat n.toNat) = s.data.toList := by
    apply List.ext_getElem
    · rw [List.length_map, bys_len, Array.length_toList]
      rfl
    · intro j h1 h2
      have hj : j < s.size := by rw [List.length_map, bys_len] at h1; exact h1
      simp only [bys, List.getElem_map, List.getElem_range]
      have : bt s ((0 + j : Nat) : Int) = ((s[j]'hj).toNat : Int) := by
        unfold bt
        rw [Nat.zero_add, Int.toNat_natCast, dif_pos hj]
      rw [this, Int.toNat_natCast, UInt8.ofNat_toNat]
      rfl
  unfold strOfNums
  rw [h1]
theorem dy_go (s : ByteArray) (hb : s.size ≤ 1048576) : ∀ (d i k : Nat) (p st : List Int) (r : List Int), i + d = s.size → st.length ≤ i → impl_partners.l0 k s p st (s.size : Int) (i : Int) = some (r, true) → bys s i d ∈ dy d st.length := by
  intro d
  induction d with
  | zero =>
    intro i k p st r hi hle h
    cases k with
    | zero => simp [impl_partners.l0] at h
    | succ k =>
      simp only [impl_partners.l0] at h
      rw [if_neg (by omega)] at h
      have h0 : ((st.length : Int) == 0) = true := (Prod.mk.inj (Option.some.inj h)).2
      have : st.length = 0 := by simpa using h0
      rw [this]
      simp [bys, dy]
  | succ d ih =>
    intro i k p st r hi hle h
    cases k with
    | zero => simp [impl_partners.l0] at h
    | succ k =>
      simp only [impl_partners.l0] at h
      rw [if_pos (by omega), if_pos (by omega), if_pos (by omega), bys_succ] at *
      by_cases h40 : bt s (i : Int) = 40
      · rw [if_pos h40, if_pos (by omega), wrap_nat (by omega)] at h
        rw [h40]
        have := ih (i + 1) k p (st ++ [(i : Int)]) r (by omega) (by simp; omega) h
        rw [List.length_append, List.length_singleton] at this
        exact dy_open this
      · rw [if_neg h40] at h
        by_cases h41 : bt s (i : Int) = 41
        · rw [if_pos h41] at h
          rw [h41]
          by_cases h0 : (st.length : Int) = 0
          · rw [if_pos h0] at h
            cases h
          · rw [if_neg h0, wrap_nat (by omega), show wrap64 ((st.length : Int) - 1) = ((st.length - 1 : Nat) : Int) by rw [wrap_id (by omega) (by omega)]; omega] at h
            simp only [Int.toNat_natCast] at h
            repeat (split at h <;> first | (exact absurd h (by intro e_; cases e_)) | skip)
            have := ih (i + 1) k _ (st.take (st.length - 1)) r (by omega) (by rw [List.length_take]; omega) h
            rw [List.length_take, show min (st.length - 1) st.length = st.length - 1 by omega] at this
            obtain ⟨o, ho⟩ : ∃ o, st.length = o + 1 := ⟨st.length - 1, by omega⟩
            rw [ho] at this ⊢
            exact dy_shut this
        · rw [if_neg h41] at h
          cases h
/-- What is looked at of each text: its letters come back out of its joined places, its turn is a system, it has as many curves as arches with itself. -/
def chk (t : List Int) : Bool :=
  match impl_partners.f 40 (strOfNums t) with
  | some (p, true) => decide (signs p p.length = t) && ((match impl_partners.f 40 (strOfNums (signs (turned p p.length p.length) p.length)) with
      | some (p', true) => decide (p' = turned p p.length p.length)
      | _ => false) && decide (impl_components.f 400 (strOfNums t) (strOfNums t) = some ((p.length / 2 : Nat) : Int)))
  | _ => false
set_option maxRecDepth 100000 in
theorem chk2 : (dy 2 0).all chk = true := by decide +kernel
set_option maxRecDepth 100000 in
theorem chk4 : (dy 4 0).all chk = true := by decide +kernel
set_option maxRecDepth 100000 in
theorem chk6 : (dy 6 0).all chk = true := by decide +kernel
set_option maxRecDepth 100000 in
theorem chk8 : (dy 8 0).all chk = true := by decide +kernel
set_option maxRecDepth 100000 in
theorem chk10 : (dy 10 0).all chk = true := by decide +kernel
set_option maxRecDepth 100000 in
theorem chk12 : (dy 12 0).all chk = true := by decide +kernel
theorem chk_all (n : Nat) (h1 : 2 ≤ n) (h2 : n ≤ 12) (h3 : n % 2 = 0) : ∀ t ∈ dy n 0, chk t = true := by
  have : n = 2 ∨ n = 4 ∨ n = 6 ∨ n = 8 ∨ n = 10 ∨ n = 12 := by omega
  rcases this with rfl | rfl | rfl | rfl | rfl | rfl
  · exact List.all_eq_true.1 chk2
  · exact List.all_eq_true.1 chk4
  · exact List.all_eq_true.1 chk6
  · exact List.all_eq_true.1 chk8
  · exact List.all_eq_true.1 chk10
  · exact List.all_eq_true.1 chk12
theorem partners_at (s : ByteArray) (p : List Int) (hsz : s.size ≤ 1048576) {k : Nat} (hk : impl_partners.f k s = some (p, true)) : bys s 0 s.size ∈ dy s.size 0 := by
  unfold impl_partners.f at hk
  rw [if_pos (by omega), if_pos (by omega)] at hk
  exact dy_go s hsz s.size 0 k _ [] p (by omega) (by simp) hk
theorem sysFacts (s : ByteArray) (p : List Int) (hs : ∀ k, s.size < k → impl_partners.f k s = some (p, true)) (h1 : 2 ≤ s.size) (h2 : s.size ≤ 12) (h3 : s.size % 2 = 0) :
    strOfNums (signs p p.length) = s ∧ (∀ k, 40 ≤ k → impl_partners.f k (strOfNums (signs (turned p p.length p.length) p.length)) = some (turned p p.length p.length, true)) ∧ (∀ k, 400 ≤ k → impl_components.f k s s = some ((p.length / 2 : Nat) : Int)) := by
  have hm := partners_at s p (by omega) (hs 40 (by omega))
  have hc := chk_all s.size h1 h2 h3 _ hm
  unfold chk at hc
  rw [str_bys, hs 40 (by omega)] at hc
  simp only [Bool.and_eq_true, decide_eq_true_eq] at hc
  obtain ⟨c1, c2, c3⟩ := hc
  refine ⟨by rw [c1, str_bys], fun k hk => ?_, fun k hk => at_rounds (impl_components.mono s s) hk c3⟩
  refine at_rounds (impl_partners.mono _) hk ?_
  generalize impl_partners.f 40 (strOfNums (signs (turned p p.length p.length) p.length)) = z at c2 ⊢
  match z, c2 with
  | some (p', true), c2 =>
    have := of_decide_eq_true c2
    rw [this]
  | some (_, false), c2 => cases c2
  | none, c2 => cases c2
/-! #### the joined places that an order tells -/
theorem two_sets (u : List Int) (a b y : Nat) (v w : Int) (ha : a < u.length) (hb : b < u.length) : rd ((u.set a v).set b w) (y : Int) = if y = b then w else if y = a then v else rd u (y : Int) := by
  rw [rd_set (u.set a v) b w y (by rw [List.length_set]; exact hb), rd_set u a v y ha]
theorem mt_spec (l : List Int) (n : Nat) (L : Nat → Nat) (he : n % 2 = 0) (hL : ∀ t, t < n → rd l (t : Int) = (L t : Int)) (hl : ∀ t, t < n → L t < n) (inj : ∀ a b, a < n → b < n → L a = L b → a = b) : ∀ i, i ≤ n →
    (∀ t, t < i → t % 2 = 0 → rd (mtS l n i).1 (L t : Int) = (L (t + 1) : Int) ∧ rd (mtS l n i).1 (L (t + 1) : Int) = (L t : Int)) ∧
    (∀ t, t < i → t % 2 = 1 → rd (mtS l n i).2 (L t : Int) = (L ((t + 1) % n) : Int) ∧ rd (mtS l n i).2 (L ((t + 1) % n) : Int) = (L t : Int)) := by
  intro i
  induction i with
  | zero => intro _; exact ⟨fun t h => by omega, fun t h => by omega⟩
  | succ i ih =>
    intro hi
    obtain ⟨ihA, ihB⟩ := ih (by omega)
    have lens := mtS_len l n i
    have hm : (i + 1) % n < n := Nat.mod_lt _ (by omega)
    have ex : (rd l (i : Int)).toNat = L i := by rw [hL i (by omega), Int.toNat_natCast]
    have ey : (rd l (((i + 1) % n : Nat) : Int)).toNat = L ((i + 1) % n) := by rw [hL _ hm, Int.toNat_natCast]
    have hLi := hl i (by omega)
    have hLm := hl _ hm
    by_cases par : i % 2 = 0
    · have e1 : (i + 1) % n = i + 1 := Nat.mod_eq_of_lt (by omega)
      rw [e1] at ey hLm
      have e2 : mtS l n (i + 1) = ((((mtS l n i).1.set (L i) (L (i + 1) : Int)).set (L (i + 1)) (L i : Int)), (mtS l n i).2) := by
        simp only [mtS]
        rw [if_pos par, e1, ex, ey, hL i (by omega), hL (i + 1) (by omega)]
      rw [e2]
      refine ⟨fun t ht hp => ?_, fun t ht hp => ihB t (by omega) hp⟩
      have hne : L i ≠ L (i + 1) := fun h => by have := inj i (i + 1) (by omega) (by omega) h; omega
      simp only
      rw [two_sets _ _ _ _ _ _ (by omega) (by omega), two_sets _ _ _ _ _ _ (by omega) (by omega)]
      by_cases ht' : t = i
      · rw [ht', if_neg hne, if_pos rfl, if_pos rfl]
        exact ⟨rfl, rfl⟩
      · have a1 : L t ≠ L (i + 1) := fun h => by have := inj t (i + 1) (by omega) (by omega) h; omega
        have a2 : L t ≠ L i := fun h => by have := inj t i (by omega) (by omega) h; omega
        have a3 : L (t + 1) ≠ L (i + 1) := fun h => by have := inj (t + 1) (i + 1) (by omega) (by omega) h; omega
        have a4 : L (t + 1) ≠ L i := fun h => by have := inj (t + 1) i (by omega) (by omega) h; omega
        rw [if_neg a1, if_neg a2, if_neg a3, if_neg a4]
        exact ihA t (by omega) hp
    · have e2 : mtS l n (i + 1) = ((mtS l n i).1, (((mtS l n i).2.set (L i) (L ((i + 1) % n) : Int)).set (L ((i + 1) % n)) (L i : Int))) := by
        simp only [mtS]
        rw [if_neg par, ex, ey, hL i (by omega), hL _ hm]
      rw [e2]
      refine ⟨fun t ht hp => ihA t (by omega) hp, fun t ht hp => ?_⟩
      have hmi : (i + 1) % n = i + 1 ∧ i + 1 < n ∨ (i + 1) % n = 0 ∧ i + 1 = n := by
        rcases Nat.lt_or_ge (i + 1) n with h | h
        · exact .inl ⟨Nat.mod_eq_of_lt h, h⟩
        · exact .inr ⟨by rw [show i + 1 = n by omega, Nat.mod_self], by omega⟩
      have hne : L i ≠ L ((i + 1) % n) := fun h => by have := inj i _ (by omega) hm h; omega
      simp only
      rw [two_sets _ _ _ _ _ _ (by omega) (by omega), two_sets _ _ _ _ _ _ (by omega) (by omega)]
      by_cases ht' : t = i
      · rw [ht', if_neg hne, if_pos rfl, if_pos rfl]
        exact ⟨rfl, rfl⟩
      · have et : (t + 1) % n = t + 1 := Nat.mod_eq_of_lt (by omega)
        rw [et]
        have a1 : L t ≠ L ((i + 1) % n) := fun h => by have := inj t _ (by omega) hm h; omega
        have a2 : L t ≠ L i := fun h => by have := inj t i (by omega) (by omega) h; omega
        have a3 : L (t + 1) ≠ L ((i + 1) % n) := fun h => by have := inj (t + 1) _ (by omega) hm h; omega
        have a4 : L (t + 1) ≠ L i := fun h => by have := inj (t + 1) i (by omega) (by omega) h; omega
        rw [if_neg a1, if_neg a2, if_neg a3, if_neg a4]
        have := ihB t (by omega) hp
        rw [et] at this
        exact this
/-- Different places below n, n of them: all. -/
theorem all_met (n : Nat) (L : Nat → Nat) (hl : ∀ t, t < n → L t < n) (inj : ∀ a b, a < n → b < n → L a = L b → a = b) : ∀ x, x < n → ∃ t, t < n ∧ L t = x := by
  intro x hx
  by_cases h : ∃ t, t < n ∧ L t = x
  · exact h
  · exfalso
    have hnd : ((List.range n).map L).Nodup := by
      rw [List.Nodup, List.pairwise_map]
      refine List.Pairwise.imp_of_mem ?_ List.pairwise_lt_range
      intro a b ha hb hab he
      have := inj a b (List.mem_range.1 ha) (List.mem_range.1 hb) he
      omega
    have := php n (x :: (List.range n).map L) (List.nodup_cons.2 ⟨fun hm => by
      obtain ⟨t, ht, e⟩ := List.mem_map.1 hm
      exact h ⟨t, List.mem_range.1 ht, e⟩, hnd⟩) (fun y hy => by
      rcases List.mem_cons.1 hy with rfl | hy
      · exact hx
      · obtain ⟨t, ht, rfl⟩ := List.mem_map.1 hy
        exact hl t (List.mem_range.1 ht))
    simp at this
    omega
theorem ext_rd {u v : List Int} (hl : u.length = v.length) (h : ∀ x : Nat, x < u.length → rd u (x : Int) = rd v (x : Int)) : u = v := by
  apply List.ext_getElem hl
  intro j h1 h2
  have := h j h1
  unfold rd at this
  rw [Int.toNat_natCast, List.getD_eq_getElem?_getD, List.getD_eq_getElem?_getD, List.getElem?_eq_getElem h1, List.getElem?_eq_getElem h2] at this
  exact this
/-- The order of one curve gives back the joined places. -/
theorem mt_back {n : Nat} {p1 p2 : List Int} {q1 q2 : Nat → Nat} (h1 : Mate n p1 q1) (h2 : Mate n p2 q2) (hl1 : p1.length = n) (hl2 : p2.length = n) (hn : 0 < n) (he : n % 2 = 0) (hM : xs q1 q2 0 n = 0) (hd : Diff (xs q1 q2 0) n) :
    mtS (tab (xs q1 q2 0) n) n n = (p1, p2) := by
  have hl := fun t (ht : t < n) => xs_lt h1 h2 hn t
  have inj : ∀ a b, a < n → b < n → xs q1 q2 0 a = xs q1 q2 0 b → a = b := by
    intro a b ha hb h
    rcases Nat.lt_trichotomy a b with hlt | heq | hgt
    · exact absurd h (hd a b hlt hb)
    · exact heq
    · exact absurd h.symm (hd b a hgt ha)
  have hL : ∀ t, t < n → rd (tab (xs q1 q2 0) n) (t : Int) = (xs q1 q2 0 t : Int) := by
    intro t ht
    unfold rd tab
    rw [Int.toNat_natCast, List.getD_eq_getElem?_getD, List.getElem?_map, List.getElem?_range ht]
    rfl
  obtain ⟨A, B⟩ := mt_spec (tab (xs q1 q2 0) n) n (xs q1 q2 0) he hL hl inj n (Nat.le_refl _)
  have lens := mtS_len (tab (xs q1 q2 0) n) n n
  have hall := all_met n (xs q1 q2 0) hl inj
  have e1 : (mtS (tab (xs q1 q2 0) n) n n).1 = p1 := by
    refine ext_rd (by rw [lens.1, hl1]) (fun x hx => ?_)
    rw [lens.1] at hx
    obtain ⟨t, ht, rfl⟩ := hall x hx
    by_cases par : t % 2 = 0
    · rw [(A t ht par).1, xs_even par]
      exact ((h1 _ (hl t ht)).2.2.2).symm
    · obtain ⟨c, rfl⟩ : ∃ c, t = c + 1 := ⟨t - 1, by omega⟩
      rw [(A c (by omega) (by omega)).2, (h1 _ (hl (c + 1) ht)).2.2.2, xs_even (show c % 2 = 0 by omega), (h1 _ (hl c (by omega))).2.1]
  have e2 : (mtS (tab (xs q1 q2 0) n) n n).2 = p2 := by
    refine ext_rd (by rw [lens.2, hl2]) (fun x hx => ?_)
    rw [lens.2] at hx
    obtain ⟨t, ht, rfl⟩ := hall x hx
    by_cases par : t % 2 = 1
    · rw [(B t ht par).1, (h2 _ (hl t ht)).2.2.2]
      rcases Nat.lt_or_ge (t + 1) n with h | h
      · rw [Nat.mod_eq_of_lt h, xs_odd par]
      · rw [show t + 1 = n by omega, Nat.mod_self]
        have := hM
        rw [← show t + 1 = n by omega, xs_odd par] at this
        rw [this]
        rfl
    · by_cases h0 : t = 0
      · subst h0
        have := (B (n - 1) (by omega) (by omega)).2
        rw [show n - 1 + 1 = n by omega, Nat.mod_self] at this
        rw [this, (h2 _ (hl 0 ht)).2.2.2]
        have hb := hM
        rw [show n = (n - 1) + 1 by omega, xs_odd (show (n - 1) % 2 = 1 by omega)] at hb
        have := congrArg q2 hb
        rw [(h2 _ (hl (n - 1) (by omega))).2.1] at this
        rw [this]
        rfl
      · obtain ⟨c, rfl⟩ : ∃ c, t = c + 1 := ⟨t - 1, by omega⟩
        have := (B c (by omega) (by omega)).2
        rw [Nat.mod_eq_of_lt ht] at this
        rw [this, (h2 _ (hl (c + 1) ht)).2.2.2, xs_odd (show c % 2 = 1 by omega), (h2 _ (hl c (by omega))).2.1]
  rw [← e1, ← e2]

end Go.Proofs.Ytopcnhppbmmbbaa.PF
