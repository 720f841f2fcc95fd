/- ComponentsOf of the program returns what the reference returns, for all arguments, and changes no argument: the pure statement. No condition. -/
import Derived.Test.YtfboiigejaiodaaPX
import Derived.Test.YtfboiigejaiodaaQx7
namespace Go.Proofs.Ytfboiigejaiodaa.Pure
open Go.RowKit Go.Proofs.Ytfboiigejaiodaa.Q Go.Proofs.Ytfboiigejaiodaa.Hand Go.Proofs.YtfboiigejaiodaaW.PrintWords Go.Proofs.YtfboiigejaiodaaW.PrintLast Go.Proofs.Ytfboiigejaiodaa.PA Go.Proofs.Ytfboiigejaiodaa.PB Go.Proofs.Ytfboiigejaiodaa.PX


theorem cf_set : ∀ (l : List Bool) (i : Nat), l[i]? = some false → (l.set i true).count false + 1 = l.count false
  | [], i, h => by simp at h
  | b :: l, 0, h => by
    simp at h
    subst h
    simp
  | b :: l, i + 1, h => by
    simp only [List.getElem?_cons_succ] at h
    have := cf_set l i h
    simp only [List.set_cons_succ, List.count_cons]
    omega
theorem rdb_at {l : List Bool} {x : Int} {b : Bool} (h : rdb l x = b) (hl : x.toNat < l.length) : l[x.toNat]? = some b := by
  unfold rdb at h
  rw [List.getD_eq_getElem?_getD, List.getElem?_eq_getElem hl] at h
  rw [List.getElem?_eq_getElem hl, ← h]
  rfl
theorem rdb_app (l z : List Bool) {x : Int} (hl : x.toNat < l.length) : rdb (l ++ z) x = rdb l x := by
  unfold rdb
  rw [List.getD_eq_getElem?_getD, List.getD_eq_getElem?_getD, List.getElem?_append_left hl]
theorem good_out (n : Nat) (a : List Int) (hg : Hand.Good n a) (hn : 0 < n) : ∀ i, i ≤ n → Hand.Good n (outAfter a n i)
  | 0, _ => by
    refine ⟨by simp [outAfter], fun j hj => ?_⟩
    have : rd (outAfter a n 0) (j : Int) = 0 := by
      unfold rd
      rw [Int.toNat_natCast, List.getD_eq_getElem?_getD]
      simp [outAfter, hj]
    rw [this]
    omega
  | i + 1, h => by
    obtain ⟨h0, h1⟩ := hg.2 i (by omega)
    simp only [outAfter]
    exact good_set (good_out n a hg hn i (by omega)) (by omega) (by omega) (by omega)
theorem cyc_both (n : Nat) (hn : n ≤ 6) (p : List Int) (hp : Hand.Good n p) (z : List Bool) (cnt len i : Int) : ∀ (d : Nat) (sn : List Bool) (x : Int), sn.length = n → sn.count false ≤ d → 0 ≤ x → x < (n : Int) →
    ∃ sn', sn'.length = n ∧ (∀ k, d < k → cyc k p (sn ++ z) x = some (sn' ++ z)) ∧ (∀ (K : Nat) (R : Int × Int), (∀ k, K ≤ k → impl_ComponentsOf.l0 k p sn' cnt len (wrap64 (i + 1)) = some R) → ∀ k, K + d + 1 ≤ k → impl_ComponentsOf.l1 k p sn cnt x len i = some R) := by
  have hpl := hp.1
  intro d
  induction d with
  | zero =>
    intro sn x hl hc h0 h1
    have hx : x.toNat < sn.length := by omega
    have ht : rdb sn x = true := by
      cases h : rdb sn x with
      | true => rfl
      | false =>
        have := cf_set sn x.toNat (rdb_at h hx)
        omega
    refine ⟨sn, hl, fun k hk => ?_, fun K R hR k hk => ?_⟩
    · obtain ⟨k, rfl⟩ : ∃ m, k = m + 1 := ⟨k - 1, by omega⟩
      simp only [cyc]
      rw [if_pos h0, if_pos (by omega), rdb_app _ _ hx, if_pos ht]
    · obtain ⟨k, rfl⟩ : ∃ m, k = m + 1 := ⟨k - 1, by omega⟩
      simp only [impl_ComponentsOf.l1]
      rw [if_pos h0, if_pos (by omega), if_pos (show rdOf false sn x = true from ht)]
      exact hR k (by omega)
  | succ d ih =>
    intro sn x hl hc h0 h1
    have hx : x.toNat < sn.length := by omega
    cases ht : rdb sn x with
    | true =>
      refine ⟨sn, hl, fun k hk => ?_, fun K R hR k hk => ?_⟩
      · obtain ⟨k, rfl⟩ : ∃ m, k = m + 1 := ⟨k - 1, by omega⟩
        simp only [cyc]
        rw [if_pos h0, if_pos (by omega), rdb_app _ _ hx, if_pos ht]
      · obtain ⟨k, rfl⟩ : ∃ m, k = m + 1 := ⟨k - 1, by omega⟩
        simp only [impl_ComponentsOf.l1]
        rw [if_pos h0, if_pos (by omega), if_pos (show rdOf false sn x = true from ht)]
        exact hR k (by omega)
    | false =>
      have hcs := cf_set sn x.toNat (rdb_at ht hx)
      obtain ⟨g0, g1⟩ := hp.2 x.toNat (by omega)
      rw [show ((x.toNat : Nat) : Int) = x by omega] at g0 g1
      obtain ⟨sn', q1, q2, q3⟩ := ih (sn.set x.toNat true) (rd p x) (by simp [hl]) (by omega) g0 g1
      refine ⟨sn', q1, fun k hk => ?_, fun K R hR k hk => ?_⟩
      · obtain ⟨k, rfl⟩ : ∃ m, k = m + 1 := ⟨k - 1, by omega⟩
        simp only [cyc]
        rw [if_pos h0, if_pos (by omega), rdb_app _ _ hx, if_neg (by rw [ht]; simp), if_pos (by omega), List.set_append_left _ _ hx]
        exact q2 k (by omega)
      · obtain ⟨k, rfl⟩ : ∃ m, k = m + 1 := ⟨k - 1, by omega⟩
        simp only [impl_ComponentsOf.l1]
        rw [if_pos h0, if_pos (by omega), if_neg (show ¬ rdOf false sn x = true by rw [show rdOf false sn x = false from ht]; simp), if_pos (by omega)]
        exact q3 K R hR k (by omega)
theorem comps (n : Nat) (hn : n ≤ 6) (p : List Int) (hp : Hand.Good n p) (z : List Bool) : ∀ (d i out : Nat) (sn : List Bool), i + d = n → out ≤ i → sn.length = n →
    ∃ c : Nat, (∀ k, d + 20 ≤ k → spec_ComponentsOf.l0 k (n : Int) p (sn ++ z) out i = some c) ∧ (∀ k, 12 * d + 20 ≤ k → impl_ComponentsOf.l0 k p sn (out : Int) (n : Int) (i : Int) = some ((c : Int), 0)) := by
  intro d
  induction d with
  | zero =>
    intro i out sn hi ho hl
    refine ⟨out, fun k hk => ?_, fun k hk => ?_⟩
    · obtain ⟨k, rfl⟩ : ∃ m, k = m + 1 := ⟨k - 1, by omega⟩
      simp only [spec_ComponentsOf.l0]
      rw [if_neg (by omega)]
    · obtain ⟨k, rfl⟩ : ∃ m, k = m + 1 := ⟨k - 1, by omega⟩
      simp only [impl_ComponentsOf.l0]
      rw [if_neg (by omega)]
  | succ d ih =>
    intro i out sn hi ho hl
    have hx : (i : Int).toNat < sn.length := by omega
    cases ht : rdb sn (i : Int) with
    | true =>
      obtain ⟨c, h1, h2⟩ := ih (i + 1) out sn (by omega) (by omega) hl
      refine ⟨c, fun k hk => ?_, fun k hk => ?_⟩
      · obtain ⟨k, rfl⟩ : ∃ m, k = m + 1 := ⟨k - 1, by omega⟩
        simp only [spec_ComponentsOf.l0]
        rw [if_pos (by omega), if_pos (by omega), rdb_app _ _ hx, if_pos ht]
        exact h1 k (by omega)
      · obtain ⟨k, rfl⟩ : ∃ m, k = m + 1 := ⟨k - 1, by omega⟩
        simp only [impl_ComponentsOf.l0]
        rw [if_pos (by omega), if_pos (by omega), if_pos (by omega), if_pos (show rdOf false sn (i : Int) = true from ht), wrap_nat (by omega)]
        exact h2 k (by omega)
    | false =>
      obtain ⟨sn', q1, q2, q3⟩ := cyc_both n hn p hp z (((out + 1 : Nat) : Int)) (n : Int) (i : Int) 6 sn (i : Int) hl (by have := List.count_le_length (a := false) (l := sn); omega) (by omega) (by omega)
      obtain ⟨c, h1, h2⟩ := ih (i + 1) (out + 1) sn' (by omega) (by omega) q1
      refine ⟨c, fun k hk => ?_, fun k hk => ?_⟩
      · obtain ⟨k, rfl⟩ : ∃ m, k = m + 1 := ⟨k - 1, by omega⟩
        simp only [spec_ComponentsOf.l0]
        rw [if_pos (by omega), if_pos (by omega), rdb_app _ _ hx, if_neg (by rw [ht]; simp), if_pos (by omega), q2 k (by omega), Option.bind_some]
        exact h1 k (by omega)
      · obtain ⟨k, rfl⟩ : ∃ m, k = m + 1 := ⟨k - 1, by omega⟩
        simp only [impl_ComponentsOf.l0]
        rw [if_pos (by omega), if_pos (by omega), if_pos (by omega), if_neg (show ¬ rdOf false sn (i : Int) = true by rw [show rdOf false sn (i : Int) = false from ht]; simp), wrap_nat (show out ≤ 1000000000 by omega)]
        refine q3 (12 * d + 20) ((c : Int), 0) (fun k hk => ?_) k (by omega)
        rw [wrap_nat (by omega)]
        exact h2 k hk
theorem bothC (n : Int) (l : List Int) (hb : l.length ≤ 1048576) : ∃ c e : Int, (∀ k, l.length + 200 < k → spec_ComponentsOf.f k n l = some (c, e)) ∧ (∀ k, l.length + 200 < k → impl_ComponentsOf.f k n l = some (c, e)) := by
  obtain ⟨ys, e, h1, h2, h3, h4, h5⟩ := both n l hb
  by_cases he : e = 0
  · obtain ⟨ho, hp, hy⟩ := h4 he
    obtain ⟨g1, g2, g3, g4⟩ := okB_spec ho
    obtain ⟨m, rfl⟩ := Int.eq_ofNat_of_zero_le (show 0 ≤ n by omega)
    rw [Int.toNat_natCast] at hy
    have hG : Hand.Good m ys := by
      rw [hy]
      exact good_out m _ (good_at m l g4 l.length (Nat.le_refl _)) (by omega) m (Nat.le_refl _)
    obtain ⟨c, c1, c2⟩ := comps m (by omega) ys hG (List.replicate (6 - m) false) m 0 0 (List.replicate m false) (by omega) (by omega) (by simp)
    refine ⟨(c : Int), 0, fun k hk => ?_, fun k hk => ?_⟩
    · unfold spec_ComponentsOf.f
      rw [specWord _ l hb (by omega), ho, Option.bind_some, if_pos rfl, hp, Option.bind_some]
      have := c1 k (by omega)
      rw [List.replicate_append_replicate, show m + (6 - m) = 6 by omega] at this
      rw [this]
      rfl
    · unfold impl_ComponentsOf.f
      rw [h3 k (by omega), Option.bind_some, if_pos he, if_pos (by omega), if_pos (by omega)]
      simp only [hG.1, Int.toNat_natCast]
      exact c2 k (by omega)
  · obtain ⟨ho, he2⟩ := h5 he
    refine ⟨0, 2, fun k hk => ?_, fun k hk => ?_⟩
    · unfold spec_ComponentsOf.f
      rw [specWord _ l hb (by omega), ho, Option.bind_some, if_neg (by simp)]
    · unfold impl_ComponentsOf.f
      rw [h3 k (by omega), Option.bind_some, if_neg he, he2]
theorem FnExactComponentsOf : laws_FnExactComponentsOf.Pure := by
  intro n l _ _ _ _
  refine ⟨1048800, ?_⟩
  unfold laws_FnExactComponentsOf.f
  by_cases hb : l.length ≤ 1048576
  · rw [if_neg (by omega)]
    obtain ⟨c, e, h, g⟩ := bothC n l hb
    rw [toS l hb (by omega), Option.bind_some, h 1048800 (by omega), Option.bind_some, Option.bind_some, g 1048800 (by omega), Option.bind_some]
    simp only []
    rw [if_pos trivial, bne_self_eq_false]
    rw [show (1048800 : Nat) = 1048799 + 1 from rfl]
    simp only [laws_FnExactComponentsOf.j0]
    rw [if_neg (by simp), toS l hb (by omega), Option.bind_some, eqS l (by omega) (by omega), Option.bind_some, if_pos rfl]
  · rw [if_pos (by omega)]

end Go.Proofs.Ytfboiigejaiodaa.Pure
