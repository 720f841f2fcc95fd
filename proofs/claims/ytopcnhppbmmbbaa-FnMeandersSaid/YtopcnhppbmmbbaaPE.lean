/- An order of points, and the turn of a system: the program and the reference tell the same: plain lemmas. No condition. -/
import Derived.Test.YtopcnhppbmmbbaaPC
namespace Go.Proofs.Ytopcnhppbmmbbaa.PE
open Go.RowKit Go.Proofs.Ytopcnhppbmmbbaa.Hand Go.Proofs.YtopcnhppbmmbbaaW.PrintWords Go.Proofs.YtopcnhppbmmbbaaW.PrintLast Go.Proofs.Ytopcnhppbmmbbaa.PA Go.Proofs.Ytopcnhppbmmbbaa.PC
set_option linter.unusedVariables false
set_option linter.unusedSimpArgs false

theorem pmR_iff (n : Int) (hn : n ≤ 12) : ∀ (l : List Int) (m : List Bool), m.length = 12 → (pmR n l m = true ↔ (∀ x ∈ l, 0 ≤ x ∧ x ≤ n - 1) ∧ l.Nodup ∧ ∀ x ∈ l, m.getD x.toNat false = false) := by
  intro l
  induction l with
  | nil => intro m hm; simp [pmR]
  | cons x r ih =>
    intro m hm
    simp only [pmR]
    by_cases c1 : 0 ≤ x ∧ x ≤ n - 1
    · rw [if_pos c1]
      by_cases c2 : m.getD x.toNat false = true
      · rw [if_pos c2]
        constructor
        · intro h; cases h
        · rintro ⟨_, _, h3⟩
          rw [h3 x List.mem_cons_self] at c2
          cases c2
      · rw [if_neg c2, ih _ (by rw [List.length_set]; exact hm)]
        rw [Bool.not_eq_true] at c2
        have get : ∀ y : Int, 0 ≤ y → ((m.set x.toNat true).getD y.toNat false = false ↔ (y ≠ x ∧ m.getD y.toNat false = false)) := by
          intro y hy
          rw [List.getD_eq_getElem?_getD, List.getD_eq_getElem?_getD, List.getElem?_set]
          by_cases e : y = x
          · subst e
            rw [if_pos rfl, if_pos (by omega)]
            simp
          · rw [if_neg (by omega)]
            simp [e]
        constructor
        · rintro ⟨h1, h2, h3⟩
          refine ⟨fun y hy => ?_, ?_, fun y hy => ?_⟩
          · rcases List.mem_cons.1 hy with rfl | hy
            · exact c1
            · exact h1 y hy
          · refine List.nodup_cons.2 ⟨fun hx => ?_, h2⟩
            exact ((get x c1.1).1 (h3 x hx)).1 rfl
          · rcases List.mem_cons.1 hy with rfl | hy
            · exact c2
            · exact ((get y (h1 y hy).1).1 (h3 y hy)).2
        · rintro ⟨h1, h2, h3⟩
          refine ⟨fun y hy => h1 y (List.mem_cons_of_mem _ hy), (List.nodup_cons.1 h2).2, fun y hy => ?_⟩
          refine (get y (h1 y (List.mem_cons_of_mem _ hy)).1).2 ⟨fun e => ?_, h3 y (List.mem_cons_of_mem _ hy)⟩
          subst e
          exact (List.nodup_cons.1 h2).1 hy
    · rw [if_neg c1]
      constructor
      · intro h; cases h
      · rintro ⟨h1, _, _⟩
        exact absurd (h1 x List.mem_cons_self) c1
theorem few (b : Int) : ∀ (s : List Int) (a : Int), s.Pairwise (· < ·) → (∀ x ∈ s, a ≤ x ∧ x < b) → a ≤ b → (s.length : Int) ≤ b - a := by
  intro s
  induction s with
  | nil => intro a _ _ h; simp; omega
  | cons x r ih =>
    intro a hp hm hab
    obtain ⟨h1, h2⟩ := List.pairwise_cons.1 hp
    have hx := hm x List.mem_cons_self
    have := ih (x + 1) h2 (fun y hy => ⟨by have := h1 y hy; omega, (hm y (List.mem_cons_of_mem _ hy)).2⟩) (by omega)
    rw [List.length_cons]
    omega
theorem up_of : ∀ (s : List Int) (i : Nat), s.Pairwise (· < ·) → (∀ x ∈ s, (i : Int) ≤ x ∧ x < (i : Int) + (s.length : Int)) → upI s i = true := by
  intro s
  induction s with
  | nil => intro i _ _; rfl
  | cons x r ih =>
    intro i hp hm
    obtain ⟨h1, h2⟩ := List.pairwise_cons.1 hp
    have hx := hm x List.mem_cons_self
    rw [List.length_cons] at hm hx
    have hf := few ((i : Int) + ((r.length + 1 : Nat) : Int)) r (x + 1) h2 (fun y hy => ⟨by have := h1 y hy; omega, (hm y (List.mem_cons_of_mem _ hy)).2⟩) (by omega)
    have e : x = (i : Int) := by omega
    simp only [upI]
    rw [if_pos e]
    refine ih (i + 1) h2 (fun y hy => ?_)
    have a1 := h1 y hy
    have a2 := (hm y (List.mem_cons_of_mem _ hy)).2
    omega
theorem srt_pair (l : List Int) : (srt l).Pairwise (· ≤ ·) := by
  have h := List.pairwise_mergeSort (le := fun x y : Int => decide (x ≤ y)) (fun a b c h1 h2 => by simp only [decide_eq_true_eq] at *; omega) (fun a b => by simp only [Bool.or_eq_true, decide_eq_true_eq]; omega) l
  exact h.imp (fun h => of_decide_eq_true h)
theorem perm_same (l : List Int) (hl : l.length ≤ 12) : pmR l.length l (List.replicate 12 false) = upI (srt l) 0 := by
  have hpm := List.mergeSort_perm l (fun x y => decide (x ≤ y))
  have hiff := pmR_iff (l.length : Int) (by omega) l (List.replicate 12 false) (by simp)
  rw [Bool.eq_iff_iff, hiff]
  constructor
  · rintro ⟨h1, h2, _⟩
    refine up_of _ _ ?_ (fun x hx => ?_)
    · have hn := hpm.nodup_iff.2 h2
      exact ((srt_pair l).and hn).imp (fun h => by have := h.1; have := h.2; omega)
    · rw [srt_length]
      have := h1 x (hpm.mem_iff.1 hx)
      omega
  · intro h
    obtain ⟨h1, h2⟩ := up_spec _ _ h
    rw [srt_length] at h2
    refine ⟨fun x hx => ?_, ?_, fun x hx => ?_⟩
    · have := h2 x (hpm.mem_iff.2 hx)
      omega
    · exact hpm.nodup_iff.1 (h1.imp (fun h => by omega))
    · rw [List.getD_eq_getElem?_getD, List.getElem?_replicate]
      split <;> rfl
theorem strSize (xs : List Int) : (strOfNums xs).size = xs.length := by
  simp [strOfNums, ByteArray.size]
theorem equal_go (x y : List Int) (he : x.length = y.length) (hb : x.length ≤ 1000000) : ∀ (d i : Nat), i + d = x.length → ∀ k, d < k → slices_Equal_int_int.l0 k x y (x.length : Int) (i : Int) = some (decide (∀ j, j < x.length → i ≤ j → rd x (j : Int) = rd y (j : Int))) := by
  intro d
  induction d with
  | zero =>
    intro i hi k hk
    obtain ⟨k, rfl⟩ : ∃ m, k = m + 1 := ⟨k - 1, by omega⟩
    simp only [slices_Equal_int_int.l0]
    rw [if_neg (by omega), decide_eq_true (fun j h2 h1 => by omega)]
  | succ d ih =>
    intro i hi k hk
    obtain ⟨k, rfl⟩ : ∃ m, k = m + 1 := ⟨k - 1, by omega⟩
    by_cases hq : rd x (i : Int) = rd y (i : Int)
    · simp only [slices_Equal_int_int.l0]
      rw [if_pos (by omega), if_pos (by omega), if_pos (by omega), if_pos (by omega), if_pos hq, wrap_nat (by omega), ih (i + 1) (by omega) k (by omega)]
      congr 1
      rw [decide_eq_decide]
      constructor
      · intro h j h2 h1
        by_cases e : j = i
        · rw [e]; exact hq
        · exact h j h2 (by omega)
      · intro h j h2 h1
        exact h j h2 (by omega)
    · simp only [slices_Equal_int_int.l0]
      rw [if_pos (by omega), if_pos (by omega), if_pos (by omega), if_pos (by omega), if_neg hq, decide_eq_false (fun h => hq (h i (by omega) (Nat.le_refl _)))]
theorem alike_dec (o l : List Int) (n : Nat) : alike o l n = decide (∀ j, j < n → rd o (j : Int) = rd l (j : Int)) := by
  unfold alike
  rw [Bool.eq_iff_iff, List.all_eq_true, decide_eq_true_eq]
  constructor
  · intro h j hj
    have := h j (List.mem_range.2 hj)
    simpa using this
  · intro h j hj
    have := h j (List.mem_range.1 hj)
    simpa using this
/-- The text of joined places: both tell the same. -/
theorem textBoth (L : List Int) (h1 : 2 ≤ L.length) (h2 : L.length ≤ 12) (h3 : L.length % 2 = 0) : ∃ (s : ByteArray) (b : Bool), ∀ k, 100 ≤ k → spec_l08Text.f k L = some (s, b) ∧ impl_system.f k L = some (s, b) := by
  have hS : (strOfNums (signs L L.length)).size = L.length := by rw [strSize, signs_len]
  obtain ⟨o2, r2, y2, k1, k2, k3, k4⟩ := arcs (strOfNums (signs L L.length)) (by rw [hS]; omega)
  rw [hS] at k1 k2 k3 k4
  have hy : y2 = r2.2 := by rw [k3, decide_eq_true h3, decide_eq_true ⟨h1, h2⟩]; simp
  cases hr : r2.2 with
  | false =>
    refine ⟨strOfNums (signs L L.length), false, fun k hk => ⟨?_, ?_⟩⟩
    · unfold spec_l08Text.f
      rw [if_pos (by omega), k1 _ (by omega), Option.bind_some, hy, hr]
      rfl
    · unfold impl_system.f
      rw [if_pos (by omega), k2 _ (by omega), Option.bind_some, hr]
      rfl
  | true =>
    obtain ⟨_, _, _, _, e1, _, e2⟩ := k4 (by rw [hy, hr])
    refine ⟨strOfNums (signs L L.length), decide (∀ j, j < L.length → rd r2.1 (j : Int) = rd L (j : Int)), fun k hk => ⟨?_, ?_⟩⟩
    · unfold spec_l08Text.f
      rw [if_pos (by omega), k1 _ (by omega), Option.bind_some, hy, hr, if_pos rfl, if_pos h2, alike_dec]
      simp only [Option.some.injEq, Prod.mk.injEq, true_and]
      rw [decide_eq_decide, e2]
      constructor
      · intro h j hj
        rw [← rd_app_l r2.1 (List.replicate (12 - L.length) 0) j (by omega)]
        exact h j hj
      · intro h j hj
        rw [rd_app_l r2.1 _ j (by omega)]
        exact h j hj
    · unfold impl_system.f
      rw [if_pos (by omega), k2 _ (by omega), Option.bind_some, hr, if_pos rfl]
      unfold slices_Equal_int_int.f
      rw [if_pos (by omega)]
      have := equal_go r2.1 L e1 (by omega) r2.1.length 0 (by omega) k (by omega)
      rw [show ((0 : Nat) : Int) = 0 from rfl] at this
      rw [this, Option.bind_some]
      simp only [Option.some.injEq, Prod.mk.injEq, true_and]
      rw [decide_eq_decide, e1]
      constructor
      · intro h j hj
        exact h j hj (Nat.zero_le _)
      · intro h j hj _
        exact h j hj
/-- Both tell the same of an order. -/
theorem moBoth (l : List Int) : ∃ r : ByteArray × ByteArray × Int, ∀ k, 100 ≤ k → spec_MeanderOfOrder.f k l = some r ∧ impl_MeanderOfOrder.f k l = some r := by
  cases hok : okO l with
  | false =>
    refine ⟨((⟨#[]⟩ : ByteArray), (⟨#[]⟩ : ByteArray), 2), fun k hk => ⟨?_, ?_⟩⟩
    · unfold spec_MeanderOfOrder.f
      rw [hok, if_neg (by simp)]
    · unfold impl_MeanderOfOrder.f
      rw [hok, if_neg (by simp)]
  | true =>
    have hok' := hok
    unfold okO at hok'
    rw [Bool.and_eq_true, decide_eq_true_eq] at hok'
    obtain ⟨⟨g1, g2, g3⟩, _⟩ := hok'
    have hp := perm_same l g2
    cases hu : upI (srt l) 0 with
    | false =>
      refine ⟨((⟨#[]⟩ : ByteArray), (⟨#[]⟩ : ByteArray), 2), fun k hk => ⟨?_, ?_⟩⟩
      · unfold spec_MeanderOfOrder.f
        rw [hok, if_pos rfl, hp, hu, if_neg (by simp)]
      · unfold impl_MeanderOfOrder.f
        rw [hok, if_pos rfl, hu, if_neg (by simp)]
    | true =>
      have ll := mtS_len l l.length l.length
      obtain ⟨s1, b1, t1⟩ := textBoth (mtS l l.length l.length).1 (by rw [ll.1]; exact g1) (by rw [ll.1]; exact g2) (by rw [ll.1]; exact g3)
      obtain ⟨s2, b2, t2⟩ := textBoth (mtS l l.length l.length).2 (by rw [ll.2]; exact g1) (by rw [ll.2]; exact g2) (by rw [ll.2]; exact g3)
      refine ⟨finO (s1, b1) (s2, b2), fun k hk => ⟨?_, ?_⟩⟩
      · unfold spec_MeanderOfOrder.f
        rw [hok, if_pos rfl, hp, hu, if_pos rfl, (t1 k hk).1, Option.bind_some, (t2 k hk).1, Option.bind_some]
      · unfold impl_MeanderOfOrder.f
        rw [hok, if_pos rfl, hu, if_pos rfl, (t1 k hk).2, Option.bind_some, (t2 k hk).2, Option.bind_some]
theorem equal_some (x y : List Int) (hb : x.length ≤ 1000000) : ∃ b : Bool, ∀ k, x.length < k → slices_Equal_int_int.f k x y = some b := by
  by_cases he : x.length = y.length
  · refine ⟨decide (∀ j, j < x.length → 0 ≤ j → rd x (j : Int) = rd y (j : Int)), fun k hk => ?_⟩
    unfold slices_Equal_int_int.f
    rw [if_pos (by omega)]
    exact equal_go x y he hb x.length 0 (by omega) k hk
  · refine ⟨false, fun k hk => ?_⟩
    unfold slices_Equal_int_int.f
    rw [if_neg (by omega)]
theorem turned_pad (p z : List Int) (n : Nat) (hp : n ≤ p.length) : ∀ i, i ≤ n → turned (p ++ z) n i = turned p n i
  | 0, _ => rfl
  | i + 1, h => by
    simp only [turned]
    rw [turned_pad p z n hp i (by omega), rd_app_l p z i (by omega)]
theorem turnBoth (a : ByteArray) (ha : a.size ≤ 1048576) : ∃ (s : ByteArray) (e : Int), spec_TurnSystem.f 1048580 a = some (s, e) ∧ impl_TurnSystem.f 1048580 a = some (s, e) := by
  obtain ⟨o, p, t, y, h1, h2, h3, h4, h5⟩ := sysBoth a ha
  unfold spec_TurnSystem.f impl_TurnSystem.f
  rw [h1 _ (by omega), h4 _ (by omega), h2 _ (by omega), Option.bind_some, Option.bind_some, Option.bind_some]
  cases y with
  | false => exact ⟨_, _, rfl, rfl⟩
  | true =>
    obtain ⟨u1, u2, u3, u4, u5⟩ := h5 rfl
    rw [if_pos rfl, if_pos rfl, if_pos (by omega), if_pos u2, if_pos (by omega), if_pos u3, if_pos (by omega), u5, turned_pad p _ a.size (by omega) a.size (Nat.le_refl _)]
    have hl := turned_len p a.size a.size
    generalize turned p a.size a.size = L at hl
    have hS : (strOfNums (signs L L.length)).size = L.length := by rw [strSize, signs_len]
    obtain ⟨o2, r2, y2, k1, k2, k3, k4⟩ := arcs (strOfNums (signs L L.length)) (by rw [hS]; omega)
    refine ⟨strOfNums (signs L L.length), 0, ?_, ?_⟩
    · unfold spec_l08Text.f
      rw [if_pos (by omega), k1 _ (by rw [hS]; omega), Option.bind_some]
      cases y2 with
      | false => rfl
      | true => rw [if_pos rfl, if_pos (by omega)]; rfl
    · unfold impl_system.f
      rw [if_pos (by omega), k2 _ (by rw [hS]; omega), Option.bind_some]
      by_cases hr : r2.2 = true
      · obtain ⟨b, hb⟩ := equal_some r2.1 L (by
          obtain ⟨r3, q1, q2⟩ := PA.partners (strOfNums (signs L L.length)) (by rw [hS]; omega)
          have e3 : r3 = r2 := by
            have := q1 1048580 (by rw [hS]; omega)
            rw [k2 1048580 (by rw [hS]; omega)] at this
            exact (Option.some.inj this).symm
          rw [e3] at q2
          have := (q2 hr).1
          rw [hS] at this
          omega)
        have hlen : r2.1.length < 1048580 := by
          obtain ⟨r3, q1, q2⟩ := PA.partners (strOfNums (signs L L.length)) (by rw [hS]; omega)
          have e3 : r3 = r2 := by
            have := q1 1048580 (by rw [hS]; omega)
            rw [k2 1048580 (by rw [hS]; omega)] at this
            exact (Option.some.inj this).symm
          rw [e3] at q2
          have := (q2 hr).1
          rw [hS] at this
          omega
        rw [if_pos hr, hb _ hlen]
        rfl
      · rw [if_neg hr]
        rfl

end Go.Proofs.Ytopcnhppbmmbbaa.PE
