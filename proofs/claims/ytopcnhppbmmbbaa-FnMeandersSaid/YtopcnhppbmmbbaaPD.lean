/- Orders and intervals of two systems: the program and the reference tell the same: plain lemmas. No condition. -/
import Derived.Test.YtopcnhppbmmbbaaPC
import Derived.Test.YtopcnhppbmmbbaaQx3
import Derived.Test.YtopcnhppbmmbbaaQx4
namespace Go.Proofs.Ytopcnhppbmmbbaa.PD
open Go.RowKit Go.Proofs.Ytopcnhppbmmbbaa.Q Go.Proofs.Ytopcnhppbmmbbaa.Hand Go.Proofs.YtopcnhppbmmbbaaW.PrintWords Go.Proofs.YtopcnhppbmmbbaaW.PrintLast Go.Proofs.Ytopcnhppbmmbbaa.PA Go.Proofs.Ytopcnhppbmmbbaa.PC
set_option linter.unusedVariables false
set_option linter.unusedSimpArgs false

/-- A cut of a list, place by place. -/
theorem cut_range (p : List Int) (a b : Nat) (h : a ≤ b) (hb : b ≤ p.length) : (p.take b).drop a = (List.range (b - a)).map (fun (d : Nat) => rd p ((a : Int) + (d : Int))) := by
  apply List.ext_getElem?
  intro j
  rw [List.getElem?_drop, List.getElem?_take, List.getElem?_map]
  by_cases hj : j < b - a
  · rw [if_pos (by omega), List.getElem?_range hj, Option.map_some]
    have : ((a : Int) + (j : Int)) = ((a + j : Nat) : Int) := by omega
    rw [this]
    unfold rd
    rw [Int.toNat_natCast, List.getD_eq_getElem?_getD, List.getElem?_eq_getElem (by omega)]
    rfl
  · rw [if_neg (by omega), List.getElem?_eq_none (by simp; omega)]
    rfl
theorem inB_pad {p z : List Int} {F T : Int} {i : Nat} (hi : i < p.length) : inB (p ++ z) F T (i : Int) = inB p F T (i : Int) := by
  unfold inB
  rw [rd_app_l p z i hi]
/-- The program's test of an interval. -/
theorem closedIn_eq (p : List Int) (f t : Nat) (hft : f ≤ t) (ht : t < p.length) (hl : p.length ≤ 12) :
    impl_closedIn.f p (f : Int) ((t + 1 : Nat) : Int) = some ((List.range (t + 1 - f)).all (fun (d : Nat) => inB p (f : Int) (t : Int) ((f : Int) + (d : Int)))) := by
  unfold impl_closedIn.f
  rw [if_pos (by omega), if_pos (by omega), if_pos (by omega), if_pos (by omega), Int.toNat_natCast, Int.toNat_natCast, cut_range p f (t + 1) (by omega) (by omega), List.any_map, List.not_any_eq_all_not]
  congr 2
  funext d
  show (!outB (f : Int) ((t + 1 : Nat) : Int) (rd p ((f : Int) + (d : Int)))) = inB p (f : Int) (t : Int) ((f : Int) + (d : Int))
  unfold outB inB
  generalize rd p ((f : Int) + (d : Int)) = x
  by_cases h1 : x < (f : Int)
  · rw [decide_eq_true h1, decide_eq_false (show ¬ (f : Int) ≤ x by omega)]; rfl
  · rw [decide_eq_false h1, decide_eq_true (show (f : Int) ≤ x by omega)]
    by_cases h2 : x ≤ (t : Int)
    · rw [decide_eq_true h2, decide_eq_false (show ¬ ((t + 1 : Nat) : Int) ≤ x by omega)]; rfl
    · rw [decide_eq_false h2, decide_eq_true (show ((t + 1 : Nat) : Int) ≤ x by omega)]; rfl
/-- Both intervals closed, as the reference tells it. -/
theorem closed_both (p1 p2 z1 z2 : List Int) (n f t : Nat) (h1 : p1.length = n) (h2 : p2.length = n) (hft : f ≤ t) (ht : t < n) :
    closedB (p1 ++ z1) (p2 ++ z2) (n : Int) (f : Int) (t : Int) = (decide ((t : Int) - (f : Int) + 1 < (n : Int)) && ((List.range (t + 1 - f)).all (fun (d : Nat) => inB p1 (f : Int) (t : Int) ((f : Int) + (d : Int))) && (List.range (t + 1 - f)).all (fun (d : Nat) => inB p2 (f : Int) (t : Int) ((f : Int) + (d : Int))))) := by
  unfold closedB closeds
  rw [show ((t : Int) - (f : Int) + 1).toNat = t + 1 - f by omega]
  congr 1
  rw [Bool.eq_iff_iff]
  simp only [List.all_eq_true, Bool.and_eq_true, List.mem_range]
  have e : ∀ d : Nat, ((f : Int) + (d : Int)) = ((f + d : Nat) : Int) := fun d => by omega
  constructor
  · intro h
    refine ⟨fun d hd => ?_, fun d hd => ?_⟩
    · have := (h d hd).1
      rw [e, inB_pad (by omega)] at this
      rw [e]; exact this
    · have := (h d hd).2
      rw [e, inB_pad (by omega)] at this
      rw [e]; exact this
  · intro h d hd
    refine ⟨?_, ?_⟩
    · have := h.1 d hd
      rw [e] at this
      rw [e, inB_pad (by omega)]; exact this
    · have := h.2 d hd
      rw [e] at this
      rw [e, inB_pad (by omega)]; exact this
/-- The rest of a row, and the rest of the rows. -/
def RR (o1 o2 : List Int) (n f : Nat) : Nat → Nat → Bool
  | 0, _ => true
  | d + 1, e => !closedB o1 o2 (n : Int) (f : Int) (((f + e : Nat) : Int)) && RR o1 o2 n f d (e + 1)
def R0 (o1 o2 : List Int) (n : Nat) : Nat → Nat → Bool
  | 0, _ => true
  | d + 1, f => RR o1 o2 n f (n - f) 0 && R0 o1 o2 n d (f + 1)
theorem rr_row (o1 o2 : List Int) (n f : Nat) : ∀ d e, (rowB o1 o2 (n : Int) (f : Int) e && RR o1 o2 n f d e) = rowB o1 o2 (n : Int) (f : Int) (e + d)
  | 0, e => by simp [RR]
  | d + 1, e => by
    have := rr_row o1 o2 n f d (e + 1)
    rw [rowB_succ, show ((f : Int) + (e : Int)) = ((f + e : Nat) : Int) by omega, Bool.and_assoc] at this
    simp only [RR]
    rw [this]
    congr 1
    omega
theorem r0_irr (o1 o2 : List Int) (n : Nat) : ∀ d f, f + d = n → (irrB o1 o2 (n : Int) f && R0 o1 o2 n d f) = irrB o1 o2 (n : Int) (f + d)
  | 0, f, _ => by simp [R0]
  | d + 1, f, h => by
    have := r0_irr o1 o2 n d (f + 1) (by omega)
    have hr := rr_row o1 o2 n f (n - f) 0
    rw [show rowB o1 o2 (n : Int) (f : Int) 0 = true from rfl, Bool.true_and, Nat.zero_add] at hr
    rw [irrB_succ, show ((n : Int) - (f : Int)).toNat = n - f by omega, ← hr, Bool.and_assoc] at this
    simp only [R0]
    rw [this]
    congr 1
    omega
theorem irr_l1 (p1 p2 z1 z2 : List Int) (n f : Nat) (h1 : p1.length = n) (h2 : p2.length = n) (hn : n ≤ 12) (hf : f < n) (B : Nat) (r : Bool) (H : ∀ k, B < k → impl_IsIrreduciblePair.l0 k p1 p2 (n : Int) ((f + 1 : Nat) : Int) = some (r, 0)) :
    ∀ (d e k : Nat), e + d = n - f → B + d + 1 < k → impl_IsIrreduciblePair.l1 k p1 p2 (f : Int) ((f + 1 + e : Nat) : Int) (n : Int) (f : Int) = some (RR (p1 ++ z1) (p2 ++ z2) n f d e && r, 0) := by
  intro d
  induction d with
  | zero =>
    intro e k he hk
    obtain ⟨k, rfl⟩ : ∃ m, k = m + 1 := ⟨k - 1, by omega⟩
    simp only [impl_IsIrreduciblePair.l1, RR]
    rw [if_neg (by omega), wrap_nat (by omega), H k (by omega)]
    rfl
  | succ d ih =>
    intro e k he hk
    obtain ⟨k, rfl⟩ : ∃ m, k = m + 1 := ⟨k - 1, by omega⟩
    have hnext := ih (e + 1) k (by omega) (by omega)
    have e1 : wrap64 (((f + 1 + e : Nat) : Int) + 1) = ((f + 1 + (e + 1) : Nat) : Int) := by rw [wrap_nat (by omega)]; rfl
    have e2 : wrap64 (((f + 1 + e : Nat) : Int) - (f : Int)) = ((f + e : Nat) : Int) - (f : Int) + 1 := by rw [wrap_id (by omega) (by omega)]; omega
    have c1 := closedIn_eq p1 f (f + e) (by omega) (by omega) (by omega)
    have c2 := closedIn_eq p2 f (f + e) (by omega) (by omega) (by omega)
    have e3 : (f + e + 1 : Nat) = f + 1 + e := by omega
    rw [e3] at c1 c2
    have cb := closed_both p1 p2 z1 z2 n f (f + e) h1 h2 (by omega) (by omega)
    rw [e3] at cb
    simp only [impl_IsIrreduciblePair.l1, RR, e1, e2, c1, c2, hnext, h1]
    rw [if_pos (by omega), cb]
    by_cases hd : ((f + e : Nat) : Int) - (f : Int) + 1 < (n : Int)
    · rw [if_pos hd, decide_eq_true hd, Option.bind_some]
      cases (List.range (f + 1 + e - f)).all (fun (d : Nat) => inB p1 (f : Int) ((f + e : Nat) : Int) ((f : Int) + (d : Int))) with
      | false => simp
      | true =>
        rw [if_pos rfl, Option.bind_some]
        cases (List.range (f + 1 + e - f)).all (fun (d : Nat) => inB p2 (f : Int) ((f + e : Nat) : Int) ((f : Int) + (d : Int))) with
        | false => simp
        | true => simp
    · rw [if_neg hd, decide_eq_false hd]
      simp
theorem irr_l0 (p1 p2 z1 z2 : List Int) (n : Nat) (h1 : p1.length = n) (h2 : p2.length = n) (hn : n ≤ 12) :
    ∀ (d f k : Nat), f + d = n → 20 * d < k → impl_IsIrreduciblePair.l0 k p1 p2 (n : Int) (f : Int) = some (R0 (p1 ++ z1) (p2 ++ z2) n d f, 0) := by
  intro d
  induction d with
  | zero =>
    intro f k hf hk
    obtain ⟨k, rfl⟩ : ∃ m, k = m + 1 := ⟨k - 1, by omega⟩
    simp only [impl_IsIrreduciblePair.l0, R0]
    rw [if_neg (by omega)]
  | succ d ih =>
    intro f k hf hk
    obtain ⟨k, rfl⟩ : ∃ m, k = m + 1 := ⟨k - 1, by omega⟩
    simp only [impl_IsIrreduciblePair.l0, R0]
    rw [if_pos (by omega), wrap_nat (by omega)]
    exact irr_l1 p1 p2 z1 z2 n f h1 h2 hn (by omega) (20 * d) _ (fun k hk => ih (f + 1) k (by omega) hk) (n - f) 0 k (by omega) (by omega)
theorem irr_both (p1 p2 z1 z2 : List Int) (n : Nat) (h1 : p1.length = n) (h2 : p2.length = n) (hn : n ≤ 12) {k : Nat} (hk : 300 ≤ k) :
    impl_IsIrreduciblePair.l0 k p1 p2 (n : Int) 0 = some (irrB (p1 ++ z1) (p2 ++ z2) (n : Int) n, 0) := by
  have := irr_l0 p1 p2 z1 z2 n h1 h2 hn n 0 k (by omega) (by omega)
  rw [show ((0 : Nat) : Int) = 0 from rfl] at this
  rw [this]
  have h := r0_irr (p1 ++ z1) (p2 ++ z2) n n 0 (by omega)
  rw [show irrB (p1 ++ z1) (p2 ++ z2) (n : Int) 0 = true from rfl, Bool.true_and, Nat.zero_add] at h
  rw [h]
theorem orderBoth (a b : ByteArray) (ha : a.size ≤ 1048576) (hb : b.size ≤ 1048576) : ∃ (ys : List Int) (e : Int), ys.length ≤ 12 ∧ (∀ k, 1048580 ≤ k → spec_OrderOfMeander.f k a b = some (ys, e)) ∧ (∀ k, 1048580 ≤ k → impl_OrderOfMeander.f k a b = some (ys, e)) := by
  obtain ⟨c, h1, h2, h3⟩ := codeBoth a b ha hb
  by_cases hc : c = 0
  · obtain ⟨o1, p1, o2, p2, t1, t2, y1, y2, g1, g2, g3, g4, g5, g6, g7, g8, g9, g10, g11, g12⟩ := h3 hc
    obtain ⟨m, m1, m2⟩ := compBoth a b (Nat.le_refl 1048580) (g1 _ (Nat.le_refl _)) (g2 _ (Nat.le_refl _)) (g3 _ (Nat.le_refl _)) (g4 _ (Nat.le_refl _)) g6 g7 g8 g9 g10 g11 g12
    obtain ⟨l, l1, l2, l3, l4⟩ := curve_both (List.replicate (12 - a.size) 0) g9 g10 g7 g8 g6 (i := 0) (by omega)
    rw [← g11, ← g12] at l4
    have m1' : ∀ k, 1048580 ≤ k → impl_components.f k a b = some m := fun k hk => at_rounds (impl_components.mono a b) hk m1
    have m2' : ∀ k, 1048580 ≤ k → spec_l08Components.f k a b = some m := fun k hk => at_rounds (spec_l08Components.mono a b) hk m2
    by_cases hm : m = 1
    · refine ⟨l, 0, by omega, fun k hk => ?_, fun k hk => ?_⟩
      · unfold spec_OrderOfMeander.f
        rw [h1 k hk, Option.bind_some, if_pos hc, m2' k hk, Option.bind_some, if_pos hm, g1 k hk, g2 k hk, Option.bind_some, Option.bind_some]
        have := l4 k (by omega)
        rw [show ((0 : Nat) : Int) = 0 from rfl] at this
        rw [this]
        rfl
      · unfold impl_OrderOfMeander.f
        rw [h2 k hk, Option.bind_some, if_pos hc, m1' k hk, Option.bind_some, if_pos hm, g3 k hk, g4 k hk, Option.bind_some, Option.bind_some]
        have := l3 k (by omega)
        rw [show ((0 : Nat) : Int) = 0 from rfl] at this
        rw [this]
        rfl
    · refine ⟨[], 5, by simp, fun k hk => ?_, fun k hk => ?_⟩
      · unfold spec_OrderOfMeander.f
        rw [h1 k hk, Option.bind_some, if_pos hc, m2' k hk, Option.bind_some, if_neg hm]
      · unfold impl_OrderOfMeander.f
        rw [h2 k hk, Option.bind_some, if_pos hc, m1' k hk, Option.bind_some, if_neg hm]
  · refine ⟨[], c, by simp, fun k hk => ?_, fun k hk => ?_⟩
    · unfold spec_OrderOfMeander.f
      rw [h1 k hk, Option.bind_some, if_neg hc]
    · unfold impl_OrderOfMeander.f
      rw [h2 k hk, Option.bind_some, if_neg hc]
theorem irrBoth (a b : ByteArray) (ha : a.size ≤ 1048576) (hb : b.size ≤ 1048576) : ∃ (y : Bool) (e : Int), spec_IsIrreduciblePair.f 1048580 a b = some (y, e) ∧ impl_IsIrreduciblePair.f 1048580 a b = some (y, e) := by
  obtain ⟨c, h1, h2, h3⟩ := codeBoth a b ha hb
  unfold spec_IsIrreduciblePair.f impl_IsIrreduciblePair.f
  rw [h1 _ (Nat.le_refl _), h2 _ (Nat.le_refl _), Option.bind_some, Option.bind_some]
  by_cases hc : c = 0
  · obtain ⟨o1, p1, o2, p2, t1, t2, y1, y2, g1, g2, g3, g4, g5, g6, g7, g8, g9, g10, g11, g12⟩ := h3 hc
    rw [if_pos hc, if_pos hc, g1 _ (Nat.le_refl _), g2 _ (Nat.le_refl _), g3 _ (Nat.le_refl _), g4 _ (Nat.le_refl _), Option.bind_some, Option.bind_some, Option.bind_some, Option.bind_some, if_pos g6]
    refine ⟨_, 0, rfl, ?_⟩
    have := irr_both p1 p2 (List.replicate (12 - a.size) 0) (List.replicate (12 - a.size) 0) a.size g7 g8 g6 (k := 1048580) (by omega)
    simp only [g7, g11, g12]
    exact this
  · rw [if_neg hc, if_neg hc]
    exact ⟨_, _, rfl, rfl⟩

end Go.Proofs.Ytopcnhppbmmbbaa.PD
