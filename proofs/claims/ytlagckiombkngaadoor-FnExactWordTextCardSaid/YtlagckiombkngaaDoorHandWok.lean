/- Contracts of slices.IndexFunc and slices.ContainsFunc over whole numbers, for a function value that only answers; of impl.wordOk: each returns what a plain function says. Conditions: lists shorter than 2^60. -/
import Derived.Test.YtlagckiombkngaaDoorHandP
import Derived.WalkKit
import Derived.KernelRfl
import Derived.Deep.LoopGhost
import Derived.Deep.Draws
import Derived.Lib.Walk
import Derived.OwnWalk
import Derived.Test.YtlagckiombkngaaDoorWWords
import Derived.Test.YtlagckiombkngaaDoorWLast
import Derived.Test.YtlagckiombkngaaDoorWMore
namespace Go.Proofs.YtlagckiombkngaaDoor.Hand
open Go.RowKit Go.Proofs.YtlagckiombkngaaDoorW.PrintWords Go.Proofs.YtlagckiombkngaaDoorW.PrintLast
set_option linter.unusedVariables false
set_option linter.unusedSimpArgs false

/-- The place of the first element of which p holds, from i on; -1 if there is none. -/
def firstAt (p : Int → Bool) (l : List Int) : Int := match l.findIdx? p with
  | none => -1
  | some i => (i : Int)
theorem firstAt_hit {p : Int → Bool} {l : List Int} {k : Nat} (hk : k < l.length) (h : p (rd l (k : Int)) = true) (hf : ∀ j : Nat, j < k → p (rd l (j : Int)) = false) : firstAt p l = (k : Int) := by
  have e : l.findIdx? p = some k := by
    rw [List.findIdx?_eq_some_iff_getElem]
    refine ⟨hk, ?_, fun j hj => ?_⟩
    · unfold rd at h
      rw [Int.toNat_natCast, List.getD_eq_getElem?_getD, List.getElem?_eq_getElem hk] at h
      exact h
    · have := hf j hj
      unfold rd at this
      rw [Int.toNat_natCast, List.getD_eq_getElem?_getD, List.getElem?_eq_getElem (by omega)] at this
      simpa using this
  unfold firstAt
  rw [e]
theorem firstAt_miss {p : Int → Bool} {l : List Int} (hf : ∀ j : Nat, j < l.length → p (rd l (j : Int)) = false) : firstAt p l = -1 := by
  have e : l.findIdx? p = none := by
    rw [List.findIdx?_eq_none_iff]
    intro x hx
    obtain ⟨j, hj, rfl⟩ := List.getElem_of_mem hx
    have := hf j hj
    unfold rd at this
    rw [Int.toNat_natCast, List.getD_eq_getElem?_getD, List.getElem?_eq_getElem hj] at this
    simpa using this
  unfold firstAt
  rw [e]
theorem firstAt_any (p : Int → Bool) (l : List Int) : decide (0 ≤ firstAt p l) = l.any p := by
  unfold firstAt
  cases h : l.findIdx? p with
  | none =>
    rw [List.findIdx?_eq_none_iff] at h
    have : l.any p = false := by rw [List.any_eq_false]; intro x hx; rw [h x hx]; simp
    rw [this]
    rfl
  | some i =>
    rw [List.findIdx?_eq_some_iff_getElem] at h
    obtain ⟨hi, hp, _⟩ := h
    have : l.any p = true := List.any_eq_true.2 ⟨_, List.getElem_mem hi, hp⟩
    rw [this]
    show decide (0 ≤ (i : Int)) = true
    exact decide_eq_true (by omega)
/-- The function value over g and what it captured answers p of every number, in every world in which all that lay in w lies unturned. -/
def Preds (g : Nat) (lb : Array Value) (p : Int → Bool) (w : World) : Prop :=
  ∀ (W : World) (x : Int), Below w.heap.size w W → Calls Tryd.prog g (#[.int .i64 x] ++ lb) W fun e W' => e = .returned (.bool (p x)) ∧ Drawn0 W W'
theorem below_drewN0 {B : Nat} {a w : World} (h : Below B a w) (q : Nat) : Below B a (w.drewN q) := ⟨h.os, h.tape, h.output, h.size, h.block⟩

def idx.l0 (p : Int → Bool) : Nat → List Int → Int → Option Int
  | 0, _, _ => none
  | k + 1, l, x => if x < (l.length : Int) then (if 0 ≤ x then (if p (rd l x) = true then some x else idx.l0 p k l (wrap64 (x + 1))) else none) else some (-1)
theorem idx_l0 (p : Int → Bool) (l : List Int) (hb : l.length ≤ 1152921504606846976) : ∀ (d k i : Nat), i + d = l.length → d < k → (∀ j : Nat, j < i → p (rd l (j : Int)) = false) → idx.l0 p k l (i : Int) = some (firstAt p l) := by
  intro d
  induction d with
  | zero =>
    intro k i hi hk hf
    obtain ⟨k, rfl⟩ : ∃ m, k = m + 1 := ⟨k - 1, by omega⟩
    simp only [idx.l0]
    rw [if_neg (by omega), firstAt_miss (fun j hj => hf j (by omega))]
  | succ d ih =>
    intro k i hi hk hf
    obtain ⟨k, rfl⟩ : ∃ m, k = m + 1 := ⟨k - 1, by omega⟩
    simp only [idx.l0]
    rw [if_pos (by omega), if_pos (by omega)]
    cases h : p (rd l (i : Int)) with
    | true => rw [if_pos rfl, firstAt_hit (by omega) h hf]
    | false =>
      rw [if_neg (by simp), show wrap64 ((i : Int) + 1) = ((i + 1 : Nat) : Int) from by unfold wrap64; omega]
      refine ih k (i + 1) (by omega) (by omega) (fun j hj => ?_)
      by_cases e : j = i
      · rw [e]; exact h
      · exact hf j (by omega)
set_option maxHeartbeats 2000000 in
theorem indexFunc_l (p : Int → Bool) (g : Nat) (lb : Array Value) (eg : ∀ args w, (callFunc g args).run Tryd.prog w = .ok (.enter g args) w) (A : Option Addr) (c : Nat) (l : List Int) (k : Nat) (r : Int) (w : World) (hr : Kd.C (Kd.int .i64) w A l.length l) (hp : Preds g lb p w) (h : idx.l0 p k l 0 = some r) :
    Calls Tryd.prog 17 #[.slice A l.length c, .func (.func g) #[] lb] w fun e w' => e = .returned (.int .i64 r) ∧ Drawn0 w w' := by
  have hpAt : ∀ (x : Int) (q : Nat), Calls Tryd.prog g (#[.int .i64 x] ++ lb) (w.drewN q) fun e w' => e = .returned (.bool (p x)) ∧ ∃ q', w' = (w.drewN q).drewN q' := fun x q => (hp _ x (below_drewN0 (Below.refl _ w) q)).mono fun _ _ h => ⟨h.1, h.2.out⟩
  clear hp
  have HP := Aside0.mk hpAt
  clear hpAt
  have HR := Aside0.mk hr
  clear hr
  have H' := Aside0.mk h
  clear h
  go_enter Tryd.func17, Tryd.ntmps17
  go_wp2
  go_loopg [5, 8] k (fun kq _ v8 w' => ∃ (x8 : Int), v8 = .int .i64 x8 ∧ Aside0 (idx.l0 p kq l x8 = some r) ∧ Aside0 (kq ≤ k) ∧ Drawn0 w w')
  case atStart => exact ⟨0, rfl, H', ⟨Nat.le_refl _⟩, Drawn0.refl _⟩
  case round =>
    clear H'
    obtain ⟨x8, rfl, HA, HK1, ⟨m1, rfl⟩⟩ := hrel
    cases gk with
    | zero => exact absurd HA.out (by simp [idx.l0])
    | succ k1 =>
      have H := HA.out
      clear HA
      simp only [idx.l0] at H
      by_cases c2 : x8 < (l.length : Int)
      · rw [if_pos c2] at H
        have c2b0 : decide (x8 < (l.length : Int)) = true := decide_eq_true c2
        by_cases c3 : 0 ≤ x8
        · rw [if_pos c3] at H
          obtain ⟨ad105, e105, hx105_0⟩ := Kd.at_int HR.out x8 c3 c2
          cases e105
          have p105 := eq_true c3
          have q105 := eq_true c2
          clear c3 c2
          generalize hy : rd l x8 = y at hx105_0 H
          clear hy
          have hcall := HP.out y m1
          cases hq : p y with
          | true =>
            rw [hq, if_pos rfl] at H
            obtain rfl := Option.some.inj H
            rw [hq] at hcall
            clear H HP
            have HCALL := Aside0.mk hcall
            clear hcall
            go_wp2_with fail
            refine HCALL.out.mono ?_
            rintro e w' ⟨rfl, q', rfl⟩
            clear HCALL
            go_wp2
            go_ret
            exact ⟨rfl, by repeat (first | exact Drawn0.refl _ | apply Drawn0.step)⟩
          | false =>
            rw [hq, if_neg (by simp)] at H
            rw [hq] at hcall
            have H' := Aside0.mk H
            clear H HP
            have HCALL := Aside0.mk hcall
            clear hcall
            go_wp2_with fail
            refine HCALL.out.mono ?_
            rintro e w' ⟨rfl, q', rfl⟩
            clear HCALL
            go_wp2
            go_roundg k1
            case measure => have := HK1.out; omega
            case rel => exact ⟨wrap64 (x8 + 1), (by first | rfl | (simp; done) | (simp [*]; done)), H', ⟨by have := HK1.out; omega⟩, by repeat (first | exact Drawn0.refl _ | apply Drawn0.step)⟩
        · rw [if_neg c3] at H
          exact absurd H (by simp)
      · rw [if_neg c2] at H
        have c2b0 : decide (x8 < (l.length : Int)) = false := decide_eq_false c2
        clear c2
        obtain rfl := Option.some.inj H
        go_wp2
        go_ret
        exact ⟨by first | rfl | (simp; done) | (simp [*]; done), by repeat (first | exact Drawn0.refl _ | apply Drawn0.step)⟩
theorem indexFunc_calls (p : Int → Bool) (g : Nat) (lb : Array Value) (eg : ∀ args w, (callFunc g args).run Tryd.prog w = .ok (.enter g args) w) (A : Option Addr) (c : Nat) (l : List Int) (w : World) (hr : Kd.C (Kd.int .i64) w A l.length l) (hb : l.length ≤ 1152921504606846976) (hp : Preds g lb p w) :
    Calls Tryd.prog 17 #[.slice A l.length c, .func (.func g) #[] lb] w fun e w' => e = .returned (.int .i64 (firstAt p l)) ∧ Drawn0 w w' :=
  indexFunc_l p g lb eg A c l (l.length + 1) _ w hr hp (idx_l0 p l hb l.length (l.length + 1) 0 (by omega) (by omega) (fun j hj => absurd hj (Nat.not_lt_zero _)))
theorem containsFunc_calls (p : Int → Bool) (g : Nat) (lb : Array Value) (eg : ∀ args w, (callFunc g args).run Tryd.prog w = .ok (.enter g args) w) (A : Option Addr) (c : Nat) (l : List Int) (w : World) (hr : Kd.C (Kd.int .i64) w A l.length l) (hb : l.length ≤ 1152921504606846976) (hp : Preds g lb p w) :
    Calls Tryd.prog 14 #[.slice A l.length c, .func (.func g) #[] lb] w fun e w' => e = .returned (.bool (l.any p)) ∧ Drawn0 w w' := by
  have hcall := indexFunc_calls p g lb eg A c l w hr hb hp
  rw [← firstAt_any]
  generalize firstAt p l = r at hcall ⊢
  have HCALL := Aside0.mk hcall
  clear hcall hr hp hb
  go_enter Tryd.func14, Tryd.ntmps14
  go_wp2_with (go_at_call 17; refine HCALL.out.mono ?_; rintro e w' ⟨rfl, ⟨q, rfl⟩⟩)
  go_ret
  exact ⟨rfl, ⟨q, rfl⟩⟩
/-- The test of impl.wordOk: out of the range of the generators. -/
def badW (n x : Int) : Bool := !(decide (0 ≤ x) && decide (x ≤ wrap64 (n - 2)))
theorem badW_calls (n : Int) (B : Nat) (w : World) (hB : B < w.heap.size) (hc0 : w.cell? ⟨B, 0, none⟩ = some (.int .i64 n)) : Preds 15 #[.pointer (some ⟨B, 0, none⟩)] (badW n) w := by
  intro W x hb
  have hc : W.cell? ⟨B, 0, none⟩ = some (.int .i64 n) := (hb.cell (p := ⟨B, 0, none⟩) hB).trans hc0
  clear hb hc0 hB
  show Calls Tryd.prog 15 #[.int .i64 x, .pointer (some ⟨B, 0, none⟩)] W _
  by_cases h1 : 0 ≤ x
  · have h1b : decide (0 ≤ x) = true := decide_eq_true h1
    by_cases h2 : x ≤ wrap64 (n - 2)
    · have h2b : decide (x ≤ wrap64 (n - 2)) = true := decide_eq_true h2
      have e : badW n x = false := by unfold badW; rw [h1b, h2b]; rfl
      rw [e]
      clear h1 h2
      go_enter Tryd.func15, Tryd.ntmps15
      go_wp2
      go_ret
      exact ⟨by first | rfl | (simp [*]; done), Drawn0.refl _⟩
    · have h2b : decide (x ≤ wrap64 (n - 2)) = false := decide_eq_false h2
      have e : badW n x = true := by unfold badW; rw [h1b, h2b]; rfl
      rw [e]
      clear h1 h2
      go_enter Tryd.func15, Tryd.ntmps15
      go_wp2
      go_ret
      exact ⟨by first | rfl | (simp [*]; done), Drawn0.refl _⟩
  · have h1b : decide (0 ≤ x) = false := decide_eq_false h1
    have e : badW n x = true := by unfold badW; rw [h1b]; rfl
    rw [e]
    clear h1
    go_enter Tryd.func15, Tryd.ntmps15
    go_wp2
    go_ret
    exact ⟨by first | rfl | (simp [*]; done), Drawn0.refl _⟩
/-- impl.wordOk in plain words. -/
def impl_wordOk.f (a0 : Int) (l1 : List Int) : Option Bool := if l1.length ≤ 1152921504606846976 then some (decide (2 ≤ a0 ∧ a0 ≤ 8) && (decide (l1.length ≤ 60) && !(l1.any (badW a0)))) else none
theorem impl_wordOk.calls (a0 : Int) (A1 : Option Addr) (c1 : Nat) (l1 : List Int) (r : Bool) (w : World) (hr1 : Kd.C (Kd.int .i64) w A1 l1.length l1) (hc1 : l1.length ≤ c1) (h : impl_wordOk.f a0 l1 = some r) :
    Calls Tryd.prog 10 #[.int .i64 a0, .slice A1 l1.length c1] w fun e w' => e = .returned (.bool r) ∧ Below w.heap.size w w' := by
  unfold impl_wordOk.f at h
  by_cases hb : l1.length ≤ 1152921504606846976
  · rw [if_pos hb] at h
    have hW : Below w.heap.size w (w.alloc (.cells #[.int .i64 a0] 2)) := (Below.refl _ w).alloc (Nat.le_refl _) _
    have eg : ∀ args w, (callFunc 15 args).run Tryd.prog w = .ok (.enter 15 args) w := enters_ Tryd.func15 (by kernel_rfl) rfl
    have hcall := containsFunc_calls (badW a0) 15 #[.pointer (some ⟨w.heap.size, 0, none⟩)] eg A1 c1 l1 (w.alloc (.cells #[.int .i64 a0] 2)) (Kd.C_below hr1 hW) hb (badW_calls a0 w.heap.size _ (by simp) (by simp))
    clear eg hr1 hc1 hb hW
    generalize l1.any (badW a0) = bad at hcall h
    have HCALL := Aside0.mk hcall
    clear hcall
    by_cases h1 : 2 ≤ a0 ∧ a0 ≤ 8
    · rw [decide_eq_true h1, Bool.true_and] at h
      obtain ⟨h1, h2⟩ := h1
      have h1b : decide (2 ≤ a0) = true := decide_eq_true h1
      have h2b : decide (a0 ≤ 8) = true := decide_eq_true h2
      by_cases h3 : l1.length ≤ 60
      · have h3b : decide ((l1.length : Int) ≤ 60) = true := decide_eq_true (by omega)
        rw [decide_eq_true h3, Bool.true_and] at h
        obtain rfl := Option.some.inj h
        clear h
        go_enter Tryd.func10, Tryd.ntmps10
        go_wp2_with (first | (go_at_call 14; refine HCALL.out.mono ?_; rintro e w' ⟨rfl, ⟨q, rfl⟩⟩) | go_in)
        go_ret
        exact ⟨rfl, below_drewN0 ((Below.refl _ w).alloc (Nat.le_refl _) _) q⟩
      · have h3b : decide ((l1.length : Int) ≤ 60) = false := decide_eq_false (by omega)
        rw [decide_eq_false h3, Bool.false_and] at h
        obtain rfl := Option.some.inj h
        clear h
        go_enter Tryd.func10, Tryd.ntmps10
        go_wp2
        go_ret
        exact ⟨rfl, (Below.refl _ w).alloc (Nat.le_refl _) _⟩
    · rw [decide_eq_false h1, Bool.false_and] at h
      obtain rfl := Option.some.inj h
      clear h
      by_cases h2 : 2 ≤ a0
      · have h2b : decide (2 ≤ a0) = true := decide_eq_true h2
        have h3b : decide (a0 ≤ 8) = false := decide_eq_false (by omega)
        go_enter Tryd.func10, Tryd.ntmps10
        go_wp2
        go_ret
        exact ⟨rfl, (Below.refl _ w).alloc (Nat.le_refl _) _⟩
      · have h2b : decide (2 ≤ a0) = false := decide_eq_false h2
        go_enter Tryd.func10, Tryd.ntmps10
        go_wp2
        go_ret
        exact ⟨rfl, (Below.refl _ w).alloc (Nat.le_refl _) _⟩
  · rw [if_neg hb] at h
    cases h
end Go.Proofs.YtlagckiombkngaaDoor.Hand
