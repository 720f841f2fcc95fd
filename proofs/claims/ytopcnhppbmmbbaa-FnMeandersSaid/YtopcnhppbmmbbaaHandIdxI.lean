/- Contracts of slices.IndexFunc and slices.ContainsFunc over whole numbers of the kind int, for a function value that only answers; of impl.closedIn: each returns what a plain function says. Conditions: lists shorter than 2^60. -/
import Derived.Test.YtopcnhppbmmbbaaProg
import Derived.WalkKit
import Derived.KernelRfl
import Derived.Deep.LoopGhost
import Derived.Deep.Draws
import Derived.Lib.Walk
import Derived.OwnWalk
import Derived.Lib.Hide
import Derived.Test.YtopcnhppbmmbbaaWWords
import Derived.Test.YtopcnhppbmmbbaaWLast
import Derived.Test.YtopcnhppbmmbbaaWMore
namespace Go.Proofs.Ytopcnhppbmmbbaa.Hand
open Go.RowKit Go.Proofs.YtopcnhppbmmbbaaW.PrintWords Go.Proofs.YtopcnhppbmmbbaaW.PrintLast
set_option linter.unusedVariables false
set_option linter.unusedSimpArgs false

/-- The place of the first element of which p holds, from i on; -1 if there is none. -/
def firstAt (p : Int → Bool) (l : List Int) : Int := match l.findIdx? p with
  | none => -1
  | some i => (i : Int)
theorem firstAt_hit {p : Int → Bool} {l : List Int} {k : Nat} (hk : k < l.length) (h : p (rd l (k : Int)) = true) (hf : ∀ j : Nat, j < k → p (rd l (j : Int)) = false) : firstAt p l = (k : Int) := by
  have e : l.findIdx? p = some k := by
    rw [List.findIdx?_eq_some_iff_getElem]
    refine ⟨hk, ?_, fun j hj => ?_⟩
    · unfold rd at h
      rw [Int.toNat_natCast, List.getD_eq_getElem?_getD, List.getElem?_eq_getElem hk] at h
      exact h
    · have := hf j hj
      unfold rd at this
      rw [Int.toNat_natCast, List.getD_eq_getElem?_getD, List.getElem?_eq_getElem (by omega)] at this
      simpa using this
  unfold firstAt
  rw [e]
theorem firstAt_miss {p : Int → Bool} {l : List Int} (hf : ∀ j : Nat, j < l.length → p (rd l (j : Int)) = false) : firstAt p l = -1 := by
  have e : l.findIdx? p = none := by
    rw [List.findIdx?_eq_none_iff]
    intro x hx
    obtain ⟨j, hj, rfl⟩ := List.getElem_of_mem hx
    have := hf j hj
    unfold rd at this
    rw [Int.toNat_natCast, List.getD_eq_getElem?_getD, List.getElem?_eq_getElem hj] at this
    simpa using this
  unfold firstAt
  rw [e]
theorem firstAt_any (p : Int → Bool) (l : List Int) : decide (0 ≤ firstAt p l) = l.any p := by
  unfold firstAt
  cases h : l.findIdx? p with
  | none =>
    rw [List.findIdx?_eq_none_iff] at h
    have : l.any p = false := by rw [List.any_eq_false]; intro x hx; rw [h x hx]; simp
    rw [this]
    rfl
  | some i =>
    rw [List.findIdx?_eq_some_iff_getElem] at h
    obtain ⟨hi, hp, _⟩ := h
    have : l.any p = true := List.any_eq_true.2 ⟨_, List.getElem_mem hi, hp⟩
    rw [this]
    show decide (0 ≤ (i : Int)) = true
    exact decide_eq_true (by omega)
/-- The function value over g and what it captured answers p of every number, in every world in which all that lay in w lies unturned. -/
def Preds (g : Nat) (lb : Array Value) (p : Int → Bool) (w : World) : Prop :=
  ∀ (W : World) (x : Int), Below w.heap.size w W → Calls Try.prog g (#[.int .i64 x] ++ lb) W fun e W' => e = .returned (.bool (p x)) ∧ Drawn0 W W'
theorem below_drewN0 {B : Nat} {a w : World} (h : Below B a w) (q : Nat) : Below B a (w.drewN q) := ⟨h.os, h.tape, h.output, h.size, h.block⟩

def idx.l0 (p : Int → Bool) : Nat → List Int → Int → Option Int
  | 0, _, _ => none
  | k + 1, l, x => if x < (l.length : Int) then (if 0 ≤ x then (if p (rd l x) = true then some x else idx.l0 p k l (wrap64 (x + 1))) else none) else some (-1)
theorem idx_l0 (p : Int → Bool) (l : List Int) (hb : l.length ≤ 1152921504606846976) : ∀ (d k i : Nat), i + d = l.length → d < k → (∀ j : Nat, j < i → p (rd l (j : Int)) = false) → idx.l0 p k l (i : Int) = some (firstAt p l) := by
  intro d
  induction d with
  | zero =>
    intro k i hi hk hf
    obtain ⟨k, rfl⟩ : ∃ m, k = m + 1 := ⟨k - 1, by omega⟩
    simp only [idx.l0]
    rw [if_neg (by omega), firstAt_miss (fun j hj => hf j (by omega))]
  | succ d ih =>
    intro k i hi hk hf
    obtain ⟨k, rfl⟩ : ∃ m, k = m + 1 := ⟨k - 1, by omega⟩
    simp only [idx.l0]
    rw [if_pos (by omega), if_pos (by omega)]
    cases h : p (rd l (i : Int)) with
    | true => rw [if_pos rfl, firstAt_hit (by omega) h hf]
    | false =>
      rw [if_neg (by simp), show wrap64 ((i : Int) + 1) = ((i + 1 : Nat) : Int) from by unfold wrap64; omega]
      refine ih k (i + 1) (by omega) (by omega) (fun j hj => ?_)
      by_cases e : j = i
      · rw [e]; exact h
      · exact hf j (by omega)
set_option maxHeartbeats 2000000 in
theorem indexFunc_l (p : Int → Bool) (g : Nat) (lb : Array Value) (eg : ∀ args w, (callFunc g args).run Try.prog w = .ok (.enter g args) w) (A : Option Addr) (c : Nat) (l : List Int) (k : Nat) (r : Int) (w : World) (hr : Kd.C (Kd.int .i64) w A l.length l) (hp : Preds g lb p w) (h : idx.l0 p k l 0 = some r) :
    Calls Try.prog 56 #[.slice A l.length c, .func (.func g) #[] lb] w fun e w' => e = .returned (.int .i64 r) ∧ Drawn0 w w' := by
  have hpAt : ∀ (x : Int) (q : Nat), Calls Try.prog g (#[.int .i64 x] ++ lb) (w.drewN q) fun e w' => e = .returned (.bool (p x)) ∧ ∃ q', w' = (w.drewN q).drewN q' := fun x q => (hp _ x (below_drewN0 (Below.refl _ w) q)).mono fun _ _ h => ⟨h.1, h.2.out⟩
  clear hp
  have HP := Lib.hid hpAt
  clear hpAt
  have HR := Aside0.mk hr
  clear hr
  have H' := Aside0.mk h
  clear h
  go_enter Try.func56, Try.ntmps56
  go_wp2
  go_loopg [5, 8] k (fun kq _ v8 w' => ∃ (x8 : Int), v8 = .int .i64 x8 ∧ Aside0 (idx.l0 p kq l x8 = some r) ∧ Aside0 (kq ≤ k) ∧ Drawn0 w w')
  case atStart => exact ⟨0, rfl, H', ⟨Nat.le_refl _⟩, Drawn0.refl _⟩
  case round =>
    clear H'
    obtain ⟨x8, rfl, HA, HK1, ⟨m1, rfl⟩⟩ := hrel
    cases gk with
    | zero => exact absurd HA.out (by simp [idx.l0])
    | succ k1 =>
      have H := HA.out
      clear HA
      simp only [idx.l0] at H
      by_cases c2 : x8 < (l.length : Int)
      · rw [if_pos c2] at H
        have c2b0 : decide (x8 < (l.length : Int)) = true := decide_eq_true c2
        by_cases c3 : 0 ≤ x8
        · rw [if_pos c3] at H
          obtain ⟨ad105, e105, hx105_0⟩ := Kd.at_int HR.out x8 c3 c2
          cases e105
          have p105 := eq_true c3
          have q105 := eq_true c2
          clear c3 c2
          generalize hy : rd l x8 = y at hx105_0 H
          clear hy
          have hcall := HP.out y m1
          cases hq : p y with
          | true =>
            rw [hq, if_pos rfl] at H
            obtain rfl := Option.some.inj H
            rw [hq] at hcall
            clear H HP
            have HCALL := Lib.hid hcall
            clear hcall
            go_wp2_with fail
            refine HCALL.out.mono ?_
            rintro e w' ⟨rfl, q', rfl⟩
            clear HCALL
            go_wp2
            go_ret
            exact ⟨rfl, by repeat (first | exact Drawn0.refl _ | apply Drawn0.step)⟩
          | false =>
            rw [hq, if_neg (by simp)] at H
            rw [hq] at hcall
            have H' := Aside0.mk H
            clear H HP
            have HCALL := Lib.hid hcall
            clear hcall
            go_wp2_with fail
            refine HCALL.out.mono ?_
            rintro e w' ⟨rfl, q', rfl⟩
            clear HCALL
            go_wp2
            go_roundg k1
            case measure => have := HK1.out; omega
            case rel => exact ⟨wrap64 (x8 + 1), (by first | rfl | (simp; done) | (simp [*]; done)), H', ⟨by have := HK1.out; omega⟩, by repeat (first | exact Drawn0.refl _ | apply Drawn0.step)⟩
        · rw [if_neg c3] at H
          exact absurd H (by simp)
      · rw [if_neg c2] at H
        have c2b0 : decide (x8 < (l.length : Int)) = false := decide_eq_false c2
        clear c2
        obtain rfl := Option.some.inj H
        go_wp2
        go_ret
        exact ⟨by first | rfl | (simp; done) | (simp [*]; done), by repeat (first | exact Drawn0.refl _ | apply Drawn0.step)⟩
theorem indexFunc_calls (p : Int → Bool) (g : Nat) (lb : Array Value) (eg : ∀ args w, (callFunc g args).run Try.prog w = .ok (.enter g args) w) (A : Option Addr) (c : Nat) (l : List Int) (w : World) (hr : Kd.C (Kd.int .i64) w A l.length l) (hb : l.length ≤ 1152921504606846976) (hp : Preds g lb p w) :
    Calls Try.prog 56 #[.slice A l.length c, .func (.func g) #[] lb] w fun e w' => e = .returned (.int .i64 (firstAt p l)) ∧ Drawn0 w w' :=
  indexFunc_l p g lb eg A c l (l.length + 1) _ w hr hp (idx_l0 p l hb l.length (l.length + 1) 0 (by omega) (by omega) (fun j hj => absurd hj (Nat.not_lt_zero _)))
theorem containsFunc_calls (p : Int → Bool) (g : Nat) (lb : Array Value) (eg : ∀ args w, (callFunc g args).run Try.prog w = .ok (.enter g args) w) (A : Option Addr) (c : Nat) (l : List Int) (w : World) (hr : Kd.C (Kd.int .i64) w A l.length l) (hb : l.length ≤ 1152921504606846976) (hp : Preds g lb p w) :
    Calls Try.prog 49 #[.slice A l.length c, .func (.func g) #[] lb] w fun e w' => e = .returned (.bool (l.any p)) ∧ Drawn0 w w' := by
  have hcall := indexFunc_calls p g lb eg A c l w hr hb hp
  rw [← firstAt_any]
  generalize firstAt p l = r at hcall ⊢
  have HCALL := Lib.hid hcall
  clear hcall hr hp hb
  go_enter Try.func49, Try.ntmps49
  go_wp2_with (go_at_call 56; refine HCALL.out.mono ?_; rintro e w' ⟨rfl, ⟨q, rfl⟩⟩)
  go_ret
  exact ⟨rfl, ⟨q, rfl⟩⟩
theorem infoI : (Try.prog.info? 3).map (fun i => (i.zero, i.size, i.bytes)) = some (some (.int .i64 0), 1, 8) := by kernel_rfl
/-- The test of impl.closedIn: out of the interval. -/
def outB (n m x : Int) : Bool := decide (x < n) || decide (m ≤ x)
theorem outB_calls (n m : Int) (B C : Nat) (w : World) (hB : B < w.heap.size) (hC : C < w.heap.size) (hc0 : w.cell? ⟨B, 0, none⟩ = some (.int .i64 n)) (hd0 : w.cell? ⟨C, 0, none⟩ = some (.int .i64 m)) : Preds 50 #[.pointer (some ⟨B, 0, none⟩), .pointer (some ⟨C, 0, none⟩)] (outB n m) w := by
  intro W x hb
  have hc : W.cell? ⟨B, 0, none⟩ = some (.int .i64 n) := (hb.cell (p := ⟨B, 0, none⟩) hB).trans hc0
  have hd : W.cell? ⟨C, 0, none⟩ = some (.int .i64 m) := (hb.cell (p := ⟨C, 0, none⟩) hC).trans hd0
  clear hb hc0 hB hd0 hC
  show Calls Try.prog 50 #[.int .i64 x, .pointer (some ⟨B, 0, none⟩), .pointer (some ⟨C, 0, none⟩)] W _
  by_cases h1 : x < n
  · have h1b : decide (x < n) = true := decide_eq_true h1
    have e : outB n m x = true := by unfold outB; rw [h1b]; rfl
    rw [e]
    clear h1
    go_enter Try.func50, Try.ntmps50
    go_wp2
    go_ret
    exact ⟨by first | rfl | (simp [*]; done), Drawn0.refl _⟩
  · have h1b : decide (x < n) = false := decide_eq_false h1
    clear h1
    by_cases h2 : m ≤ x
    · have h2b : decide (m ≤ x) = true := decide_eq_true h2
      have e : outB n m x = true := by unfold outB; rw [h1b, h2b]; rfl
      rw [e]
      clear h2
      go_enter Try.func50, Try.ntmps50
      go_wp2
      go_ret
      exact ⟨by first | rfl | (simp [*]; done), Drawn0.refl _⟩
    · have h2b : decide (m ≤ x) = false := decide_eq_false h2
      have e : outB n m x = false := by unfold outB; rw [h1b, h2b]; rfl
      rw [e]
      clear h2
      go_enter Try.func50, Try.ntmps50
      go_wp2
      go_ret
      exact ⟨by first | rfl | (simp [*]; done), Drawn0.refl _⟩
/-- impl.closedIn in plain words. -/
def impl_closedIn.f (l0 : List Int) (a1 a2 : Int) : Option Bool := if l0.length ≤ 1152921504606846976 then (if 0 ≤ a1 then (if a1 ≤ a2 then (if a2 ≤ (l0.length : Int) then some (!(((l0.take a2.toNat).drop a1.toNat).any (outB a1 a2))) else none) else none) else none) else none
set_option maxHeartbeats 4000000 in
theorem impl_closedIn.calls (A0 : Option Addr) (c0 : Nat) (l0 : List Int) (a1 a2 : Int) (r : Bool) (w : World) (hr0 : Kd.C (Kd.int .i64) w A0 l0.length l0) (hc0 : l0.length ≤ c0) (h : impl_closedIn.f l0 a1 a2 = some r) :
    Calls Try.prog 41 #[.slice A0 l0.length c0, .int .i64 a1, .int .i64 a2] w fun e w' => e = .returned (.bool r) ∧ Below w.heap.size w w' := by
  unfold impl_closedIn.f at h
  by_cases hb : l0.length ≤ 1152921504606846976
  · rw [if_pos hb] at h
    by_cases h1 : 0 ≤ a1
    · rw [if_pos h1] at h
      by_cases h2 : a1 ≤ a2
      · rw [if_pos h2] at h
        by_cases h3 : a2 ≤ (l0.length : Int)
        · rw [if_pos h3] at h
          obtain rfl := Option.some.inj h
          have hW : Below w.heap.size w ((w.alloc (.cells #[.int .i64 a1] 3)).alloc (.cells #[.int .i64 a2] 3)) := ((Below.refl _ w).alloc (Nat.le_refl _) _).alloc (by simp) _
          have eg : ∀ args w, (callFunc 50 args).run Try.prog w = .ok (.enter 50 args) w := enters_ Try.func50 (by kernel_rfl) rfl
          have hmid := Kd.C_mid (lo := a1.toNat) (hi := a2.toNat) (c := c0) (Kd.C_below hr0 hW) (by omega) (by omega) hc0
          obtain ⟨i0, hi0, _, hsz0, _⟩ := info_parts infoI
          have hcut := cut_mid (P := Try.prog) 41 3 .i64 .i64 Try.underlying41 hi0 1 hsz0 A0 l0.length c0 a1 a2 h1 h2 (by omega) hc0
          have hlen : ((l0.take a2.toNat).drop a1.toNat).length = a2.toNat - a1.toNat := by rw [List.length_drop, List.length_take]; omega
          rw [← hlen] at hcut
          simp only [show (Kd.int .i64).sz = 1 from rfl] at hmid
          obtain ⟨Ax, hAx⟩ : ∃ x, (if c0 = a1.toNat then A0 else A0.map (·.add (a1.toNat * 1))) = x := ⟨_, rfl⟩
          rw [hAx] at hmid hcut
          have hcall := containsFunc_calls (outB a1 a2) 50 #[.pointer (some ⟨w.heap.size, 0, none⟩), .pointer (some ⟨w.heap.size + 1, 0, none⟩)] eg Ax (c0 - a1.toNat) _ ((w.alloc (.cells #[.int .i64 a1] 3)).alloc (.cells #[.int .i64 a2] 3)) hmid (by omega) (outB_calls a1 a2 w.heap.size (w.heap.size + 1) _ (by simp; omega) (by simp) (by simp) (by simp))
          generalize (l0.take a2.toNat).drop a1.toNat = L at hcall hcut ⊢
          generalize L.any (outB a1 a2) = b at hcall ⊢
          generalize L.length = n at hcall hcut
          have HCALL := Lib.hid hcall
          have HB := Aside0.mk hW
          clear eg hr0 hc0 hb hW hmid hi0 hsz0 hcall hAx h1 h2 h3 hlen h
          go_enter Try.func41, Try.ntmps41
          go_wp2_with fail
          refine HCALL.out.mono ?_
          rintro e w' ⟨rfl, ⟨q, rfl⟩⟩
          clear HCALL
          go_wp2
          go_ret
          exact ⟨rfl, below_drewN0 HB.out q⟩
        · rw [if_neg h3] at h
          cases h
      · rw [if_neg h2] at h
        cases h
    · rw [if_neg h1] at h
      cases h
  · rw [if_neg hb] at h
    cases h
end Go.Proofs.Ytopcnhppbmmbbaa.Hand
