/- The contract of impl.determinant, over a table as it lies. No condition. -/
import Derived.Test.YtmpdloamgiejhaaHandIndex
import Derived.Test.YtmpdloamgiejhaaHandHalt
import Derived.StillTailTactics
import Derived.Deep.CutRange
import Derived.Deep.DeepCutAuto
import Derived.BigRegion
namespace Go.Proofs.Ytmpdloamgiejhaa.Hand
open Go.RowKit Go.Proofs.YtmpdloamgiejhaaW.PrintWords Go.Proofs.YtmpdloamgiejhaaW.PrintLast Go.Proofs.YtmpdloamgiejhaaW.PrintMore
set_option linter.unusedVariables false
set_option linter.unusedSimpArgs false

/-- A row less a multiple of the row c. -/
def dt2 (p : Int) (c r : Nat) (f : Int) : Nat → Nat → List (List Int) → Option (List (List Int))
  | 0, _, L => some L
  | d + 1, i, L => (impl_rest.f (wrap64 (ent L r i - wrap64 (f * ent L c i))) p).bind fun v => dt2 p c r f d (i + 1) (put L r i v)
/-- All rows from r on. -/
def dt1 (p by_ : Int) (c n : Nat) : Nat → Nat → List (List Int) → Option (List (List Int))
  | 0, _, L => some L
  | d + 1, r, L => if p = 0 then none else (dt2 p c r (Int.tmod (wrap64 (ent L r c * by_)) p) n 0 L).bind fun L' => dt1 p by_ c n d (r + 1) L'
/-- All columns from c on. -/
def dt0 (K : Nat) (p : Int) (n : Nat) : Nat → Nat → List (List Int) → Int → Option Int
  | 0, _, _, out => some out
  | d + 1, c, L, out => match ixg L c (L.length - c) c with
    | none => some 0
    | some k => if p = 0 then none else (if k = c then some out else impl_rest.f (wrap64 (-out)) p).bind fun o1 =>
      (impl_inverse.f K (ent (if k = c then L else swp L c k) c c) p).bind fun b =>
      (dt1 p b c n (L.length - (c + 1)) (c + 1) (if k = c then L else swp L c k)).bind fun L2 =>
      dt0 K p n d (c + 1) L2 (Int.tmod (wrap64 (o1 * ent (if k = c then L else swp L c k) c c)) p)
/-- The box of a number. -/
def Box (w : World) (bx : Nat) (c : Int) : Prop := w.heap[bx]? = some (.cells #[.int .i64 c] 3 (0, 0))
theorem Box.cell {w : World} {bx : Nat} {c : Int} (h : Box w bx c) : w.cell? ⟨bx, 0, none⟩ = some (.int .i64 c) := by rw [cell_of_row _ _ _ _ _ _ h]; rfl
theorem Box.ne_g {w : World} {bx : Nat} {c : Int} (h : Box w bx c) {B g n : Nat} {bs cs : Nat → Nat} {L : List (List Int)} (hT : Tab w B g n bs cs L) : bx ≠ g := by
  obtain ⟨HC, h2, _⟩ := hT.outer
  intro e
  unfold Box at h
  rw [e, h2] at h
  injection h with h
  injection h with _ h
  exact absurd h (by decide)
theorem Box.ne_b {w : World} {bx : Nat} {c : Int} (h : Box w bx c) {B g n : Nat} {bs cs : Nat → Nat} {L : List (List Int)} (hT : Tab w B g n bs cs L) {j : Nat} (hj : j < L.length) : bx ≠ bs j := by
  obtain ⟨_, _, RC, h2, _⟩ := hT.row j hj
  intro e
  unfold Box at h
  rw [e, h2] at h
  injection h with h
  injection h with _ h
  exact absurd h (by decide)
theorem Box.step {w w' : World} {bx : Nat} {c : Int} (h : Box w bx c) (hb : w'.heap[bx]? = w.heap[bx]?) : Box w' bx c := hb.trans h
theorem rest_same (a p r : Int) (w : World) (h : impl_rest.f a p = some r) :
    Calls Try.prog 48 #[.int .i64 a, .int .i64 p] w fun e w' => e = .returned (.int .i64 r) ∧ w' = w := by
  unfold impl_rest.f at h
  by_cases c1 : p = 0
  · rw [if_pos c1] at h; cases h
  · rw [if_neg c1] at h
    have e := Option.some.inj h
    have c2 : (p == 0) = false := by rw [beq_eq_false_iff_ne]; exact c1
    clear h
    go_enter Try.func48, Try.ntmps48
    go_wp2
    go_ret
    exact ⟨by rw [← e]; rfl, rfl⟩
set_option maxHeartbeats 8000000 in
set_option maxRecDepth 100000 in
theorem det_calls (K : Nat) (w0 w : World) (g n cap : Nat) (bs cs : Nat → Nat) (L : List (List Int)) (p r : Int) (hB : Below w0.heap.size w0 w) (hT : Tab w w0.heap.size g n bs cs L) (hn : L.length = n) (hm : n ≤ 100) (hcap : n ≤ cap) (hmax : cap ≤ maxLen) (hp : p ≠ 0) (h : dt0 K p n n 0 L (1 % p) = some r) :
    Calls Try.prog 27 #[.slice (some ⟨g, 0, none⟩) n cap, .int .i64 p] w fun e w' => e = .returned (.int .i64 r) ∧ Below w0.heap.size w0 w' := by
  have HB := Aside0.mk hB
  have HT := Aside0.mk hT
  have HN := Aside0.mk hn
  have HM := Aside0.mk hm
  have HCAP := Aside0.mk hcap
  have HMAX := Aside0.mk hmax
  have HH := Aside0.mk h
  have pz : (p == 0) = false := by rw [beq_eq_false_iff_ne]; exact hp
  clear hB hT hn hm hcap hmax h
  go_enter Try.func27, Try.ntmps27
  go_wp2
  go_loopg [5, 17] n (fun dq v5 v17 w' => ∃ (c : Nat) (out : Int) (L' : List (List Int)) (bs' cs' : Nat → Nat), v5 = .int .i64 out ∧ v17 = .int .i64 (c : Int) ∧ Aside0 (c + dq = n) ∧ Aside0 (L'.length = n) ∧ Aside0 (dt0 K p n dq c L' out = some r) ∧ Aside0 (Tab w' w0.heap.size g n bs' cs' L') ∧ Aside0 (Below w0.heap.size w0 w'))
  case atStart => exact ⟨0, 1 % p, L, bs, cs, rfl, rfl, ⟨by omega⟩, HN, HH, HT, HB⟩
  case round =>
    clear HH HT HB HN
    obtain ⟨c, out, L, bs, cs, rfl, rfl, HC, HN, HH, HT, HB⟩ := hrel
    cases gk with
    | zero =>
      have hd := HC.out
      have c1 : decide ((c : Int) < (n : Int)) = false := decide_eq_false (by omega)
      have e : out = r := Option.some.inj HH.out
      subst e
      go_wp2
      go_ret
      exact ⟨rfl, HB.out⟩
    | succ dq =>
      have hd := HC.out
      have c1 : decide ((c : Int) < (n : Int)) = true := decide_eq_true (by omega)
      have q1 := eq_true (show (0 : Int) ≤ (c : Int) by omega)
      have q2 := eq_true (show (c : Int) < (n : Int) by omega)
      have q3 := eq_true (show (c : Int) ≤ (n : Int) by omega)
      have q4 := eq_false (show ¬ cap = c by have := HCAP.out; omega)
      have HB1 := Aside0.mk (HB.out.alloc (below_size HB.out) (.cells #[.int .i64 (c : Int)] 3))
      have HT1 := Aside0.mk (HT.out.alloc (.cells #[.int .i64 (c : Int)] 3))
      have HX1 := Aside0.mk (show Box (wr.alloc (.cells #[.int .i64 (c : Int)] 3)) wr.heap.size (c : Int) from heap_alloc_new wr _)
      obtain ⟨bx, hbx⟩ : ∃ bx, wr.heap.size = bx := ⟨_, rfl⟩
      go_wp2_with fail
      rw [hbx] at HX1
      have HBX := Aside0.mk (show w0.heap.size ≤ bx by rw [← hbx]; exact below_size HB.out)
      refine (index_calls _ w0.heap.size g n bs cs L bx c c (cap - c) HT1.out HX1.out.cell (by omega) (by have := HN.out; omega) (by have := HN.out; have := HM.out; omega) (n - c) (by rw [HN.out])).mono ?_
      obtain ⟨kv, hkv⟩ : ∃ kv, ixr L c (n - c) c c = kv := ⟨_, rfl⟩
      rw [hkv]
      rintro e w1 ⟨rfl, qi, rfl⟩
      generalize hwA : (wr.alloc (.cells #[.int .i64 (c : Int)] 3)).drewN qi = wA at *
      have HBA := Aside0.mk (show Below w0.heap.size w0 wA by rw [← hwA]; exact pw_below_drewN HB1.out qi)
      have HTA := Aside0.mk (show Tab wA w0.heap.size g n bs cs L by rw [← hwA]; exact HT1.out.drewN qi)
      have HXA := Aside0.mk (show Box wA bx (c : Int) by rw [← hwA]; exact HX1.out)
      have HIX := Aside0.mk hkv
      clear hwA HB1 HT1 HX1 HB HT hbx hkv
      have hh := HH.out
      simp only [dt0] at hh
      rw [HN.out] at hh
      have hix := HIX.out
      unfold ixr at hix
      cases hk : ixg L c (n - c) c with
      | none =>
        rw [hk] at hh hix
        simp only at hh hix
        subst hix
        obtain rfl := Option.some.inj hh
        clear hh hk HH
        go_wp2
        go_ret
        exact ⟨rfl, HBA.out⟩
      | some k =>
        rw [hk] at hh hix
        simp only at hh hix
        rw [if_neg hp] at hh
        have hkk := ixg_some hk
        subst hix
        clear hk HH
        have hx : ∃ (o1 b : Int) (L1 L2 : List (List Int)), (if k = c then some out else impl_rest.f (wrap64 (-out)) p) = some o1 ∧ (if k = c then L else swp L c k) = L1 ∧ impl_inverse.f K (ent L1 c c) p = some b ∧ dt1 p b c n (n - (c + 1)) (c + 1) L1 = some L2 ∧ dt0 K p n dq (c + 1) L2 (Int.tmod (wrap64 (o1 * ent L1 c c)) p) = some r := by
          obtain ⟨o1, ho1, h1⟩ := Option.bind_eq_some_iff.1 hh
          obtain ⟨b, hb, h2⟩ := Option.bind_eq_some_iff.1 h1
          obtain ⟨L2, hL2, h3⟩ := Option.bind_eq_some_iff.1 h2
          exact ⟨o1, b, _, L2, ho1, rfl, hb, hL2, h3⟩
        clear hh
        obtain ⟨o1, b, L1, L2, ho1, hL1, hb, hL2, hh⟩ := hx
        have HO1 := Aside0.mk ho1
        have HHH := Aside0.mk hh
        have HL1 := Aside0.mk hL1
        have HL2 := Aside0.mk hL2
        have HBB := Aside0.mk hb
        have HN1 := Aside0.mk (show L1.length = n by rw [← hL1]; split; exact HN.out; rw [swp_len]; exact HN.out)
        clear hh hL2 hb ho1 hL1
        obtain ⟨dd, hkd⟩ : ∃ dd, k = c + dd := ⟨k - c, by omega⟩
        rw [show ((k - c : Nat) : Int) = (dd : Int) by omega]
        have hkn : k < n := by omega
        have HKD := Aside0.mk hkd
        have c6 : decide ((dd : Int) < 0) = false := decide_eq_false (by omega)
        clear hkk hkd
        go_upto_if 28 with fail
        go_cut [5] (fun s5 wx => s5 = .int .i64 o1 ∧ ∃ bs1 cs1, Aside0 (Tab wx w0.heap.size g n bs1 cs1 L1) ∧ Aside0 (Box wx bx (c : Int)) ∧ Aside0 (Below w0.heap.size w0 wx))
        case first =>
          by_cases hdd : 0 < dd
          · have hkc : ¬ k = c := by have := HKD.out; omega
            have ho1 := HO1.out
            rw [if_neg hkc] at ho1
            have HO2 := Aside0.mk ho1
            have hL1 := HL1.out
            rw [if_neg hkc] at hL1
            have HL3 := Aside0.mk hL1
            clear ho1 hL1 HL1 HO1
            have hcl : c < L.length := by have := HN.out; omega
            have hkl : k < L.length := by have := HN.out; omega
            have c7 : decide (0 < (dd : Int)) = true := decide_eq_true (by omega)
            have c8 : decide (0 < dd) = true := decide_eq_true (by omega)
            have z1 := HTA.out.head (j := c) hcl
            have z2 := HTA.out.head (j := k) hkl
            have z3 := HXA.out.cell
            have y1 : wrap64 ((c : Int) + (dd : Int)) = (k : Int) := by have := HM.out; have := HKD.out; unfold wrap64; omega
            have yw := i64_w ((c : Int) + (dd : Int))
            have y2 := eq_true (show (0 : Int) ≤ (k : Int) by omega)
            have y3 := eq_true (show (k : Int) < (n : Int) by omega)
            have f1 : wA.frozen? ⟨g, c, none⟩ = false := HTA.out.head_frozen c
            have f0 : wA.frozen? ⟨g, k, none⟩ = false := HTA.out.head_frozen k
            obtain ⟨HCc, hHC, hHC2⟩ := HTA.out.outer
            have s1 := heap_setCell_same wA g c HCc _ (.slice (some ⟨bs k, 0, none⟩) n (cs k)) hHC
            have f2 : (wA.setCell ⟨g, c, none⟩ (.slice (some ⟨bs k, 0, none⟩) n (cs k))).frozen? ⟨g, k, none⟩ = false := frozen_of_row _ _ _ _ _ s1
            obtain ⟨u2, e2⟩ : ∃ u2, (wA.setCell ⟨g, c, none⟩ (.slice (some ⟨bs k, 0, none⟩) n (cs k))).cell? ⟨g, k, none⟩ = some u2 := by
              rw [cell_of_row _ _ _ _ _ _ s1]
              exact ⟨_, Array.getElem?_eq_getElem (by rw [Array.size_setIfInBounds]; exact (Array.getElem?_eq_some_iff.1 (hHC2 k hkl)).1)⟩
            have e3 : (wA.setCell ⟨g, c, none⟩ (.slice (some ⟨bs k, 0, none⟩) n (cs k))).cell? ⟨bx, 0, none⟩ = some (.int .i64 (c : Int)) := by
              rw [World.cell?_of_block (w := wA) (heap_setCell_other wA _ _ _ (HXA.out.ne_g HTA.out))]; exact HXA.out.cell
            clear hHC hHC2 s1 HIX HMAX
            go_wp2_with fail
            go_region
            obtain ⟨wS, hwS⟩ : ∃ wS, wS = ((wA.setCell ⟨g, c, none⟩ (.slice (some ⟨bs k, 0, none⟩) n (cs k))).setCell ⟨g, k, none⟩ (.slice (some ⟨bs c, 0, none⟩) n (cs c))).drew := ⟨_, rfl⟩
            rw [← hwS]
            have HTS := Aside0.mk (show Tab wS w0.heap.size g n (fun l => bs (sw c k l)) (fun l => cs (sw c k l)) L1 by rw [hwS, ← HL3.out]; exact (HTA.out.swap hcl hkl).drew)
            have HXS := Aside0.mk (show Box wS bx (c : Int) by
              rw [hwS]
              exact (heap_setCell_other _ _ _ _ (HXA.out.ne_g HTA.out)).trans ((heap_setCell_other wA _ _ _ (HXA.out.ne_g HTA.out)).trans HXA.out))
            have HBS := Aside0.mk (show Below w0.heap.size w0 wS by
              rw [hwS]
              exact ((HBA.out.setCell (p := ⟨g, c, none⟩) HTA.out.gB _).setCell (p := ⟨g, k, none⟩) HTA.out.gB _).drew)
            clear hwS z1 z2 z3 e2 e3 f0 f1 f2 HTA HXA HBA hcl hkl y1 yw y2 y3 c6 c7 c8
            have hwn := i64_w (-out)
            go_wp2_with fail
            refine (rest_same _ p o1 _ HO2.out).mono ?_
            rintro e wS' ⟨rfl, rfl⟩
            clear hwn HO2
            go_wp2_with fail
            go_meet
            exact ⟨rfl, _, _, HTS, HXS, HBS⟩
          · have hkc : k = c := by have := HKD.out; omega
            have c7 : decide (0 < (dd : Int)) = false := decide_eq_false (by omega)
            have c8 : decide (0 < dd) = false := decide_eq_false (by omega)
            have ho1 := HO1.out
            rw [if_pos hkc] at ho1
            have hL1 := HL1.out
            rw [if_pos hkc] at hL1
            obtain rfl := Option.some.inj ho1
            subst hL1
            clear ho1 HL1 HO1
            go_wp2_with fail
            go_meet
            exact ⟨rfl, _, _, HTA, HXA, HBA⟩
        case rest =>
          obtain ⟨rfl, bs1, cs1, HTS, HXS, HBS⟩ := hcut
          clear HTA HXA HBA HN HO1 HL1 HKD hkn c6 HIX
          rename Aside0 (L1.length = n) => HN
          have z1 := HTS.out.head (j := c) (by have := HN.out; omega)
          have z2 := HTS.out.cell (j := c) (i := c) (by have := HN.out; omega) (by omega)
          have z3 := HXS.out.cell
          have hw1 := i64_w (o1 * ent L1 c c)
          go_wp2_with fail
          go_still (by kernel_rfl)
          obtain ⟨wC, hwC⟩ : ∃ wC, wC = wc.drew := ⟨_, rfl⟩
          change Exit.then _ _ Exit.normal _ wc.drew
          rw [← hwC]
          have HBC := Aside0.mk (show Below w0.heap.size w0 wC by rw [hwC]; exact HBS.out.drew)
          have HTC := Aside0.mk (show Tab wC w0.heap.size g n bs1 cs1 L1 by rw [hwC]; exact HTS.out.drew)
          have HXC := Aside0.mk (show Box wC bx (c : Int) by rw [hwC]; exact HXS.out)
          clear hwC z1 z2 z3 HBS HTS HXS
          have z1 := HTC.out.head (j := c) (by have := HN.out; omega)
          have z2 := HTC.out.cell (j := c) (i := c) (by have := HN.out; omega) (by omega)
          have z3 := HXC.out.cell
          go_wp2_with fail
          go_quiet (first | (go_at_call 49; with_reducible exact Calls.quiet_of ((impl_inverse.calls K _ p b _ HBB.out).mono fun _ _ h => ⟨h.1, h.2.out⟩)))
          obtain ⟨wB, hwB⟩ : ∃ wB, wB = wC.drewN nq := ⟨_, rfl⟩
          rw [← hwB]
          have HBB1 := Aside0.mk (show Below w0.heap.size w0 wB by rw [hwB]; exact pw_below_drewN HBC.out nq)
          have HTB := Aside0.mk (show Tab wB w0.heap.size g n bs1 cs1 L1 by rw [hwB]; exact HTC.out.drewN nq)
          have HXB := Aside0.mk (show Box wB bx (c : Int) by rw [hwB]; exact HXC.out)
          clear hwB z1 z2 z3 HBC HTC HXC HBB
          have x1 := HXB.out.cell
          have y1 : wrap64 ((c : Int) + 1) = ((c + 1 : Nat) : Int) := by have := HM.out; unfold wrap64; omega
          have y2 := eq_true (show (0 : Int) ≤ ((c + 1 : Nat) : Int) by omega)
          have y3 := eq_true (show ((c + 1 : Nat) : Int) ≤ (n : Int) by omega)
          by_cases hck : cap = c + 1
          · have y4 := eq_true hck
            have Y1 := Aside0.mk y1
            have HCK := Aside0.mk hck
            clear hck
            go_wp2_with fail
            clear y1
            go_loopg [76] 0 (fun eq v76 w' => v76 = .int .i64 0 ∧ Aside0 (Tab w' w0.heap.size g n bs1 cs1 L1) ∧ Aside0 (Below w0.heap.size w0 w'))
            case atStart => exact ⟨rfl, HTB, HBB1⟩
            case round =>
              clear HTB HXB HBB1 x1
              obtain ⟨rfl, HTB, HBB1⟩ := hrel
              have hn0 : n - (c + 1) = 0 := by have := HCK.out; have := HCAP.out; omega
              have e : L1 = L2 := by
                have h2 := HL2.out
                rw [hn0] at h2
                exact Option.some.inj h2
              subst e
              have c2 : decide ((0 : Int) < ((n - (c + 1) : Nat) : Int)) = false := decide_eq_false (by omega)
              go_wp2
              go_roundg dq
              case measure => omega
              case rel => exact ⟨c + 1, _, L1, bs1, cs1, rfl, congrArg _ Y1.out, ⟨by omega⟩, HN, HHH, HTB, HBB1⟩
          · have y4 := eq_false hck
            have Y1 := Aside0.mk y1
            go_wp2_with fail
            clear y1
            go_loopg [76] (n - (c + 1)) (fun eq v76 w' => ∃ (t : Nat) (L' : List (List Int)), v76 = .int .i64 (t : Int) ∧ Aside0 (t + eq = n - (c + 1)) ∧ Aside0 (L'.length = n) ∧ Aside0 (dt1 p b c n eq (c + 1 + t) L' = some L2) ∧ Aside0 (Tab w' w0.heap.size g n bs1 cs1 L') ∧ Aside0 (Box w' bx (c : Int)) ∧ Aside0 (Below w0.heap.size w0 w'))
            case atStart => exact ⟨0, L1, rfl, ⟨by omega⟩, HN, HL2, HTB, HXB, HBB1⟩
            case round =>
              clear HTB HXB HBB1 HL2 HN x1
              obtain ⟨t, L', rfl, HE, HN, HL2, HTB, HXB, HBB1⟩ := hrel
              have x1 := HXB.out.cell
              cases gk with
              | zero =>
                have he := HE.out
                have c2 : decide ((t : Int) < ((n - (c + 1) : Nat) : Int)) = false := decide_eq_false (by omega)
                have c3 : decide ((t : Int) < (n : Int) - ((c + 1 : Nat) : Int)) = false := decide_eq_false (by omega)
                have e : L' = L2 := Option.some.inj HL2.out
                subst e
                go_wp2
                go_roundg dq
                case measure => omega
                case rel => exact ⟨c + 1, _, L', bs1, cs1, rfl, congrArg _ Y1.out, ⟨by omega⟩, HN, HHH, HTB, HBB1⟩
              | succ eq =>
                have he := HE.out
                have c2 : decide ((t : Int) < ((n - (c + 1) : Nat) : Int)) = true := decide_eq_true (by omega)
                have e := HL2.out
                simp only [dt1] at e
                rw [if_neg hp] at e
                obtain ⟨L4, h4, h5⟩ := Option.bind_eq_some_iff.1 e
                clear e
                obtain ⟨rr, hrr⟩ : ∃ rr, c + 1 + t = rr := ⟨_, rfl⟩
                rw [hrr] at h4 h5
                obtain ⟨f, hf⟩ : ∃ f, Int.tmod (wrap64 (ent L' rr c * b)) p = f := ⟨_, rfl⟩
                rw [hf] at h4
                have H4 := Aside0.mk h4
                have H5 := Aside0.mk h5
                clear h4 h5
                have hrl : rr < L'.length := by have := HN.out; omega
                have z1 := HTB.out.head (j := rr) hrl
                have z2 := HTB.out.cell (j := rr) (i := c) hrl (by omega)
                have hw2 := i64_w (ent L' rr c * b)
                have p1 := eq_true (show (0 : Int) ≤ (t : Int) by omega)
                have p2 := eq_true (show (t : Int) < ((n - (c + 1) : Nat) : Int) by omega)
                have HRR := Aside0.mk hrr
                have e9 : rr + 1 = c + 1 + (t + 1) := by omega
                have H5b := H5.out
                rw [e9] at H5b
                have H5b := Aside0.mk H5b
                clear e9 H5
                go_wp2_with fail
                clear z1 z2 x1 hrl HL2 hrr hw2 p1 p2
                go_loopg [90] n (fun dq2 v90 w' => ∃ (i : Nat) (L3 : List (List Int)), v90 = .int .i64 (i : Int) ∧ Aside0 (i + dq2 = n) ∧ Aside0 (L3.length = n) ∧ Aside0 (dt2 p c rr f dq2 i L3 = some L4) ∧ Aside0 (Tab w' w0.heap.size g n bs1 cs1 L3) ∧ Aside0 (Box w' bx (c : Int)) ∧ Aside0 (Below w0.heap.size w0 w'))
                case atStart => exact ⟨0, L', rfl, ⟨by omega⟩, HN, H4, HTB, HXB, HBB1⟩
                case round =>
                  clear HTB HXB HBB1 H4 HN
                  obtain ⟨i, L3, rfl, HI, HN, H4, HTB, HXB, HBB1⟩ := hrel
                  have x1 := HXB.out.cell
                  cases gk with
                  | zero =>
                    have hi := HI.out
                    have c3 : decide ((i : Int) < (n : Int)) = false := decide_eq_false (by omega)
                    have e : L3 = L4 := Option.some.inj H4.out
                    subst e
                    have hwt : wrap64 ((t : Int) + 1) = ((t + 1 : Nat) : Int) := by have := HM.out; unfold wrap64; omega
                    go_wp2
                    go_roundg eq
                    case measure => omega
                    case rel => exact ⟨t + 1, L3, congrArg _ hwt, ⟨by omega⟩, HN, H5b, HTB, HXB, HBB1⟩
                  | succ dq2 =>
                    have hi := HI.out
                    have c3 : decide ((i : Int) < (n : Int)) = true := decide_eq_true (by omega)
                    have e := H4.out
                    simp only [dt2] at e
                    obtain ⟨v, hv, h6⟩ := Option.bind_eq_some_iff.1 e
                    have H6 := Aside0.mk h6
                    have HV := Aside0.mk hv
                    clear e hv h6
                    have hrl : rr < L3.length := by have := HN.out; have := HRR.out; omega
                    have hkl : c < L3.length := by have := HN.out; omega
                    have z1 := HTB.out.head (j := c) hkl
                    have z2 := HTB.out.cell (j := rr) (i := i) hrl (by omega)
                    have z3 := HTB.out.cell (j := c) (i := i) hkl (by omega)
                    have z4 : wr.drew.frozen? ⟨bs1 rr, i, none⟩ = false := HTB.out.drew.cell_frozen hrl i
                    have z5 := HTB.out.drew.cell (j := rr) (i := i) hrl (by omega)
                    have p1 := eq_true (show (0 : Int) ≤ (i : Int) by omega)
                    have p2 := eq_true (show (i : Int) < (n : Int) by omega)
                    have hw2 := i64_w (f * ent L3 c i)
                    have hw3 := i64_w (ent L3 rr i - wrap64 (f * ent L3 c i))
                    go_wp2_with fail
                    refine wp_region_still_tail 19 (by kernel_rfl) (by kernel_rfl) ?_
                    simp only [List.take_succ_cons, List.take_zero, List.drop_succ_cons, List.drop_zero]
                    repeat still_step
                    still_call (rest_same _ p v _ HV.out)
                    repeat still_step
                    refine wpStill_nil ?_
                    change wpList _ _ _ _ _ wr.drew
                    have HTD := Aside0.mk (HTB.out.drew.put hrl (i := i) (by omega) v)
                    have HXD := Aside0.mk (show Box (wr.drew.setCell ⟨bs1 rr, i, none⟩ (.int .i64 v)) bx (c : Int) from (heap_setCell_other wr.drew _ _ _ (HXB.out.ne_b HTB.out hrl)).trans HXB.out)
                    have HBD := Aside0.mk (HBB1.out.drew.setCell (p := ⟨bs1 rr, i, none⟩) (HTB.out.row rr hrl).1 (.int .i64 v))
                    have hwi : wrap64 ((i : Int) + 1) = ((i + 1 : Nat) : Int) := by have := HM.out; unfold wrap64; omega
                    have HN2 := Aside0.mk (show (put L3 rr i v).length = n by rw [put_len]; exact HN.out)
                    clear z1 z2 z3 HTB HXB HBB1 HV H4 hw2 hw3 p1 p2 hkl hrl
                    go_wp2_with fail
                    go_roundg dq2
                    case measure => omega
                    case rel => exact ⟨i + 1, put L3 rr i v, congrArg _ hwi, ⟨by omega⟩, HN2, H6, HTD, HXD, HBD⟩
end Go.Proofs.Ytmpdloamgiejhaa.Hand
