/- The contract of impl.echelon, over a table as it lies. No condition. -/
import Derived.Test.YtmpdloamgiejhaaHandIndexE
import Derived.Test.YtmpdloamgiejhaaHandDet
import Derived.Test.YtmpdloamgiejhaaHandEch
namespace Go.Proofs.Ytmpdloamgiejhaa.Hand
open Go.RowKit Go.Proofs.YtmpdloamgiejhaaW.PrintWords Go.Proofs.YtmpdloamgiejhaaW.PrintLast Go.Proofs.YtmpdloamgiejhaaW.PrintMore
set_option linter.unusedVariables false
set_option linter.unusedSimpArgs false

theorem restM_same (x p : Int) (w : World) (hp : p ≠ 0) :
    Calls Try.prog 48 #[.int .i64 x, .int .i64 p] w fun e w' => e = .returned (.int .i64 (md p x)) ∧ w' = w :=
  rest_same x p (md p x) w (by unfold impl_rest.f md; rw [if_neg hp])
/-- A row times a number. -/
def g2 (p v : Int) (r : Nat) : Nat → Nat → List (List Int) → List (List Int)
  | 0, _, L => L
  | d + 1, i, L => g2 p v r d (i + 1) (put L r i (Int.tmod (wrap64 (ent L r i * v)) p))
/-- A row t less f times the row r. -/
def g3 (p f : Int) (t r : Nat) : Nat → Nat → List (List Int) → List (List Int)
  | 0, _, L => L
  | d + 1, i, L => g3 p f t r d (i + 1) (put L t i (md p (wrap64 (ent L t i - wrap64 (f * ent L r i)))))
/-- All rows but r from t on. -/
def g1 (p : Int) (c n r : Nat) : Nat → Nat → List (List Int) → List (List Int)
  | 0, _, L => L
  | d + 1, t, L => g1 p c n r d (t + 1) (if t = r ∨ ent L t c = 0 then L else g3 p (ent L t c) t r n 0 L)
/-- All columns from c on. -/
def g0 (p : Int) (iv : Int → Int) (m n : Nat) : Nat → Nat → List (List Int) → Nat → List (List Int) × Nat
  | 0, _, L, r => (L, r)
  | d + 1, c, L, r => if m ≤ r then (L, r) else match ixg L c (m - r) r with
    | none => g0 p iv m n d (c + 1) L r
    | some k => g0 p iv m n d (c + 1) (g1 p c n r m 0 (g2 p (iv (ent (swp L r k) r c)) r n 0 (swp L r k))) (r + 1)
theorem g2_len (p v : Int) (r : Nat) : ∀ (d i : Nat) (L : List (List Int)), (g2 p v r d i L).length = L.length
  | 0, _, _ => rfl
  | d + 1, i, L => by rw [g2, g2_len p v r d, put_len]
theorem g3_len (p f : Int) (t r : Nat) : ∀ (d i : Nat) (L : List (List Int)), (g3 p f t r d i L).length = L.length
  | 0, _, _ => rfl
  | d + 1, i, L => by rw [g3, g3_len p f t r d, put_len]
theorem g1_len (p : Int) (c n r : Nat) : ∀ (d t : Nat) (L : List (List Int)), (g1 p c n r d t L).length = L.length
  | 0, _, _ => rfl
  | d + 1, t, L => by rw [g1, g1_len p c n r d]; split; rfl; rw [g3_len]
set_option maxHeartbeats 8000000 in
set_option maxRecDepth 100000 in
theorem iech_calls (K : Nat) (iv : Int → Int) (w0 w : World) (g n m cap : Nat) (bs cs : Nat → Nat) (L L9 : List (List Int)) (p : Int) (r9 : Nat) (hB : Below w0.heap.size w0 w) (hT : Tab w w0.heap.size g n bs cs L) (hn : L.length = m) (hm : n ≤ 100) (hmm : m ≤ 100) (hp : p ≠ 0)
    (hcap : m ≤ cap) (hmax : cap ≤ maxLen) (hiv : ∀ x, impl_inverse.f K x p = some (iv x)) (h : g0 p iv m n n 0 L 0 = (L9, r9)) :
    Calls Try.prog 29 #[.slice (some ⟨g, 0, none⟩) m cap, .int .i64 (n : Int), .int .i64 p] w fun e w' => e = .returned (.int .i64 (r9 : Int)) ∧ Below w0.heap.size w0 w' ∧ ∃ bs' cs', Tab w' w0.heap.size g n bs' cs' L9 ∧ cs' m = cs m := by
  have HB := Aside0.mk hB
  have HT := Aside0.mk hT
  have HN := Aside0.mk hn
  have HM := Aside0.mk hm
  have HMM := Aside0.mk hmm
  have HCAP := Aside0.mk hcap
  have HMAX := Aside0.mk hmax
  have HH := Aside0.mk h
  have HIV := Aside0.mk hiv
  have HP := Aside0.mk hp
  have pz : (p == 0) = false := by rw [beq_eq_false_iff_ne]; exact hp
  have pz2 : (p = 0) = False := eq_false hp
  clear hB hT hn hm hmm h hiv hp hcap hmax
  have HB1 := Aside0.mk (HB.out.alloc (below_size HB.out) (.cells #[.int .i64 0] 3))
  have HT1 := Aside0.mk (HT.out.alloc (.cells #[.int .i64 0] 3))
  have HX1 := Aside0.mk (show Box (w.alloc (.cells #[.int .i64 0] 3)) w.heap.size ((0 : Nat) : Int) from heap_alloc_new w _)
  obtain ⟨cq, hcq⟩ : ∃ cq, cq = cs m := ⟨_, rfl⟩
  have HCQ := Aside0.mk hcq.symm
  rw [← hcq]
  clear hcq
  have HBX := Aside0.mk (show w0.heap.size ≤ w.heap.size from below_size HB.out)
  clear HB HT
  go_enter Try.func29, Try.ntmps29
  go_wp2
  go_loopg [7, 8] n (fun dq v7 v8 w' => ∃ (c r bx : Nat) (L' : List (List Int)) (bs' cs' : Nat → Nat), v7 = .int .i64 (r : Int) ∧ v8 = .pointer (some ⟨bx, 0, none⟩) ∧ Aside0 (c + dq = n) ∧ Aside0 (r ≤ c ∧ r ≤ m) ∧ Aside0 (L'.length = m) ∧ Aside0 (g0 p iv m n dq c L' r = (L9, r9)) ∧ Aside0 (Tab w' w0.heap.size g n bs' cs' L') ∧ Aside0 (Below w0.heap.size w0 w') ∧ Aside0 (Box w' bx (c : Int)) ∧ Aside0 (cs' m = cq))
  case atStart => exact ⟨0, 0, w.heap.size, L, bs, cs, rfl, rfl, ⟨by omega⟩, ⟨by omega⟩, HN, HH, HT1, HB1, HX1, HCQ⟩
  case round =>
    clear HH HT1 HB1 HX1 HN HBX HCQ
    obtain ⟨c, r, bx, L, bs, cs, rfl, rfl, HC, HR, HN, HH, HT, HB, HX, HCQ⟩ := hrel
    have x1 := HX.out.cell
    cases gk with
    | zero =>
      have hd := HC.out
      have c1 : decide ((c : Int) < (n : Int)) = false := decide_eq_false (by omega)
      have c2 : decide (c < n) = false := decide_eq_false (by omega)
      have c3 := eq_false (show ¬ ((c : Int) < (n : Int)) by omega)
      have e := HH.out
      simp only [g0, Prod.mk.injEq] at e
      obtain ⟨rfl, rfl⟩ := e
      clear HH
      go_wp2
      go_ret
      exact ⟨rfl, HB.out, bs, cs, HT.out, HCQ.out⟩
    | succ dq =>
      have hd := HC.out
      have c1 : decide ((c : Int) < (n : Int)) = true := decide_eq_true (by omega)
      have c2 : decide (c < n) = true := decide_eq_true (by omega)
      have c3 := eq_true (show ((c : Int) < (n : Int)) by omega)
      have hh := HH.out
      simp only [g0] at hh
      by_cases hrm : m ≤ r
      · rw [if_pos hrm, Prod.mk.injEq] at hh
        obtain ⟨rfl, rfl⟩ := hh
        have d1 : decide ((r : Int) < (m : Int)) = false := decide_eq_false (by omega)
        have d2 : decide (r < m) = false := decide_eq_false (by omega)
        have d3 := eq_false (show ¬ ((r : Int) < (m : Int)) by omega)
        clear HH hrm
        go_wp2
        go_ret
        exact ⟨rfl, HB.out, bs, cs, HT.out, HCQ.out⟩
      · rw [if_neg hrm] at hh
        have HH2 := Aside0.mk hh
        have hrm' : r < m := by omega
        have d1 : decide ((r : Int) < (m : Int)) = true := decide_eq_true (by omega)
        have d2 : decide (r < m) = true := decide_eq_true (by omega)
        have d3 := eq_true (show ((r : Int) < (m : Int)) by omega)
        have q1 := eq_true (show (0 : Int) ≤ (r : Int) by omega)
        have q3 := eq_true (show (r : Int) ≤ (m : Int) by omega)
        have q4 := eq_false (show ¬ cap = r by have := HCAP.out; omega)
        clear hh HH hrm
        go_wp2_with fail
        have HXB := HX
        refine (indexE_calls _ w0.heap.size g n bs cs L bx c r (cap - r) HT.out x1 (by omega) (by have := HN.out; omega) (by have := HN.out; have := HMM.out; omega) (m - r) (by rw [HN.out])).mono ?_
        obtain ⟨kv, hkv⟩ : ∃ kv, ixr L c (m - r) r r = kv := ⟨_, rfl⟩
        rw [hkv]
        rintro e w1 ⟨rfl, qi, rfl⟩
        obtain ⟨wA, hwA⟩ : ∃ wA, wA = wr.drewN qi := ⟨_, rfl⟩
        rw [← hwA]
        have HBA := Aside0.mk (show Below w0.heap.size w0 wA by rw [hwA]; exact pw_below_drewN HB.out qi)
        have HTA := Aside0.mk (show Tab wA w0.heap.size g n bs cs L by rw [hwA]; exact HT.out.drewN qi)
        have HXA := Aside0.mk (show Box wA bx (c : Int) by rw [hwA]; exact HX.out)
        have HIX := Aside0.mk hkv
        clear hwA HB HT HX HXB x1 hkv
        have x1 := HXA.out.cell
        have hwc : wrap64 ((c : Int) + 1) = ((c + 1 : Nat) : Int) := by have := HM.out; unfold wrap64; omega
        have hwc2 := i64_w ((c : Int) + 1)
        have HWC := Aside0.mk hwc
        have hh := HH2.out
        have hix := HIX.out
        unfold ixr at hix
        clear HIX HH2
        cases hk : ixg L c (m - r) r with
        | none =>
          rw [hk] at hh hix
          simp only at hh hix
          subst hix
          have HH3 := Aside0.mk hh
          clear hh hk
          go_wp2
          go_roundg dq
          case measure => omega
          case rel => exact ⟨c + 1, r, wA.heap.size, L, bs, cs, rfl, rfl, ⟨by omega⟩, ⟨by have := HR.out; omega⟩, HN, HH3, ⟨HTA.out.alloc _⟩, ⟨HBA.out.alloc (below_size HBA.out) _⟩, ⟨by rw [show ((c + 1 : Nat) : Int) = (c : Int) + 1 by omega]; exact heap_alloc_new wA _⟩, HCQ⟩
        | some k =>
          rw [hk] at hh hix
          simp only at hh hix
          have hkk := ixg_some hk
          subst hix
          clear hk hwc hwc2
          obtain ⟨dd, hkd⟩ : ∃ dd, k = r + dd := ⟨k - r, by omega⟩
          rw [show ((k - r : Nat) : Int) = (dd : Int) by omega]
          have hkm : k < m := by omega
          have HKD := Aside0.mk hkd
          have c6 : decide ((dd : Int) < 0) = false := decide_eq_false (by omega)
          have y1 : wrap64 ((r : Int) + (dd : Int)) = (k : Int) := by have := HMM.out; unfold wrap64; omega
          have yw := i64_w ((r : Int) + (dd : Int))
          have y2 := eq_true (show (0 : Int) ≤ (k : Int) by omega)
          have y3 := eq_true (show (k : Int) < (m : Int) by omega)
          clear hkd
          have hrl : r < L.length := by have := HN.out; omega
          have hkl : k < L.length := by have := HN.out; omega
          obtain ⟨L1, hL1⟩ : ∃ L1, swp L r k = L1 := ⟨_, rfl⟩
          obtain ⟨v, hv⟩ : ∃ v, iv (ent L1 r c) = v := ⟨_, rfl⟩
          obtain ⟨L2, hL2⟩ : ∃ L2, g2 p v r n 0 L1 = L2 := ⟨_, rfl⟩
          obtain ⟨L3, hL3⟩ : ∃ L3, g1 p c n r m 0 L2 = L3 := ⟨_, rfl⟩
          rw [hL1, hv, hL2, hL3] at hh
          have HH3 := Aside0.mk hh
          have HL1 := Aside0.mk hL1
          have HL2 := Aside0.mk hL2
          have HL3 := Aside0.mk hL3
          have HBB := Aside0.mk (show impl_inverse.f K (ent L1 r c) p = some v by rw [HIV.out, hv])
          clear hh hL1 hv hL2 hL3 hkk
          have z1 := HTA.out.head (j := r) hrl
          have z2 := HTA.out.head (j := k) hkl
          have f1 : wA.frozen? ⟨g, r, none⟩ = false := HTA.out.head_frozen r
          have f0 : wA.frozen? ⟨g, k, none⟩ = false := HTA.out.head_frozen k
          obtain ⟨HCc, hHC, hHC2⟩ := HTA.out.outer
          have s1 := heap_setCell_same wA g r HCc _ (.slice (some ⟨bs k, 0, none⟩) n (cs k)) hHC
          have f2 : (wA.setCell ⟨g, r, none⟩ (.slice (some ⟨bs k, 0, none⟩) n (cs k))).frozen? ⟨g, k, none⟩ = false := frozen_of_row _ _ _ _ _ s1
          obtain ⟨u2, e2⟩ : ∃ u2, (wA.setCell ⟨g, r, none⟩ (.slice (some ⟨bs k, 0, none⟩) n (cs k))).cell? ⟨g, k, none⟩ = some u2 := by
            rw [cell_of_row _ _ _ _ _ _ s1]
            exact ⟨_, Array.getElem?_eq_getElem (by rw [Array.size_setIfInBounds]; exact (Array.getElem?_eq_some_iff.1 (hHC2 k hkl)).1)⟩
          clear hHC hHC2 s1
          go_wp2_with fail
          go_region
          obtain ⟨wS, hwS⟩ : ∃ wS, wS = ((wA.setCell ⟨g, r, none⟩ (.slice (some ⟨bs k, 0, none⟩) n (cs k))).setCell ⟨g, k, none⟩ (.slice (some ⟨bs r, 0, none⟩) n (cs r))).drew := ⟨_, rfl⟩
          rw [← hwS]
          have HTS := Aside0.mk (show Tab wS w0.heap.size g n (fun l => bs (sw r k l)) (fun l => cs (sw r k l)) L1 by rw [hwS, ← HL1.out]; exact (HTA.out.swap hrl hkl).drew)
          have HXS := Aside0.mk (show Box wS bx (c : Int) by
            rw [hwS]
            exact (heap_setCell_other _ _ _ _ (HXA.out.ne_g HTA.out)).trans ((heap_setCell_other wA _ _ _ (HXA.out.ne_g HTA.out)).trans HXA.out))
          have HBS := Aside0.mk (show Below w0.heap.size w0 wS by
            rw [hwS]
            exact ((HBA.out.setCell (p := ⟨g, r, none⟩) HTA.out.gB _).setCell (p := ⟨g, k, none⟩) HTA.out.gB _).drew)
          have HN1 := Aside0.mk (show L1.length = m by rw [← HL1.out, swp_len]; exact HN.out)
          have HCQ1 := Aside0.mk (show (fun l => cs (sw r k l)) m = cq by
            show cs (sw r k m) = cq
            unfold sw
            rw [if_neg (by omega), if_neg (by omega)]
            exact HCQ.out)
          clear hwS z1 z2 e2 f0 f1 f2 HTA HXA HBA hkl hrl y1 yw y2 y3 c6 HN x1 HL1 HKD hkm
          rename Aside0 (L1.length = m) => HN
          generalize (fun l => bs (sw r k l)) = bs1 at HTS
          generalize (fun l => cs (sw r k l)) = cs1 at HTS HCQ1
          have hrl : r < L1.length := by have := HN.out; omega
          have z1 := HTS.out.head (j := r) hrl
          have z2 := HTS.out.cell (j := r) (i := c) hrl (by omega)
          have z3 := HXS.out.cell
          go_wp2_with fail
          go_quiet (first | (go_at_call 49; with_reducible exact Calls.quiet_of ((impl_inverse.calls K _ p v _ HBB.out).mono fun _ _ h => ⟨h.1, h.2.out⟩)))
          obtain ⟨wB, hwB⟩ : ∃ wB, wB = wS.drewN nq := ⟨_, rfl⟩
          rw [← hwB]
          have HBB1 := Aside0.mk (show Below w0.heap.size w0 wB by rw [hwB]; exact pw_below_drewN HBS.out nq)
          have HTB := Aside0.mk (show Tab wB w0.heap.size g n bs1 cs1 L1 by rw [hwB]; exact HTS.out.drewN nq)
          have HXB := Aside0.mk (show Box wB bx (c : Int) by rw [hwB]; exact HXS.out)
          clear hwB z1 z2 z3 HBS HTS HXS HBB
          have z1 := HTB.out.head (j := r) hrl
          go_wp2_with fail
          clear z1 hrl
          go_loopg [66] n (fun eq v66 w' => ∃ (i : Nat) (L' : List (List Int)), v66 = .int .i64 (i : Int) ∧ Aside0 (i + eq = n) ∧ Aside0 (L'.length = m) ∧ Aside0 (g2 p v r eq i L' = L2) ∧ Aside0 (Tab w' w0.heap.size g n bs1 cs1 L') ∧ Aside0 (Box w' bx (c : Int)) ∧ Aside0 (Below w0.heap.size w0 w'))
          case atStart => exact ⟨0, L1, rfl, ⟨by omega⟩, HN, HL2, HTB, HXB, HBB1⟩
          case round =>
            clear HTB HXB HBB1 HL2 HN
            obtain ⟨i, L', rfl, HE, HN, HL2, HTB, HXB, HBB1⟩ := hrel
            have hrl : r < L'.length := by have := HN.out; omega
            cases gk with
            | zero =>
              have he := HE.out
              have e1' : decide ((i : Int) < (n : Int)) = false := decide_eq_false (by omega)
              have e1n : decide (i < n) = false := decide_eq_false (by omega)
              have e : L' = L2 := HL2.out
              subst e
              clear HL2 hrl
              go_wp2_with fail
              clear e1' e1n HE he
              go_loopg [89] m (fun eq v89 w' => ∃ (t : Nat) (L4 : List (List Int)), v89 = .int .i64 (t : Int) ∧ Aside0 (t + eq = m) ∧ Aside0 (L4.length = m) ∧ Aside0 (g1 p c n r eq t L4 = L3) ∧ Aside0 (Tab w' w0.heap.size g n bs1 cs1 L4) ∧ Aside0 (Box w' bx (c : Int)) ∧ Aside0 (Below w0.heap.size w0 w'))
              case atStart => exact ⟨0, L', rfl, ⟨by omega⟩, HN, HL3, HTB, HXB, HBB1⟩
              case round =>
                clear HTB HXB HBB1 HL3 HN
                obtain ⟨t, L4, rfl, HE, HN, HL3, HTB, HXB, HBB1⟩ := hrel
                have x1 := HXB.out.cell
                cases gk with
                | zero =>
                  have he := HE.out
                  have e1' : decide ((t : Int) < (m : Int)) = false := decide_eq_false (by omega)
                  have e : L4 = L3 := HL3.out
                  subst e
                  clear HL3
                  have hwr : wrap64 ((r : Int) + 1) = ((r + 1 : Nat) : Int) := by have := HMM.out; unfold wrap64; omega
                  have HWR := Aside0.mk hwr
                  have hwc2 := i64_w ((c : Int) + 1)
                  have hwc : wrap64 ((c : Int) + 1) = ((c + 1 : Nat) : Int) := HWC.out
                  clear hwr
                  go_wp2
                  go_roundg dq
                  case measure => omega
                  case rel => exact ⟨c + 1, r + 1, wr.heap.size, L4, bs1, cs1, (by first | rfl | exact congrArg _ HWR.out), rfl, ⟨by omega⟩, ⟨by have := HR.out; omega⟩, HN, HH3, ⟨HTB.out.alloc _⟩, ⟨HBB1.out.alloc (below_size HBB1.out) _⟩, ⟨by rw [show ((c + 1 : Nat) : Int) = (c : Int) + 1 by omega]; exact heap_alloc_new wr _⟩, HCQ1⟩
                | succ eq =>
                  have he := HE.out
                  have e1' : decide ((t : Int) < (m : Int)) = true := decide_eq_true (by omega)
                  have htl : t < L4.length := by have := HN.out; omega
                  have hrl : r < L4.length := by have := HN.out; omega
                  have p1 := eq_true (show (0 : Int) ≤ (t : Int) by omega)
                  have p2 := eq_true (show (t : Int) < (m : Int) by omega)
                  have p3 := eq_true (show (0 : Int) ≤ (c : Int) by omega)
                  have z1 := HTB.out.head (j := t) htl
                  have z2 := HTB.out.cell (j := t) (i := c) htl (by omega)
                  have hl3 := HL3.out
                  simp only [g1] at hl3
                  have hwt : wrap64 ((t : Int) + 1) = ((t + 1 : Nat) : Int) := by have := HMM.out; unfold wrap64; omega
                  have HWT := Aside0.mk hwt
                  clear hwt HL3
                  by_cases htr : t = r
                  · rw [if_pos (Or.inl htr)] at hl3
                    have HL4 := Aside0.mk hl3
                    have b1 : ((t : Int) != (r : Int)) = false := by rw [bne_eq_false_iff_eq]; omega
                    have b2 : (t != r) = false := by rw [bne_eq_false_iff_eq]; exact htr
                    have HTR := Aside0.mk htr
                    clear hl3 htr
                    go_wp2
                    go_roundg eq
                    case measure => omega
                    case rel => exact ⟨t + 1, L4, (by first | rfl | exact congrArg _ HWT.out), ⟨by omega⟩, HN, HL4, HTB, HXB, HBB1⟩
                  · have b1 : ((t : Int) != (r : Int)) = true := by rw [bne_iff_ne]; omega
                    have b2 : (t != r) = true := by rw [bne_iff_ne]; exact htr
                    have HTR := Aside0.mk htr
                    by_cases hf0 : ent L4 t c = 0
                    · rw [if_pos (Or.inr hf0)] at hl3
                      have HL4 := Aside0.mk hl3
                      have b3 : (ent L4 t c != 0) = false := by rw [bne_eq_false_iff_eq]; exact hf0
                      clear hl3 htr hf0
                      go_wp2
                      go_roundg eq
                      case measure => omega
                      case rel => exact ⟨t + 1, L4, (by first | rfl | exact congrArg _ HWT.out), ⟨by omega⟩, HN, HL4, HTB, HXB, HBB1⟩
                    · rw [if_neg (fun h => h.elim htr hf0)] at hl3
                      have b3 : (ent L4 t c != 0) = true := by rw [bne_iff_ne]; exact hf0
                      obtain ⟨f, hf⟩ : ∃ f, ent L4 t c = f := ⟨_, rfl⟩
                      rw [hf] at hl3 z2 b3
                      obtain ⟨L5, hL5⟩ : ∃ L5, g3 p f t r n 0 L4 = L5 := ⟨_, rfl⟩
                      rw [hL5] at hl3
                      have HL4 := Aside0.mk hl3
                      have HL5 := Aside0.mk hL5
                      clear hl3 htr hf0 hf hL5
                      go_wp2_with fail
                      clear z1 z2 b1 b2 b3 x1 htl hrl
                      go_loopg [107] n (fun fq v107 w' => ∃ (i : Nat) (L6 : List (List Int)), v107 = .int .i64 (i : Int) ∧ Aside0 (i + fq = n) ∧ Aside0 (L6.length = m) ∧ Aside0 (g3 p f t r fq i L6 = L5) ∧ Aside0 (Tab w' w0.heap.size g n bs1 cs1 L6) ∧ Aside0 (Box w' bx (c : Int)) ∧ Aside0 (Below w0.heap.size w0 w'))
                      case atStart => exact ⟨0, L4, rfl, ⟨by omega⟩, HN, HL5, HTB, HXB, HBB1⟩
                      case round =>
                        clear HTB HXB HBB1 HL5 HN
                        obtain ⟨i, L6, rfl, HI, HN, HL5, HTB, HXB, HBB1⟩ := hrel
                        cases gk with
                        | zero =>
                          have hi := HI.out
                          have e2' : decide ((i : Int) < (n : Int)) = false := decide_eq_false (by omega)
                          have e : L6 = L5 := HL5.out
                          subst e
                          go_wp2
                          go_roundg eq
                          case measure => omega
                          case rel => exact ⟨t + 1, L6, (by first | rfl | exact congrArg _ HWT.out), ⟨by omega⟩, HN, HL4, HTB, HXB, HBB1⟩
                        | succ fq =>
                          have hi := HI.out
                          have e2' : decide ((i : Int) < (n : Int)) = true := decide_eq_true (by omega)
                          have htl : t < L6.length := by have := HN.out; omega
                          have hrl : r < L6.length := by have := HN.out; omega
                          have z1 := HTB.out.head (j := r) hrl
                          have z2 := HTB.out.cell (j := t) (i := i) htl (by omega)
                          have z3 := HTB.out.cell (j := r) (i := i) hrl (by omega)
                          have z4 : wr.drew.frozen? ⟨bs1 t, i, none⟩ = false := HTB.out.drew.cell_frozen htl i
                          have z5 := HTB.out.drew.cell (j := t) (i := i) htl (by omega)
                          have p4 := eq_true (show (0 : Int) ≤ (i : Int) by omega)
                          have p5 := eq_true (show (i : Int) < (n : Int) by omega)
                          have hw2 := i64_w (f * ent L6 r i)
                          have hw3 := i64_w (ent L6 t i - wrap64 (f * ent L6 r i))
                          have hl5 := HL5.out
                          simp only [g3] at hl5
                          obtain ⟨x, hx⟩ : ∃ x, md p (wrap64 (ent L6 t i - wrap64 (f * ent L6 r i))) = x := ⟨_, rfl⟩
                          have HCM := Aside0.mk (show ∀ ww, Calls Try.prog 48 #[.int .i64 (wrap64 (ent L6 t i - wrap64 (f * ent L6 r i))), .int .i64 p] ww fun e w' => e = .returned (.int .i64 x) ∧ w' = ww by
                            intro ww; rw [← hx]; exact restM_same _ p ww HP.out)
                          rw [hx] at hl5
                          have HL7 := Aside0.mk hl5
                          clear hl5 hx HL5
                          go_wp2_with fail
                          refine wp_region_still_tail 19 (by kernel_rfl) (by kernel_rfl) ?_
                          simp only [List.take_succ_cons, List.take_zero, List.drop_succ_cons, List.drop_zero]
                          repeat still_step
                          still_call (HCM.out _)
                          repeat still_step
                          refine wpStill_nil ?_
                          change wpList _ _ _ _ _ wr.drew
                          have HTD := Aside0.mk (HTB.out.drew.put htl (i := i) (by omega) x)
                          have HXD := Aside0.mk (show Box (wr.drew.setCell ⟨bs1 t, i, none⟩ (.int .i64 x)) bx (c : Int) from (heap_setCell_other wr.drew _ _ _ (HXB.out.ne_b HTB.out htl)).trans HXB.out)
                          have HBD := Aside0.mk (HBB1.out.drew.setCell (p := ⟨bs1 t, i, none⟩) (HTB.out.row t htl).1 (.int .i64 x))
                          have hwi : wrap64 ((i : Int) + 1) = ((i + 1 : Nat) : Int) := by have := HM.out; unfold wrap64; omega
                          have HN2 := Aside0.mk (show (put L6 t i x).length = m by rw [put_len]; exact HN.out)
                          clear z1 z2 z3 HTB HXB HBB1 hw2 hw3 p4 p5 htl hrl HCM
                          go_wp2_with fail
                          go_roundg fq
                          case measure => omega
                          case rel => exact ⟨i + 1, put L6 t i x, (by first | rfl | exact congrArg _ hwi), ⟨by omega⟩, HN2, HL7, HTD, HXD, HBD⟩
            | succ eq =>
              have he := HE.out
              have e1' : decide ((i : Int) < (n : Int)) = true := decide_eq_true (by omega)
              have z1 := HTB.out.head (j := r) hrl
              have z2 := HTB.out.cell (j := r) (i := i) hrl (by omega)
              have z4 : wr.drew.frozen? ⟨bs1 r, i, none⟩ = false := HTB.out.drew.cell_frozen hrl i
              have z5 := HTB.out.drew.cell (j := r) (i := i) hrl (by omega)
              have p4 := eq_true (show (0 : Int) ≤ (i : Int) by omega)
              have p5 := eq_true (show (i : Int) < (n : Int) by omega)
              have hw2 := i64_w (ent L' r i * v)
              have hl2 := HL2.out
              simp only [g2] at hl2
              obtain ⟨x, hx⟩ : ∃ x, Int.tmod (wrap64 (ent L' r i * v)) p = x := ⟨_, rfl⟩
              rw [hx] at hl2
              have HL7 := Aside0.mk hl2
              clear hl2 HL2
              go_wp2_with fail
              refine wp_region_still_tail 17 (by kernel_rfl) (by kernel_rfl) ?_
              simp only [List.take_succ_cons, List.take_zero, List.drop_succ_cons, List.drop_zero]
              repeat still_step
              refine wpStill_nil ?_
              change wpList _ _ _ _ _ wr.drew
              have HTD := Aside0.mk (HTB.out.drew.put hrl (i := i) (by omega) x)
              have HXD := Aside0.mk (show Box (wr.drew.setCell ⟨bs1 r, i, none⟩ (.int .i64 x)) bx (c : Int) from (heap_setCell_other wr.drew _ _ _ (HXB.out.ne_b HTB.out hrl)).trans HXB.out)
              have HBD := Aside0.mk (HBB1.out.drew.setCell (p := ⟨bs1 r, i, none⟩) (HTB.out.row r hrl).1 (.int .i64 x))
              have hwi : wrap64 ((i : Int) + 1) = ((i + 1 : Nat) : Int) := by have := HM.out; unfold wrap64; omega
              have HN2 := Aside0.mk (show (put L' r i x).length = m by rw [put_len]; exact HN.out)
              clear z1 z2 HTB HXB HBB1 p4 p5 hrl
              go_wp2_with fail
              go_roundg eq
              case measure => omega
              case rel => exact ⟨i + 1, put L' r i x, (by first | rfl | exact congrArg _ hwi), ⟨by omega⟩, HN2, HL7, HTD, HXD, HBD⟩
end Go.Proofs.Ytmpdloamgiejhaa.Hand
