/- The contract of spec.l04Echelon, over a table as it lies. No condition. -/
import Derived.Test.YtmpdloamgiejhaaHandIndex
import Derived.Test.YtmpdloamgiejhaaHandHalt
import Derived.StillTailTactics
import Derived.Deep.CutRange
import Derived.Deep.DeepCutAuto
import Derived.Deep.RegionHeld3
namespace Go.Proofs.Ytmpdloamgiejhaa.Hand
open Go.RowKit Go.Proofs.YtmpdloamgiejhaaW.PrintWords Go.Proofs.YtmpdloamgiejhaaW.PrintLast Go.Proofs.YtmpdloamgiejhaaW.PrintMore
set_option linter.unusedVariables false
set_option linter.unusedSimpArgs false

/-- A rest modulo p, as both texts count it. -/
def md (p x : Int) : Int := Int.tmod (wrap64 (Int.tmod x p + p)) p
theorem mod_same (p x : Int) (w : World) (hp : p ≠ 0) :
    Calls Try.prog 50 #[.int .i64 p, .int .i64 x] w fun e w' => e = .returned (.int .i64 (md p x)) ∧ w' = w := by
  have c2 : (p == 0) = false := by rw [beq_eq_false_iff_ne]; exact hp
  go_enter Try.func50, Try.ntmps50
  go_wp2
  go_ret
  exact ⟨by unfold md; rfl, rfl⟩
/-- The first m entries of a new row: the row i less f times the row r. -/
def nr (p f : Int) (L : List (List Int)) (i r m : Nat) : List Int := (List.range m).map fun j => md p (wrap64 (ent L i j - wrap64 (f * ent L r j)))
theorem nr_succ (p f : Int) (L : List (List Int)) (i r m : Nat) : nr p f L i r (m + 1) = nr p f L i r m ++ [md p (wrap64 (ent L i m - wrap64 (f * ent L r m)))] := by
  unfold nr; rw [List.range_succ, List.map_append]; rfl
theorem nr_len (p f : Int) (L : List (List Int)) (i r m : Nat) : (nr p f L i r m).length = m := by unfold nr; simp
theorem nr_small (p f : Int) (L : List (List Int)) (i r : Nat) {m n : Nat} (hn : n ≤ 100) (hm : m < n) : ((nr p f L i r m).length + 1) * 8 ≤ 140737488355328 := by
  rw [nr_len]
  exact Nat.le_trans (Nat.mul_le_mul_right 8 (show m + 1 ≤ 100 by omega)) (by decide)
/-- The factor with which a row is made less. -/
def fc (p v : Int) (L : List (List Int)) (i c : Nat) : Int := Int.tmod (wrap64 (ent L i c * v)) p
/-- All rows from i on. -/
def e1 (p v : Int) (c n r : Nat) : Nat → Nat → List (List Int) → List (List Int)
  | 0, _, L => L
  | d + 1, i, L => e1 p v c n r d (i + 1) (if fc p v L i c = 0 then L else L.set i (nr p (fc p v L i c) L i r n))
/-- All columns from c on. -/
def e0 (p : Int) (iv : Int → Int) (n : Nat) : Nat → Nat → List (List Int) → Int → Nat → Int × Nat
  | 0, _, _, det, r => (md p det, r)
  | d + 1, c, L, det, r => match ixg L c (n - r) r with
    | none => e0 p iv n d (c + 1) L 0 r
    | some k => e0 p iv n d (c + 1) (e1 p (iv (ent (if k = r then L else swp L k r) r c)) c n r (n - (r + 1)) (r + 1) (if k = r then L else swp L k r)) (md p (wrap64 ((if k = r then det else wrap64 (-det)) * ent (if k = r then L else swp L k r) r c))) (r + 1)
/-- A made row of numbers, laid open. -/
theorem row_of_R {w : World} {base : Nat} {v : Value} {xs : List Int} (h : Kd.R (Kd.int .i64) 2 w base (fun _ => True) v xs) (hp : 0 < xs.length) :
    ∃ b cap RC, v = .slice (some ⟨b, 0, none⟩) xs.length cap ∧ base ≤ b ∧ xs.length ≤ cap ∧ w.heap[b]? = some (.cells RC 2 (0, 0)) ∧ (RC.size = cap ∧ cap ≤ maxLen) ∧ ∀ i, i < xs.length → RC[i]? = some (.int .i64 (xs.getD i 0)) := by
  obtain ⟨_, inner, ho, hr⟩ := h
  obtain ⟨hl, ho⟩ := ho
  rcases ho with ⟨rfl, h0⟩ | ⟨g, cap, cur, rfl, hb, hg, hnc, hcm, hcs, ht⟩
  · omega
  · refine ⟨g, cap, cur, rfl, hb, hnc, hg, ⟨by rw [hcs]; exact Nat.mul_one _, hcm⟩, fun i hi => ?_⟩
    have hM := hr.2 i xs[i] (List.getElem?_eq_getElem hi)
    have hc : (inner.drop (i * 1)).take 1 = [.int .i64 xs[i]] := hM
    rw [Nat.mul_one] at hc
    have hj : ((inner.drop i).take 1)[0]? = some (.int .i64 xs[i]) := by rw [hc]; rfl
    rw [List.getElem?_take, if_pos (by omega), List.getElem?_drop, ← ht, List.getElem?_take] at hj
    split at hj
    · rw [← Array.getElem?_toList, List.getD_eq_getElem?_getD, List.getElem?_eq_getElem hi]
      exact hj
    · cases hj
set_option maxHeartbeats 8000000 in
set_option maxRecDepth 100000 in
theorem ech_calls (K : Nat) (iv : Int → Int) (w0 w : World) (g n cap : Nat) (bs cs : Nat → Nat) (L : List (List Int)) (p d1 : Int) (r1 : Nat) (hB : Below w0.heap.size w0 w) (hT : Tab w w0.heap.size g n bs cs L) (hn : L.length = n) (hm : n ≤ 100) (hp : p ≠ 0)
    (hiv : ∀ x, spec_l01Inverse.f K p x = some (iv x)) (h : e0 p iv n n 0 L 1 0 = (d1, r1)) :
    Calls Try.prog 28 #[.int .i64 p, .slice (some ⟨g, 0, none⟩) n cap] w fun e w' => e = .returned (.tuple #[.int .i64 d1, .int .i64 (r1 : Int)]) ∧ Below w0.heap.size w0 w' := by
  have HB := Aside0.mk hB
  have HT := Aside0.mk hT
  have HN := Aside0.mk hn
  have HM := Aside0.mk hm
  have HH := Aside0.mk h
  have HIV := Aside0.mk hiv
  have HP := Aside0.mk hp
  have pz : (p == 0) = false := by rw [beq_eq_false_iff_ne]; exact hp
  have pz2 : (p = 0) = False := eq_false hp
  clear hB hT hn hm h hiv hp
  go_enter Try.func28, Try.ntmps28
  go_wp2
  go_loopg [7, 8, 9] n (fun dq v7 v8 v9 w' => ∃ (c r : Nat) (det : Int) (L' : List (List Int)) (bs' cs' : Nat → Nat), v7 = .int .i64 det ∧ v8 = .int .i64 (r : Int) ∧ v9 = .int .i64 (c : Int) ∧ Aside0 (c + dq = n) ∧ Aside0 (r ≤ c) ∧ Aside0 (L'.length = n) ∧ Aside0 (e0 p iv n dq c L' det r = (d1, r1)) ∧ Aside0 (Tab w' w0.heap.size g n bs' cs' L') ∧ Aside0 (Below w0.heap.size w0 w'))
  case atStart => exact ⟨0, 0, 1, L, bs, cs, rfl, rfl, rfl, ⟨by omega⟩, ⟨by omega⟩, HN, HH, HT, HB⟩
  case round =>
    clear HH HT HB HN
    obtain ⟨c, r, det, L, bs, cs, rfl, rfl, rfl, HC, HR, HN, HH, HT, HB⟩ := hrel
    cases gk with
    | zero =>
      have hd := HC.out
      have c1 : decide ((c : Int) < (n : Int)) = false := decide_eq_false (by omega)
      have e := HH.out
      simp only [e0, Prod.mk.injEq] at e
      obtain ⟨rfl, rfl⟩ := e
      clear HH
      go_wp2_with fail
      refine (mod_same p det _ HP.out).mono ?_
      rintro e w' ⟨rfl, rfl⟩
      go_wp2
      go_ret2
      exact ⟨rfl, HB.out⟩
    | succ dq =>
      have hd := HC.out
      have c1 : decide ((c : Int) < (n : Int)) = true := decide_eq_true (by omega)
      have q1 := eq_true (show (0 : Int) ≤ (c : Int) by omega)
      have q2 := eq_true (show (c : Int) < (n : Int) by omega)
      have hh := HH.out
      simp only [e0] at hh
      have HH2 := Aside0.mk hh
      clear hh HH
      have hwc : wrap64 ((c : Int) + 1) = ((c + 1 : Nat) : Int) := by have := HM.out; unfold wrap64; omega
      have HWC := Aside0.mk hwc
      clear hwc
      go_wp2_with fail
      go_loopg [10] (n - r) (fun eq v10 w' => ∃ (b : Nat), v10 = .int .i64 (b : Int) ∧ Aside0 (r ≤ b ∧ b + eq = n) ∧ Aside0 (ixg L c eq b = ixg L c (n - r) r) ∧ w' = wr)
      case atStart => exact ⟨r, rfl, ⟨by have := HR.out; omega⟩, ⟨rfl⟩, rfl⟩
      case round =>
        obtain ⟨b, rfl, HBE, HIX, rfl⟩ := hrel
        cases gk with
        | zero =>
          obtain ⟨hb1, hb2⟩ := HBE.out
          have hbn : b = n := by omega
          have c2 : decide ((b : Int) < (n : Int)) = false := decide_eq_false (by omega)
          have c3 : ((b : Int) == (n : Int)) = true := by rw [beq_iff_eq]; omega
          have c4 : (b == n) = true := by rw [beq_iff_eq]; omega
          have c5 : decide (b < n) = false := decide_eq_false (by omega)
          have c6 := eq_false (show ¬ ((b : Int) < (n : Int)) by omega)
          have hx : ixg L c (n - r) r = none := HIX.out.symm
          have hh := HH2.out
          rw [hx] at hh
          have HH3 := Aside0.mk hh
          have HBN := Aside0.mk hbn
          have HRC := Aside0.mk (show r ≤ c + 1 by have := HR.out; omega)
          clear hh hx HH2 HIX hbn hb1 hb2
          go_wp2
          go_roundg dq
          case measure => omega
          case rel => exact ⟨c + 1, r, 0, L, bs, cs, rfl, rfl, congrArg _ HWC.out, ⟨by omega⟩, HRC, HN, HH3, HT, HB⟩
        | succ eq =>
          obtain ⟨hb1, hb2⟩ := HBE.out
          have hbl : b < L.length := by have := HN.out; omega
          have c2 : decide ((b : Int) < (n : Int)) = true := decide_eq_true (by omega)
          have c3 : ((b : Int) == (n : Int)) = false := by rw [beq_eq_false_iff_ne]; omega
          have c4 : (b == n) = false := by rw [beq_eq_false_iff_ne]; omega
          have p1 := eq_true (show (0 : Int) ≤ (b : Int) by omega)
          have p2 := eq_true (show (b : Int) < (n : Int) by omega)
          have z1 := HT.out.head (j := b) hbl
          have z2 := HT.out.cell (j := b) (i := c) hbl (by omega)
          have hx := HIX.out
          simp only [ixg] at hx
          by_cases hz : ent L b c = 0
          · rw [if_pos hz] at hx
            have HX2 := Aside0.mk hx
            have c5 : (ent L b c == 0) = true := by rw [beq_iff_eq]; exact hz
            have hwb : wrap64 ((b : Int) + 1) = ((b + 1 : Nat) : Int) := by have := HM.out; unfold wrap64; omega
            have HWB := Aside0.mk hwb
            clear hx hz HIX hwb
            go_wp2
            go_roundg eq
            case measure => omega
            case rel => exact ⟨b + 1, congrArg _ HWB.out, ⟨by omega⟩, HX2, rfl⟩
          · rw [if_neg hz] at hx
            have c5 : (ent L b c == 0) = false := by rw [beq_eq_false_iff_ne]; exact hz
            have hh := HH2.out
            rw [← hx] at hh
            simp only at hh
            have hrn : r < n := by omega
            have hx : ∃ (det1 : Int) (L1 : List (List Int)), (if b = r then det else wrap64 (-det)) = det1 ∧ (if b = r then L else swp L b r) = L1 ∧ e0 p iv n dq (c + 1) (e1 p (iv (ent L1 r c)) c n r (n - (r + 1)) (r + 1) L1) (md p (wrap64 (det1 * ent L1 r c))) (r + 1) = (d1, r1) := ⟨_, _, rfl, rfl, hh⟩
            clear hh
            obtain ⟨det1, L1, hdet, hL1, hh⟩ := hx
            have HH3 := Aside0.mk hh
            have HD := Aside0.mk hdet
            have HL1 := Aside0.mk hL1
            have HN1 := Aside0.mk (show L1.length = n by rw [← hL1]; split; exact HN.out; rw [swp_len]; exact HN.out)
            clear hh hdet hL1 HH2 HIX hz
            go_upto_if 49 with fail
            go_cut [7, 11] (fun s7 s11 wx => s7 = .int .i64 det1 ∧ ∃ bs1 cs1 : Nat → Nat, s11 = .slice (some ⟨bs1 r, 0, none⟩) n (cs1 r) ∧ Aside0 (Tab wx w0.heap.size g n bs1 cs1 L1) ∧ Aside0 (Below w0.heap.size w0 wx))
            case first =>
              by_cases hbr : b = r
              · subst hbr
                have d1 : ((b : Int) != (b : Int)) = false := by rw [bne_eq_false_iff_eq]
                have d2 : (b != b) = false := by rw [bne_eq_false_iff_eq]
                have hdet := HD.out
                rw [if_pos rfl] at hdet
                have hL1 := HL1.out
                rw [if_pos rfl] at hL1
                subst hdet hL1
                clear HD HL1
                go_wp2_with fail
                go_meet
                exact ⟨rfl, bs, cs, rfl, HT, HB⟩
              · have d1 : ((b : Int) != (r : Int)) = true := by rw [bne_iff_ne]; omega
                have d2 : (b != r) = true := by rw [bne_iff_ne]; exact hbr
                have hdet := HD.out
                rw [if_neg hbr] at hdet
                have hL1 := HL1.out
                rw [if_neg hbr] at hL1
                subst hdet
                have HL3 := Aside0.mk hL1
                have HBR := Aside0.mk hbr
                clear hL1 HD HL1 hbr
                have hrl : r < L.length := by have := HN.out; omega
                have p3 := eq_true (show (0 : Int) ≤ (r : Int) by omega)
                have p4 := eq_true (show (r : Int) < (n : Int) by omega)
                have z3 := HT.out.head (j := r) hrl
                have f0 : wr.frozen? ⟨g, b, none⟩ = false := HT.out.head_frozen b
                obtain ⟨HCc, hHC, hHC2⟩ := HT.out.outer
                have s1 := heap_setCell_same wr g b HCc _ (.slice (some ⟨bs r, 0, none⟩) n (cs r)) hHC
                have f2 : (wr.setCell ⟨g, b, none⟩ (.slice (some ⟨bs r, 0, none⟩) n (cs r))).frozen? ⟨g, r, none⟩ = false := frozen_of_row _ _ _ _ _ s1
                obtain ⟨u2, e2⟩ : ∃ u2, (wr.setCell ⟨g, b, none⟩ (.slice (some ⟨bs r, 0, none⟩) n (cs r))).cell? ⟨g, r, none⟩ = some u2 := by
                  rw [cell_of_row _ _ _ _ _ _ s1]
                  exact ⟨_, Array.getElem?_eq_getElem (by rw [Array.size_setIfInBounds]; exact (Array.getElem?_eq_some_iff.1 (hHC2 r hrl)).1)⟩
                have hwn := i64_w (-det)
                clear hHC hHC2 s1
                go_wp2_with fail
                go_meet
                have HTS := HT.out.swap hbl hrl
                rw [HL3.out] at HTS
                have hs1 : sw b r r = b := by
                  have := HBR.out
                  unfold sw
                  rw [if_neg (fun e => this e.symm), if_pos rfl]
                refine ⟨rfl, fun l => bs (sw b r l), fun l => cs (sw b r l), ?_, ⟨HTS⟩, ⟨(HB.out.setCell (p := ⟨g, b, none⟩) HT.out.gB _).setCell (p := ⟨g, r, none⟩) HT.out.gB _⟩⟩
                simp only [hs1]
            case rest =>
              obtain ⟨rfl, bs1, cs1, rfl, HT1, HB1⟩ := hcut
              clear HT HB HD HL1 HN HBE z1 z2 c2 c3 c4 c5 p1 p2 hbl hb1 hb2
              rename Aside0 (L1.length = n) => HN
              have hrl : r < L1.length := by have := HN.out; omega
              have z1 := HT1.out.cell (j := r) (i := c) hrl (by omega)
              have hw1 := i64_w (det1 * ent L1 r c)
              go_wp2_with fail
              refine (mod_same p _ _ HP.out).mono ?_
              rintro e wc ⟨rfl, rfl⟩
              clear hw1
              go_wp2_with fail
              refine (spec_l01Inverse.calls K p (ent L1 r c) _ _ (HIV.out _)).mono ?_
              rintro e w1 ⟨rfl, ⟨nd, rfl⟩⟩
              obtain ⟨wB, hwB⟩ : ∃ wB, wB = wc.drewN nd := ⟨_, rfl⟩
              rw [← hwB]
              have HTB := Aside0.mk (show Tab wB w0.heap.size g n bs1 cs1 L1 by rw [hwB]; exact HT1.out.drewN nd)
              have HBB := Aside0.mk (show Below w0.heap.size w0 wB by rw [hwB]; exact pw_below_drewN HB1.out nd)
              obtain ⟨v, hv⟩ : ∃ v, iv (ent L1 r c) = v := ⟨_, rfl⟩
              rw [hv]
              obtain ⟨L2, hL2⟩ : ∃ L2, e1 p v c n r (n - (r + 1)) (r + 1) L1 = L2 := ⟨_, rfl⟩
              obtain ⟨det2, hdet2⟩ : ∃ det2, md p (wrap64 (det1 * ent L1 r c)) = det2 := ⟨_, rfl⟩
              have hh := HH3.out
              rw [hv, hL2, hdet2] at hh
              rw [hdet2]
              have HH4 := Aside0.mk hh
              have HL2 := Aside0.mk hL2
              have hwr : wrap64 ((r : Int) + 1) = ((r + 1 : Nat) : Int) := by have := HM.out; unfold wrap64; omega
              have hwr2 := i64_w ((r : Int) + 1)
              have HWR := Aside0.mk hwr
              clear hh hL2 hv hdet2 hwB HH3 HT1 HB1 z1
              generalize hBS : bs1 r = bsr
              generalize hCS : cs1 r = csr
              have HBS := Aside0.mk hBS
              have HCS := Aside0.mk hCS
              clear hBS hCS
              go_wp2_with fail
              clear hwr hwr2
              go_loopg [13] (n - (r + 1)) (fun eq v13 w' => ∃ (i : Nat) (L' : List (List Int)) (bs' cs' : Nat → Nat), v13 = .int .i64 (i : Int) ∧ Aside0 (r < i ∧ i + eq = n) ∧ Aside0 (L'.length = n) ∧ Aside0 (e1 p v c n r eq i L' = L2) ∧ Aside0 (bs' r = bsr ∧ cs' r = csr) ∧ Aside0 (Tab w' w0.heap.size g n bs' cs' L') ∧ Aside0 (Below w0.heap.size w0 w'))
              case atStart => exact ⟨r + 1, L1, bs1, cs1, rfl, ⟨by omega⟩, HN, HL2, ⟨HBS.out, HCS.out⟩, HTB, HBB⟩
              case round =>
                clear HTB HBB HN HL2 HBS HCS hrl
                obtain ⟨i, L', bs', cs', rfl, HIE, HN, HL2, HBC, HTB, HBB⟩ := hrel
                cases gk with
                | zero =>
                  have hie := HIE.out
                  have d1 : decide ((i : Int) < (n : Int)) = false := decide_eq_false (by omega)
                  have e : L' = L2 := HL2.out
                  subst e
                  clear HL2
                  go_wp2
                  go_roundg dq
                  case measure => omega
                  case rel => exact ⟨c + 1, r + 1, det2, L', bs', cs', rfl, congrArg _ HWR.out, congrArg _ HWC.out, ⟨by omega⟩, ⟨by have := HR.out; omega⟩, HN, HH4, HTB, HBB⟩
                | succ eq =>
                  have hie := HIE.out
                  have d1 : decide ((i : Int) < (n : Int)) = true := decide_eq_true (by omega)
                  have hil : i < L'.length := by have := HN.out; omega
                  have hrl : r < L'.length := by have := HN.out; omega
                  have e := HL2.out
                  simp only [e1] at e
                  obtain ⟨f, hf⟩ : ∃ f, fc p v L' i c = f := ⟨_, rfl⟩
                  rw [hf] at e
                  have HL3 := Aside0.mk e
                  have HF := Aside0.mk hf
                  unfold fc at hf
                  clear e HL2
                  have z1 := HTB.out.head (j := i) hil
                  have z2 := HTB.out.cell (j := i) (i := c) hil (by omega)
                  have hw2 := i64_w (ent L' i c * v)
                  have p1 := eq_true (show (0 : Int) ≤ (i : Int) by omega)
                  have p2 := eq_true (show (i : Int) < (n : Int) by omega)
                  have hwi : wrap64 ((i : Int) + 1) = ((i + 1 : Nat) : Int) := by have := HM.out; unfold wrap64; omega
                  have HWI := Aside0.mk hwi
                  clear hwi
                  by_cases hf0 : f = 0
                  · have d2 : (f == 0) = true := by rw [beq_iff_eq]; exact hf0
                    have e := HL3.out
                    rw [if_pos hf0] at e
                    have HL4 := Aside0.mk e
                    clear e HL3 hf0
                    go_wp2_with ((with_reducible refine gate_dst (N := 95) rfl ?_); refine Kd.R_lit (Kd.int .i64) _ 2 ?hg (N := 95) ?hd (xs := ([] : List Int)) (inner := []) (ok := fun _ => True) (okp := fun _ => True) ?hr ?hp (fun _ hk => hk) trivial (Below.refl _ _) (Nat.le_refl _) (by simp) ?_; (case hd => rfl); (case hg => rfl); (case hr => first | (go_simp; done) | (go_simp; rfl)); (case hp => exact (Reps.none _ _)); intro v139 w6 ho7 hb hg_ hnew_; clear hg_ hnew_; have HO := Aside0.mk ho7; have HB6 := Aside0.mk hb; clear ho7 hb)
                    go_roundg eq
                    case measure => omega
                    case rel => exact ⟨i + 1, L', bs', cs', congrArg _ HWI.out, ⟨by omega⟩, HN, HL4, HBC, ⟨HTB.out.below HB6.out⟩, ⟨below_step HBB.out HB6.out⟩⟩
                  · have d2 : (f == 0) = false := by rw [beq_eq_false_iff_ne]; exact hf0
                    have e := HL3.out
                    rw [if_neg hf0] at e
                    have HL4 := Aside0.mk e
                    clear e HL3 hf0
                    go_wp2_with ((with_reducible refine gate_dst (N := 95) rfl ?_); refine Kd.R_lit (Kd.int .i64) _ 2 ?hg (N := 95) ?hd (xs := ([] : List Int)) (inner := []) (ok := fun _ => True) (okp := fun _ => True) ?hr ?hp (fun _ hk => hk) trivial (Below.refl _ _) (Nat.le_refl _) (by simp) ?_; (case hd => rfl); (case hg => rfl); (case hr => first | (go_simp; done) | (go_simp; rfl)); (case hp => exact (Reps.none _ _)); intro v139 w6 ho7 hb hg_ hnew_; clear hg_ hnew_; have HO := Aside0.mk ho7; have HB6 := Aside0.mk hb; clear ho7 hb)
                    clear z1 z2 hw2 hf d2
                    obtain ⟨wo, hwo⟩ : ∃ wo, wr = wo := ⟨_, rfl⟩
                    rw [hwo] at HTB HBB HO HB6
                    go_loopg [15, 16] n (fun fq v15 v16 w' => ∃ (j : Nat), v16 = .int .i64 (j : Int) ∧ Aside0 (j + fq = n) ∧ Aside0 (Kd.R (Kd.int .i64) 2 w' wo.heap.size (fun _ => True) v15 (nr p f L' i r j)) ∧ Aside0 (Below wo.heap.size wo w'))
                    case atStart => exact ⟨0, rfl, ⟨by omega⟩, HO, HB6⟩
                    case round =>
                      clear HO HB6
                      obtain ⟨j, rfl, HJ, HO, HB6⟩ := hrel
                      have HTW := Aside0.mk (HTB.out.below HB6.out)
                      cases gk with
                      | zero =>
                        have hj := HJ.out
                        have d3 : decide ((j : Int) < (n : Int)) = false := decide_eq_false (by omega)
                        have hjn : j = n := by omega
                        have ho := HO.out
                        rw [hjn] at ho
                        obtain ⟨b2, cap2, RC, hv2, hb2, hcap2, hRC, hsz2, hcell⟩ := row_of_R ho (by rw [nr_len]; omega)
                        rw [nr_len] at hv2 hcap2 hcell
                        have hap : ∀ l, l < L'.length → bs' l ≠ b2 := by
                          intro l hl e
                          obtain ⟨_, _, RC', h3, _⟩ := HTB.out.row l hl
                          have := (Array.getElem?_eq_some_iff.1 h3).1
                          omega
                        have HTR := Aside0.mk (HTW.out.renew (j := i) (b := b2) (c := cap2) (r := nr p f L' i r n) hil (Nat.le_trans (below_size HBB.out) hb2) hcap2 hsz2 (nr_len ..) hRC hcell hap)
                        have HBR := Aside0.mk ((below_step HBB.out HB6.out).setCell (p := ⟨g, i, none⟩) HTB.out.gB (.slice (some ⟨b2, 0, none⟩) n cap2))
                        subst hv2
                        have f1 := HTW.out.head_frozen i
                        have z1 := HTW.out.head (j := i) hil
                        clear ho hb2 hcap2 hRC hsz2 hcell hap HO hjn HTW
                        go_wp2_with fail
                        go_roundg eq
                        case measure => omega
                        case rel => exact ⟨i + 1, L'.set i (nr p f L' i r n), fun l => if i = l then b2 else bs' l, fun l => if i = l then cap2 else cs' l, congrArg _ HWI.out, ⟨by omega⟩, ⟨by rw [List.length_set]; exact HN.out⟩, HL4, ⟨by show (if i = r then b2 else bs' r) = bsr ∧ (if i = r then cap2 else cs' r) = csr; rw [if_neg (show ¬ i = r by omega), if_neg (show ¬ i = r by omega)]; exact HBC.out⟩, HTR, HBR⟩
                      | succ fq =>
                        have hj := HJ.out
                        have d3 : decide ((j : Int) < (n : Int)) = true := decide_eq_true (by omega)
                        have z1 := HTW.out.head (j := i) hil
                        have z2 := HTW.out.cell (j := i) (i := j) hil (by omega)
                        have z3 := HTW.out.cell (j := r) (i := j) hrl (by omega)
                        rw [HBC.out.1] at z3
                        have p3 := eq_true (show (0 : Int) ≤ (j : Int) by omega)
                        have p4 := eq_true (show (j : Int) < (n : Int) by omega)
                        have hw2 := i64_w (f * ent L' r j)
                        have hw3 := i64_w (ent L' i j - wrap64 (f * ent L' r j))
                        have hwj : wrap64 ((j : Int) + 1) = ((j + 1 : Nat) : Int) := by have := HM.out; unfold wrap64; omega
                        have HWJ := Aside0.mk hwj
                        have HLN := Aside0.mk (nr_small p f L' i r (m := j) (n := n) HM.out (by omega))
                        clear hwj
                        have HS := Aside0.mk (show ∀ w', Below wo.heap.size wo w' → (w'.cell? ⟨g, i, none⟩ = some (.slice (some ⟨bs' i, 0, none⟩) n (cs' i)) ∧ w'.cell? ⟨bs' i, j, none⟩ = some (.int .i64 (ent L' i j)) ∧ w'.cell? ⟨bsr, j, none⟩ = some (.int .i64 (ent L' r j))) by
                          intro w' hb'
                          have T := HTB.out.below hb'
                          refine ⟨T.head (j := i) hil, T.cell (j := i) (i := j) hil (by omega), ?_⟩
                          rw [← HBC.out.1]
                          exact T.cell (j := r) (i := j) hrl (by omega))
                        obtain ⟨x, hx⟩ : ∃ x, md p (wrap64 (ent L' i j - wrap64 (f * ent L' r j))) = x := ⟨_, rfl⟩
                        have HX := Aside0.mk hx
                        have HCM : ∀ ww, Calls Try.prog 50 #[.int .i64 p, .int .i64 (wrap64 (ent L' i j - wrap64 (f * ent L' r j)))] ww fun e w' => e = .returned (.int .i64 x) ∧ w' = ww := by
                          intro ww; rw [← hx]; exact mod_same p _ ww HP.out
                        have HC2 := Aside0.mk HCM
                        clear hx HTW HCM
                        obtain ⟨wD, hwD⟩ : ∃ wD, wD = wr.drew := ⟨_, rfl⟩
                        have HO2 := Aside0.mk (show Kd.R (Kd.int .i64) 2 wr.drew wo.heap.size (fun _ => True) u15 (nr p f L' i r j) from Kd.R_drew HO.out)
                        have HB2 := Aside0.mk (show Below wo.heap.size wo wr.drew from HB6.out.drew)
                        clear hwD
                        go_wp2_with fail
                        go_region_held3 (fun w' => w'.cell? ⟨g, i, none⟩ = some (.slice (some ⟨bs' i, 0, none⟩) n (cs' i)) ∧ w'.cell? ⟨bs' i, j, none⟩ = some (.int .i64 (ent L' i j)) ∧ w'.cell? ⟨bsr, j, none⟩ = some (.int .i64 (ent L' r j)))
                          (first | exact HS.out _ hb | go_keep)
                          (first | (refine Kd.R_append_step (Kd.int .i64) (w0 := wo) (W := wr.drew) wo.heap.size (by rfl) (.tmp 103) (.tmp 120) 34 2 (.int .i64 0) 8 (by rfl) Try.underlying34 infoI64 rfl (by decide) (by omega) u15 (nr p f L' i r j) x [.int .i64 x] (fun _ => True) (fun _ => False) (by rfl) (by rfl) rfl (fun _ hk => hk.elim) (fun _ _ => trivial) HO2.out HB2.out (below_size HB2.out) HLN.out ?_; intro v155 w10 ho hb hg hat) | (go_simp; go_at_call 50; (with_reducible refine (HC2.out _).mono ?_); rintro e w' ⟨rfl, rfl⟩))
                        rw [← HX.out, ← nr_succ] at ho
                        have n0_ := Aside0.mk hb
                        have n1_ := Aside0.mk ho
                        clear HB6 HO ho hb hg hat z1 z2 z3
                        have HB6 := n0_
                        have HO := n1_
                        clear n0_ n1_
                        go_wp2_with fail
                        go_roundg fq
                        case measure => omega
                        case rel => exact ⟨j + 1, congrArg _ HWJ.out, ⟨by omega⟩, HO, HB6⟩
end Go.Proofs.Ytmpdloamgiejhaa.Hand
