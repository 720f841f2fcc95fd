/- The contract of impl.kernel, over a table as it lies. No condition. -/
import Derived.Test.YtmpdloamgiejhaaHandRows
import Derived.Test.YtmpdloamgiejhaaHandIech
namespace Go.Proofs.Ytmpdloamgiejhaa.Hand
open Go.RowKit Go.Proofs.YtmpdloamgiejhaaW.PrintWords Go.Proofs.YtmpdloamgiejhaaW.PrintLast Go.Proofs.YtmpdloamgiejhaaW.PrintMore
set_option linter.unusedVariables false
set_option linter.unusedSimpArgs false

/-- The places of the first entries. -/
def pvs (pv : Nat → Nat) (i : Nat) : List Int := (List.range i).map fun k => ((pv k : Nat) : Int)
theorem pvs_succ (pv : Nat → Nat) (i : Nat) : pvs pv (i + 1) = pvs pv i ++ [((pv i : Nat) : Int)] := by unfold pvs; rw [List.range_succ, List.map_append]; rfl
theorem pvs_len (pv : Nat → Nat) (i : Nat) : (pvs pv i).length = i := by unfold pvs; simp
theorem pvs_get (pv : Nat → Nat) {i m : Nat} (h : i < m) : rdOf 0 (pvs pv m) (i : Int) = ((pv i : Nat) : Int) := by
  unfold rdOf pvs
  simp [h]
/-- A vector of the kernel: the places of the first entries from i on. -/
def kx (p : Int) (L : List (List Int)) (pv : Nat → Nat) (c : Nat) : Nat → Nat → List Int → List Int
  | 0, _, x => x
  | d + 1, i, x => kx p L pv c d (i + 1) (x.set (pv i) (md p (wrap64 (-(ent L i c)))))
/-- All vectors from column c on. -/
def ko (p : Int) (L : List (List Int)) (pv : Nat → Nat) (r n : Nat) : Nat → Nat → List (List Int) → List (List Int)
  | 0, _, acc => acc
  | d + 1, c, acc => ko p L pv r n d (c + 1) (if ((c : Nat) : Int) ∈ pvs pv r then acc else acc ++ [kx p L pv c r 0 ((List.replicate n 0).set c 1)])
theorem intR_move {e : Nat} {w w1 : World} {base : Nat} {v : Value} {xs : List Int} (h : Kd.R (Kd.int .i64) e w base (fun _ => True) v xs) (hm : ∀ k, v.ownBlock = some k → w1.heap[k]? = w.heap[k]?) : Kd.R (Kd.int .i64) e w1 base (fun _ => True) v xs := by
  obtain ⟨h0, inner, ho, hr⟩ := h
  exact ⟨h0, inner, own_move ho hm, hr⟩
theorem Tab.lower {w : World} {B B' g n : Nat} {bs cs : Nat → Nat} {L : List (List Int)} (h : Tab w B g n bs cs L) (hb : B' ≤ B) : Tab w B' g n bs cs L :=
  ⟨h.rows, Nat.le_trans hb h.gB, h.outer, fun j hj => by obtain ⟨a, r⟩ := h.row j hj; exact ⟨Nat.le_trans hb a, r⟩, h.apart, h.sz⟩
/-- Another block than the table's is written. -/
theorem Tab.but {w w' : World} {B g n : Nat} {bs cs : Nat → Nat} {L : List (List Int)} (h : Tab w B g n bs cs L) {go : Nat} (hk : ∀ k, k < w.heap.size → k ≠ go → w'.heap[k]? = w.heap[k]?) (h1 : g ≠ go) (h2 : ∀ j, j < L.length → bs j ≠ go) : Tab w' B g n bs cs L := by
  have lt : ∀ {k : Nat} {o : Obj}, w.heap[k]? = some o → k < w.heap.size := fun hk => (Array.getElem?_eq_some_iff.1 hk).1
  refine ⟨h.rows, h.gB, ?_, ?_, h.apart, ?_⟩
  · obtain ⟨HC, k1, k2⟩ := h.outer
    exact ⟨HC, (hk _ (lt k1) h1).trans k1, k2⟩
  · intro j hj
    obtain ⟨k1, k2, RC, k3, k4⟩ := h.row j hj
    exact ⟨k1, k2, RC, (hk _ (lt k3) (h2 j hj)).trans k3, k4⟩
  · obtain ⟨⟨HC, k1, k2⟩, k3⟩ := h.sz
    refine ⟨⟨HC, (hk _ (lt k1) h1).trans k1, k2⟩, fun j hj => ?_⟩
    obtain ⟨k4, RC, k5, k6⟩ := k3 j hj
    exact ⟨k4, RC, (hk _ (lt k5) (h2 j hj)).trans k5, k6⟩
set_option maxHeartbeats 8000000 in
set_option maxRecDepth 100000 in
theorem ker_calls (K : Nat) (iv : Int → Int) (w0 w : World) (g n cap : Nat) (bs cs : Nat → Nat) (T L9 OUT L10 : List (List Int)) (p : Int) (r9 r10 : Nat) (pv : Nat → Nat) (hB : Below w0.heap.size w0 w) (hT : Tab w w0.heap.size g n bs cs T) (hn : T.length = n) (hn0 : 0 < n) (hm : n ≤ 100) (hp : p ≠ 0)
    (hcap : n ≤ cap) (hmax : cap ≤ maxLen) (hiv : ∀ x, impl_inverse.f K x p = some (iv x)) (h : g0 p iv n n n 0 T 0 = (L9, r9)) (hL9 : L9.length = n) (hr9 : r9 ≤ n) (hpv : ∀ i, i < r9 → fz (L9.getD i []) n 0 = some (pv i))
    (hout : ko p L9 pv r9 n n 0 [] = OUT) (h2 : g0 p iv OUT.length n n 0 OUT 0 = (L10, r10)) (hL10 : L10.length = OUT.length) :
    Calls Try.prog 33 #[.slice (some ⟨g, 0, none⟩) n cap, .int .i64 p] w fun e w' => ∃ ga cc bo co, e = .returned (.slice (some ⟨ga, 0, none⟩) OUT.length cc) ∧ Tab w' w0.heap.size ga n bo co L10 ∧ co OUT.length = cc ∧ Below w0.heap.size w0 w' := by
  have HB := Aside0.mk hB
  have HN0 := Aside0.mk hn0
  have HM := Aside0.mk hm
  have HP := Aside0.mk hp
  have HCAP := Aside0.mk hcap
  have HMAX := Aside0.mk hmax
  have HIV := Aside0.mk hiv
  have HL9 := Aside0.mk hL9
  have HR9 := Aside0.mk hr9
  have HPV := Aside0.mk hpv
  have HOUT := Aside0.mk hout
  have H2 := Aside0.mk h2
  have HL10 := Aside0.mk hL10
  have HC1 := Aside0.mk (iech_calls K iv w0 w g n n cap bs cs T L9 p r9 hB hT hn hm hm hp hcap hmax hiv h)
  have pz : (p == 0) = false := by rw [beq_eq_false_iff_ne]; exact hp
  have pz2 : (p = 0) = False := eq_false hp
  clear hB hT hn hn0 hm hp hcap hmax hiv h hL9 hr9 hpv hout h2 hL10
  go_enter Try.func33, Try.ntmps33
  go_wp2_with fail
  refine HC1.out.mono ?_
  rintro e w1 ⟨rfl, hb1, bs1, cs1, hT1, _⟩
  have HB1 := Aside0.mk hb1
  have HT1 := Aside0.mk hT1
  clear hb1 hT1 HC1 HB
  have q3 := eq_true (show (r9 : Int) ≤ (cap : Int) by have := HR9.out; have := HCAP.out; omega)
  have q4 := eq_true (show (0 : Int) ≤ (r9 : Int) by omega)
  have q5 := eq_false (show ¬ ((cap : Int) < (r9 : Int)) by have := HR9.out; have := HCAP.out; omega)
  go_wp2_with ((with_reducible refine gate_dst (N := 21) rfl ?_); refine Kd.R_lit (Kd.int .i64) _ 3 ?hg (N := 21) ?hd (xs := ([] : List Int)) (inner := []) (ok := fun _ => True) (okp := fun _ => True) ?hr ?hp (fun _ hk => hk) trivial (Below.refl _ _) (Nat.le_refl _) (by simp) ?_; (case hd => rfl); (case hg => rfl); (case hr => first | (go_simp; done) | (go_simp; rfl)); (case hp => exact (Reps.none _ _)); intro vp w6 ho7 hb hg_ hnew_; clear hg_ hnew_; have HO := Aside0.mk ho7; have HB6 := Aside0.mk hb; clear ho7 hb)
  obtain ⟨g6, hg6⟩ : ∃ g6, w6.heap.size = g6 := ⟨_, rfl⟩
  have HG6 := Aside0.mk (show (w6.alloc (.cells #[] 34)).heap[g6]? = some (.cells #[] 34 (0, 0)) by rw [← hg6]; exact heap_alloc_new w6 _)
  have HGB := Aside0.mk (show w1.heap.size ≤ g6 by rw [← hg6]; exact below_size HB6.out)
  have HO1 := Aside0.mk (show Kd.R (Kd.int .i64) 3 (w6.alloc (.cells #[] 34)) w1.heap.size (fun _ => True) vp (pvs pv 0) from intR_move HO.out (fun k hk => Below.heap_alloc w6 _ k (Kd.R_lt HO.out k hk)))
  have HBW1 := Aside0.mk (show Below w1.heap.size w1 (w6.alloc (.cells #[] 34)) from HB6.out.alloc (below_size HB6.out) _)
  rw [hg6]
  clear HO HB6 q3 q4 q5 hg6
  have HSB := Aside0.mk (below_size HB1.out)
  go_loopg [7, 27] r9 (fun dq v7 v27 w' => ∃ (i : Nat), v27 = .int .i64 (i : Int) ∧ Aside0 (i + dq = r9) ∧ Aside0 (Kd.R (Kd.int .i64) 3 w' w1.heap.size (fun _ => True) v7 (pvs pv i)) ∧ Aside0 (w'.heap[g6]? = some (.cells #[] 34 (0, 0))) ∧ Aside0 (Below w1.heap.size w1 w'))
  case atStart => exact ⟨0, rfl, ⟨by omega⟩, HO1, HG6, HBW1⟩
  case round =>
    clear HO1 HG6 HBW1
    obtain ⟨i, rfl, HI, HO, HG6, HBW⟩ := hrel
    have HTW := Aside0.mk (HT1.out.below HBW.out)
    cases gk with
    | succ dq =>
      have hi := HI.out
      have hil : i < L9.length := by have := HL9.out; have := HR9.out; omega
      have d1 : decide ((i : Int) < (r9 : Int)) = true := decide_eq_true (by omega)
      have d1n : decide (i < r9) = true := decide_eq_true (by omega)
      have p1 := eq_true (show (0 : Int) ≤ (i : Int) by omega)
      have p2 := eq_true (show (i : Int) < (r9 : Int) by omega)
      have z1 := HTW.out.head (j := i) hil
      have hix := indexK_calls wr (bs1 i) (cs1 i) (L9.getD i []) (HTW.out.row_ hil) (by rw [HTW.out.rows i hil]; exact HM.out)
      rw [HTW.out.rows i hil, show fzi (L9.getD i []) n 0 = ((pv i : Nat) : Int) by unfold fzi; rw [HPV.out i (by omega)]] at hix
      have HIX := Aside0.mk hix
      have hwi : wrap64 ((i : Int) + 1) = ((i + 1 : Nat) : Int) := by have := HM.out; have := HR9.out; unfold wrap64; omega
      have HWI := Aside0.mk hwi
      have HSM := Aside0.mk (show ((pvs pv i).length + 1) * 8 ≤ 140737488355328 by rw [pvs_len]; exact Nat.le_trans (Nat.mul_le_mul_right 8 (show i + 1 ≤ 100 by have := HM.out; have := HR9.out; omega)) (by decide))
      have HSZ := Aside0.mk (show w1.heap.size ≤ wr.heap.size from HBW.out.size)
      have HPS := Aside0.mk (pvs_succ pv i)
      clear hix hwi hil
      go_wp2_with fail
      refine HIX.out.mono ?_
      rintro e w2 ⟨rfl, q, rfl⟩
      have HO2 := Aside0.mk (Kd.R_drewN HO.out q)
      have HB2 := Aside0.mk (pw_below_drewN HBW.out q)
      have HG2 := Aside0.mk (show (wr.drewN q).heap[g6]? = some (.cells #[] 34 (0, 0)) from HG6.out)
      have HS2 := Aside0.mk (show w1.heap.size ≤ (wr.drewN q).heap.size from HSZ.out)
      go_wp2_with ((with_reducible refine gate_builtin (b := .append) (xs := #[.tmp 31, .tmp 34]) rfl ?_); at_builtin; refine Kd.R_append (Kd.int .i64) (w0 := w1) (W := wr.drewN q) w1.heap.size rfl (.tmp 31) (.tmp 34) 61 3 (.int .i64 0) 8 rfl Try.underlying61 info3 rfl (by decide) (by omega) u7 (pvs pv i) ((pv i : Nat) : Int) [.int .i64 ((pv i : Nat) : Int)] (fun _ => True) (fun _ => False) ?aV ?aX ?aP (fun _ hk => hk.elim) (fun _ _ => trivial) ?aO ?aB ?aS ?aL ?_; (case aV => rfl); (case aX => rfl); (case aP => exact rfl); (case aB => exact HB2.out); (case aO => exact HO2.out); (case aS => exact HS2.out); (case aL => exact HSM.out); intro v108 w14 ho hb hg hat; have n1_ := Aside0.mk ho; have n2_ := Aside0.mk hb; have n3_ := Aside0.mk (show w14.heap[g6]? = some (.cells #[] 34 (0, 0)) from (hg.block g6 (Array.getElem?_eq_some_iff.1 HG2.out).1 (Kd.R_ne HO2.out HG2.out (by decide))).trans HG2.out); clear ho hb hg hat)
      rw [← HPS.out] at n1_
      go_roundg dq
      case measure => omega
      case rel => exact ⟨i + 1, congrArg _ HWI.out, ⟨by omega⟩, n1_, n3_, n2_⟩
    | zero =>
      have hi := HI.out
      have hir : i = r9 := by omega
      have d1 : decide ((i : Int) < (r9 : Int)) = false := decide_eq_false (by omega)
      have d1n : decide (i < r9) = false := decide_eq_false (by omega)
      have ho := HO.out
      rw [hir] at ho
      obtain ⟨Ap, cp, ev⟩ := Kd.R_slice ho
      have HP1 := Aside0.mk ho
      rw [pvs_len] at ev
      subst ev
      have HTE := Aside0.mk (Tab_empty (n := n) (base := w1.heap.size) HG6.out HGB.out)
      clear ho HO HG6 hir
      go_wp2_with fail
      go_loopg [8, 38] n (fun dq v8 v38 w' => ∃ (c k ga cc : Nat) (acc : List (List Int)) (bo co : Nat → Nat), v38 = .int .i64 (c : Int) ∧ v8 = .slice (some ⟨ga, 0, none⟩) k cc ∧ Aside0 (c + dq = n) ∧ Aside0 (acc.length = k ∧ k ≤ c) ∧ Aside0 (ko p L9 pv r9 n dq c acc = OUT) ∧ Aside0 (Tab w' w1.heap.size ga n bo co acc) ∧ Aside0 (co k = cc) ∧ Aside0 (Kd.R (Kd.int .i64) 3 w' w1.heap.size (fun _ => True) (.slice Ap r9 cp) (pvs pv r9)) ∧ Aside0 (Below w1.heap.size w1 w'))
      case atStart => exact ⟨0, 0, g6, 0, [], _, _, rfl, rfl, ⟨by omega⟩, ⟨rfl, by omega⟩, HOUT, HTE, ⟨rfl⟩, HP1, HBW⟩
      case round =>
        clear HTE HP1 HBW HOUT HTW
        obtain ⟨c, k, ga, cc, acc, bo, co, rfl, rfl, HC, HK, HOUT, HTO, HCC, HP1, HBW⟩ := hrel
        cases gk with
        | zero =>
          have hc := HC.out
          have d2 : decide ((c : Int) < (n : Int)) = false := decide_eq_false (by omega)
          have d2n : decide (c < n) = false := decide_eq_false (by omega)
          have e : acc = OUT := HOUT.out
          subst e
          obtain ⟨hk1, hk2⟩ := HK.out
          have hsz := HTO.out.sz.head
          obtain ⟨HCx, _, _, hle, hmx⟩ := hsz
          have hcc : co acc.length = cc := by rw [hk1]; exact HCC.out
          have HE := Aside0.mk (iech_calls K iv w0 wr ga n acc.length cc bo co acc L10 p r10 (below_step2 HB1.out HBW.out HSB.out) (HTO.out.lower HSB.out) rfl HM.out (by have := HM.out; omega) HP.out (by omega) (by omega) HIV.out H2.out)
          rw [hk1] at HE
          have HK1 := Aside0.mk hk1
          have HCE := Aside0.mk HCC.out
          clear hle hmx hcc hk1
          go_wp2_with fail
          refine HE.out.mono ?_
          rintro e w3 ⟨rfl, hb3, bs3, cs3, hT3, hcs3⟩
          have HT3 := Aside0.mk hT3
          have HB3 := Aside0.mk hb3
          have HC3 := Aside0.mk hcs3
          clear hT3 hb3 hcs3 HE
          go_wp2
          go_ret
          rw [HK1.out]
          exact ⟨ga, cc, bs3, cs3, rfl, HT3.out, HC3.out.trans HCE.out, HB3.out⟩
        | succ dq =>
          have hc := HC.out
          have d2 : decide ((c : Int) < (n : Int)) = true := decide_eq_true (by omega)
          have d2n : decide (c < n) = true := decide_eq_true (by omega)
          have hwc : wrap64 ((c : Int) + 1) = ((c + 1 : Nat) : Int) := by have := HM.out; unfold wrap64; omega
          have HWC := Aside0.mk hwc
          have hct := slices_Contains_int_int.calls 3000 Ap cp (pvs pv r9) (c : Int) _ wr (Kd.R_reads' HP1.out).2.2 (by have h_ := (Kd.R_reads' HP1.out).2.1; rw [pvs_len]; exact h_) (contains_f (pvs pv r9) (c : Int) (by rw [pvs_len]; have := HM.out; have := HR9.out; omega))
          rw [pvs_len] at hct
          have HCT := Aside0.mk hct
          clear hct
          have ho := HOUT.out
          simp only [ko] at ho
          clear hwc
          by_cases hin : (c : Int) ∈ pvs pv r9
          · rw [if_pos hin] at ho
            have HO2 := Aside0.mk ho
            rw [decide_eq_true hin] at HCT
            clear ho HOUT hin
            go_wp2_with fail
            refine HCT.out.mono ?_
            rintro e w4 ⟨rfl, ⟨q, rfl⟩⟩
            have HT4 := Aside0.mk (HTO.out.drewN q)
            have HP4 := Aside0.mk (Kd.R_drewN HP1.out q)
            have HB4 := Aside0.mk (pw_below_drewN HBW.out q)
            clear HCT
            go_wp2
            go_roundg dq
            case measure => omega
            case rel => exact ⟨c + 1, k, ga, cc, acc, bo, co, congrArg _ HWC.out, rfl, ⟨by omega⟩, ⟨by have := HK.out; omega⟩, HO2, HT4, HCC, HP4, HB4⟩
          · rw [if_neg hin] at ho
            have HO2 := Aside0.mk ho
            rw [decide_eq_false hin] at HCT
            clear ho HOUT hin
            go_wp2_with fail
            refine HCT.out.mono ?_
            rintro e w4 ⟨rfl, ⟨q, rfl⟩⟩
            obtain ⟨wA, hwA⟩ : ∃ wA, wA = wr.drewN q := ⟨_, rfl⟩
            have HT4 := Aside0.mk (show Tab wA w1.heap.size ga n bo co acc by rw [hwA]; exact HTO.out.drewN q)
            have HP4 := Aside0.mk (show Kd.R (Kd.int .i64) 3 wA w1.heap.size (fun _ => True) (.slice Ap r9 cp) (pvs pv r9) by rw [hwA]; exact Kd.R_drewN HP1.out q)
            have HB4 := Aside0.mk (show Below w1.heap.size w1 wA by rw [hwA]; exact pw_below_drewN HBW.out q)
            have HTA := Aside0.mk (HT1.out.below HB4.out)
            have HSA := Aside0.mk (show w1.heap.size ≤ wA.heap.size from HB4.out.size)
            have p1 := eq_true (show (0 : Int) ≤ (c : Int) by omega)
            have p2 := eq_true (show (c : Int) < (n : Int) by omega)
            have HBY := Aside0.mk (show (n : Int).toNat * 8 ≤ 281474976710656 by rw [Int.toNat_natCast]; have := HM.out; omega)
            rw [← hwA]
            clear hwA HTO HP1 HBW HCT
            go_wp2_with ((with_reducible refine gate_dst (N := 45) rfl ?_); refine Kd.R_make (Kd.int .i64) (w0 := wA) wA.heap.size 2 rfl (N := 45) rfl 34 _ _ rfl (n : Int) rfl rfl Try.underlying34 (.int .i64 0) 8 infoI64 rfl (by decide) (by omega) 0 (ok := fun _ => True) (okp := fun _ => True) rfl (fun _ hk => hk) trivial (Int.natCast_nonneg n) HBY.out (Below.refl _ _) (Nat.le_refl _) ?_; intro vx w5 hmk hbm hgm hnew; clear hgm hnew; rw [Int.toNat_natCast] at hmk; obtain ⟨b, cb, ev, hbb, hrow⟩ := row_of_RR hmk (by rw [List.length_replicate]; exact HN0.out); rw [List.length_replicate] at ev; subst ev; have HRW := Aside0.mk hrow; have z7 := hrow.cell (i := c) (by rw [List.length_replicate]; have := HC.out; omega); have f7 : w5.frozen? ⟨b, c, none⟩ = false := hrow.frozen c; have HBM := Aside0.mk hbm; have HBB := Aside0.mk hbb; clear hmk hbm hbb hrow)
            have HRC := Aside0.mk (show Row (w5.setCell ⟨b, c, none⟩ (.int .i64 1)) b cb ((List.replicate n 0).set c 1) from HRW.out.set (by rw [List.length_replicate]; have := HC.out; omega) 1)
            have HBC := Aside0.mk (show Below wA.heap.size wA (w5.setCell ⟨b, c, none⟩ (.int .i64 1)) from HBM.out.setCell (p := ⟨b, c, none⟩) HBB.out _)
            have HXL := Aside0.mk (show ((List.replicate n (0 : Int)).set c 1).length = n by rw [List.length_set, List.length_replicate])
            obtain ⟨X9, hX9⟩ : ∃ X9, kx p L9 pv c r9 0 ((List.replicate n 0).set c 1) = X9 := ⟨_, rfl⟩
            rw [hX9] at HO2
            have HX9 := Aside0.mk hX9
            clear hX9 z7 f7 HRW HBM
            go_loopg [51] r9 (fun eq v51 w' => ∃ (i : Nat) (x : List Int), v51 = .int .i64 (i : Int) ∧ Aside0 (i + eq = r9) ∧ Aside0 (x.length = n) ∧ Aside0 (kx p L9 pv c eq i x = X9) ∧ Aside0 (Row w' b cb x) ∧ Aside0 (Below wA.heap.size wA w'))
            case atStart => exact ⟨0, _, rfl, ⟨by omega⟩, HXL, HX9, HRC, HBC⟩
            case round =>
              clear HXL HX9 HRC HBC
              obtain ⟨i, x, rfl, HI, HXL, HX9, HRC, HBC⟩ := hrel
              cases gk with
              | zero =>
                have hi := HI.out
                have d3 : decide ((i : Int) < (r9 : Int)) = false := decide_eq_false (by omega)
                have d3n : decide (i < r9) = false := decide_eq_false (by omega)
                have e : x = X9 := HX9.out
                subst e
                have HTO := Aside0.mk (HT4.out.below HBC.out)
                have hk1 := HK.out.1
                have HK1 := Aside0.mk hk1
                have HAP := Aside0.mk (show ∀ l, l < acc.length → bo l ≠ b by
                  intro l hl e
                  obtain ⟨_, _, RC', h3, _⟩ := HT4.out.row l hl
                  have := (Array.getElem?_eq_some_iff.1 h3).1
                  have := HBB.out
                  omega)
                have HBR := Aside0.mk (below_step2 HB4.out HBC.out HSA.out)
                have HSR := Aside0.mk (show w1.heap.size ≤ wr.heap.size from Nat.le_trans HSA.out HBC.out.size)
                have HSB2 := Aside0.mk (show w1.heap.size ≤ b from Nat.le_trans HSA.out HBB.out)
                have HPR := Aside0.mk (intR_move (w1 := wr) HP4.out (fun k hk => HBC.out.block k (Kd.R_lt HP4.out k hk)))
                have HSMALL := Aside0.mk (show acc.length ≤ 1000 by have := HK.out; have := HM.out; omega)
                have hcc := HCC.out
                rw [← hk1] at hcc
                have HCC2 := Aside0.mk hcc
                have HGA := Aside0.mk (show some ga ≠ (Value.slice Ap r9 cp).ownBlock from by
                  obtain ⟨HCx, hgx, _⟩ := HTO.out.outer
                  exact Kd.R_ne HPR.out hgx (by decide))
                clear HX9 hcc hk1
                go_wp2_with ((with_reducible refine gate_builtin (b := .append) (xs := #[.tmp 70, .tmp 72]) rfl ?_); at_builtin; refine append_tab w1 rfl (.tmp 70) (.tmp 72) rfl HTO.out HRC.out HXL.out HSB2.out HAP.out ?aV ?aX HBR.out HSR.out HSMALL.out ?_; (case aV => rw [HCC2.out, HK1.out]; rfl); (case aX => rfl); intro g2 c2 bs2 cs2 w14 hT hc2 hk hb hs; have n1_ := Aside0.mk hT; have n2_ := Aside0.mk hc2; have n3_ := Aside0.mk hb; have n4_ := Aside0.mk (intR_move (w1 := w14) HPR.out (fun k hk2 => hk k (Kd.R_lt HPR.out k hk2) (fun e => HGA.out (by rw [hk2, e])))); clear hT hc2 hk hb hs)
                have hwr : k + 1 ≤ c + 1 := by have := HK.out; omega
                have HKC := Aside0.mk (show (acc ++ [x]).length = k + 1 ∧ k + 1 ≤ c + 1 from ⟨by rw [List.length_append]; simp [HK1.out], hwr⟩)
                rw [HK1.out] at n2_
                rw [show acc.length + 1 = k + 1 by rw [HK1.out]]
                go_roundg dq
                case measure => omega
                case rel => exact ⟨c + 1, k + 1, g2, c2, acc ++ [x], bs2, cs2, congrArg _ HWC.out, rfl, ⟨by omega⟩, HKC, HO2, n1_, n2_, n4_, n3_⟩
              | succ eq =>
                have hi := HI.out
                have d3 : decide ((i : Int) < (r9 : Int)) = true := decide_eq_true (by omega)
                have d3n : decide (i < r9) = true := decide_eq_true (by omega)
                have hil : i < L9.length := by have := HL9.out; have := HR9.out; omega
                have hpl : pv i < n := by have := fz_some (HPV.out i (by omega)); omega
                have HTW := Aside0.mk (HTA.out.below HBC.out)
                have HPR := Aside0.mk (intR_move (w1 := wr) HP4.out (fun k hk => HBC.out.block k (Kd.R_lt HP4.out k hk)))
                have z1 := HTW.out.head (j := i) hil
                have z2 := HTW.out.cell (j := i) (i := c) hil (by omega)
                obtain ⟨gp, capp, ep, epr⟩ := Kd.R_form HPR.out (by rw [pvs_len]; omega)
                clear epr
                injection ep with ep1 ep2 ep3
                clear ep2 ep3
                subst ep1
                have z3 := (Kd.R_celln (0 : Int) HPR.out (i : Int) (by omega) (by omega)).1
                rw [Int.toNat_natCast, pvs_get pv (show i < r9 by omega)] at z3
                obtain ⟨pi, hpi⟩ : ∃ pi, pv i = pi := ⟨_, rfl⟩
                rw [hpi] at z3 hpl
                obtain ⟨ux, z4⟩ : ∃ ux, wr.cell? ⟨b, pi, none⟩ = some ux := ⟨_, HRC.out.cell (i := pi) (by rw [HXL.out]; exact hpl)⟩
                have f4 : wr.frozen? ⟨b, pi, none⟩ = false := HRC.out.frozen (pi)
                have p3 := eq_true (show (0 : Int) ≤ (i : Int) by omega)
                have p4 := eq_true (show (i : Int) < (n : Int) by have := HR9.out; omega)
                have p5 := eq_true (show (0 : Int) ≤ ((pi : Nat) : Int) by omega)
                have p6 := eq_true (show ((pi : Nat) : Int) < (n : Int) by omega)
                have p7 := eq_true (show (i : Int) < (r9 : Int) by omega)
                have hwn := i64_w (-(ent L9 i c))
                have hwi : wrap64 ((i : Int) + 1) = ((i + 1 : Nat) : Int) := by have := HM.out; have := HR9.out; unfold wrap64; omega
                have HWI := Aside0.mk hwi
                have hx := HX9.out
                simp only [kx] at hx
                rw [hpi] at hx
                obtain ⟨y, hy⟩ : ∃ y, md p (wrap64 (-(ent L9 i c))) = y := ⟨_, rfl⟩
                rw [hy] at hx
                have HX2 := Aside0.mk hx
                have HCM := Aside0.mk (show ∀ ww, Calls Try.prog 48 #[.int .i64 (wrap64 (-(ent L9 i c))), .int .i64 p] ww fun e w' => e = .returned (.int .i64 y) ∧ w' = ww by
                  intro ww; rw [← hy]; exact restM_same _ p ww HP.out)
                have HRN := Aside0.mk (show Row (wr.setCell ⟨b, pi, none⟩ (.int .i64 y)) b cb (x.set (pi) y) from HRC.out.set (by rw [HXL.out]; exact hpl) y)
                have HBN := Aside0.mk (show Below wA.heap.size wA (wr.setCell ⟨b, pi, none⟩ (.int .i64 y)) from HBC.out.setCell (p := ⟨b, pi, none⟩) HBB.out _)
                have HXN := Aside0.mk (show (x.set (pi) y).length = n by rw [List.length_set]; exact HXL.out)
                clear hx hy hwi HX9 hil hpl hpi
                go_wp2_with fail
                refine (HCM.out _).mono ?_
                rintro e w' ⟨rfl, rfl⟩
                go_wp2_with fail
                go_roundg eq
                case measure => omega
                case rel => exact ⟨i + 1, x.set pi y, congrArg _ HWI.out, ⟨by omega⟩, HXN, HX2, HRN, HBN⟩
end Go.Proofs.Ytmpdloamgiejhaa.Hand
