/- The walk of spec.DiagramOfNumber. No condition. -/
import Derived.Test.YtdmipfmipjpegaaHandNumP
namespace Go.Proofs.Ytdmipfmipjpegaa.Hand
open Go.RowKit Go.Proofs.YtdmipfmipjpegaaW.PrintWords Go.Proofs.YtdmipfmipjpegaaW.PrintLast Go.Proofs.YtdmipfmipjpegaaW.PrintMore
set_option linter.unusedVariables false
set_option linter.unusedSimpArgs false

set_option maxHeartbeats 8000000 in
theorem snum_in (N K : Nat) (h1 : 1 ≤ N) (h8 : N ≤ 8) (T : ByteArray) (hT : (brk (2 * N) 0 ⟨#[]⟩)[K]? = some T) (w : World) :
    Calls Try.prog 19 #[.int .i64 (N : Int), .int .i64 (K : Int)] w fun e w' => e = .returned (.tuple #[.agg (dia (readR T).1 (readR T).2.1), .int .i64 0]) ∧ Below w.heap.size w w' := by
  have HT := Aside0.mk hT
  have hlen : K < (brk (2 * N) 0 ⟨#[]⟩).length := (List.getElem?_eq_some_iff.1 hT).1
  have hways := brk_ways (2 * N) 0 N ⟨#[]⟩ 17 (by omega) (by omega) (by omega)
  have hl2 := brk_len (2 * N) 0 ⟨#[]⟩
  have hl3 : 2 ^ (2 * N) ≤ 2 ^ 16 := Nat.pow_le_pow_right (by omega) (by omega)
  generalize (brk (2 * N) 0 ⟨#[]⟩).length = L at hlen hways hl2
  have HI := Aside0.mk (fun W => sIn_calls (N : Int) 1 8 true (decide_eq_true (by omega)) W)
  have HI2 := Aside0.mk (fun W => sIn_calls (K : Int) 0 (wrap64 ((L : Int) - 1)) true (decide_eq_true (by unfold wrap64; omega)) W)
  have HW := Aside0.mk (fun W => spec_l01Ways.calls 17 0 (N : Int) (L : Int) W hways)
  have HR := Aside0.mk (fun W => sread_calls T (by have := brk_sizes (2 * N) 0 ⟨#[]⟩ T (List.mem_of_getElem? hT); rw [this]; show 0 + 2 * N ≤ _; omega) W)
  have hl := readR_len T
  generalize readR T = r at HR hl ⊢
  obtain ⟨m, b, ok⟩ := r
  simp only at HR hl ⊢
  have HZ := Aside0.mk (show (Try.prog.info? 24).map (·.size) = some (dia m b).size by rw [dia_size, hl]; exact sizeDia)
  have HZ0 := Aside0.mk (show (dia 0 (List.replicate 16 0)).size = (dia m b).size by rw [dia_size, dia_size, hl]; rfl)
  have HO := Aside0.mk (dia_one m b)
  clear hl
  generalize dia m b = C at HR HZ HZ0 HO ⊢
  have m1 : max (N : Int) 1 = (N : Int) := by omega
  have m2 : min (N : Int) 8 = (N : Int) := by omega
  have HN := Aside0.mk h8
  clear hT hlen hways hl2 hl3 h1 h8
  go_enter Try.func19, Try.ntmps19
  go_wp2_with fail
  refine (HI.out _).mono ?_
  rintro e w0 ⟨rfl, ⟨q, rfl⟩⟩
  go_wp2_with fail
  refine (HW.out _).mono ?_
  rintro e w0 ⟨rfl, ⟨q2, rfl⟩⟩
  go_wp2_with fail
  refine (HI2.out _).mono ?_
  rintro e w0 ⟨rfl, ⟨q3, rfl⟩⟩
  obtain ⟨W0, hW0⟩ : ∃ W0, W0 = w.alloc (.cells (dia 0 (List.replicate 16 0)) 24) := ⟨_, rfl⟩
  have HG0 := Aside0.mk (show W0.heap[w.heap.size]? = some (.cells (dia 0 (List.replicate 16 0)) 24 (0, 0)) by rw [hW0]; exact heap_alloc_new w _)
  have HB0 := Aside0.mk (show Below w.heap.size w W0 by rw [hW0]; exact (Below.refl _ w).alloc (Nat.le_refl _) _)
  have HS0 := Aside0.mk (show w.heap.size < W0.heap.size by rw [hW0]; simp)
  have HW0 := Aside0.mk hW0
  clear hW0
  go_wp2_with fail
  go_loopg [1, 6, 7, 8] (2 * N + 1) (fun kq v1 v6 v7 v8 w' => ∃ (k op rest : Int) (t : ByteArray) (q' kN oN rN : Nat), v1 = .int .i64 k ∧ v6 = .string t ∧ v7 = .int .i64 op ∧ v8 = .int .i64 rest ∧ Aside0 (k = (kN : Int)) ∧ Aside0 (op = (oN : Int)) ∧ Aside0 (rest = (rN : Int)) ∧ Aside0 (t.size + (2 * rN + oN) = 2 * N) ∧ Aside0 (kq + t.size = 2 * N + 1) ∧ Aside0 ((brk (2 * rN + oN) oN t)[kN]? = some T) ∧ Aside0 (w' = W0.drewN q'))
  case atStart => exact ⟨_, _, _, _, q + q2 + q3, K, 0, N, rfl, rfl, rfl, rfl, ⟨rfl⟩, ⟨rfl⟩, ⟨rfl⟩, ⟨by show 0 + _ = _; omega⟩, ⟨rfl⟩, HT, ⟨by rw [HW0.out]; rfl⟩⟩
  case round =>
    obtain ⟨k, op, rest, t, q', kN, oN, rN, rfl, rfl, rfl, rfl, EK, EO, ER, ES, E1, HK, EW⟩ := hrel
    cases gk with
    | zero => exact absurd E1.out (by have := ES.out; omega)
    | succ k1 =>
      obtain rfl := EW.out
      clear EW
      by_cases d0 : 2 * rN + oN = 0
      · have d1 : decide (0 < op) = false := decide_eq_false (by rw [EO.out]; omega)
        have d2 : decide (0 < rest) = false := decide_eq_false (by rw [ER.out]; omega)
        have ht : t = T := by
          have := HK.out
          rw [show 2 * rN + oN = 0 from d0] at this
          simp only [brk] at this
          cases kN with
          | zero => simpa using this
          | succ m => simp at this
        subst ht
        clear d0
        go_wp2_with fail
        refine (HR.out _).mono ?_
        rintro e w5 ⟨rfl, hb⟩
        have HG := Aside0.mk ((hb.block w.heap.size (show w.heap.size < W0.heap.size from HS0.out)).trans (show (W0.drewN q').heap[w.heap.size]? = _ from HG0.out))
        have HB := Aside0.mk (below_step (pw_below_drewN HB0.out q') hb)
        have HL1 := Aside0.mk (show w.heap.size < w5.heap.size from Nat.lt_of_lt_of_le HS0.out (show W0.heap.size ≤ w5.heap.size from below_size (w := W0.drewN q') hb))
        clear hb HR HG0 HB0
        go_wp2_with (first | (refine wpList_store_row_halt rfl 24 _ _ rfl w5.heap.size C rfl rfl 24 (dia 0 (List.replicate 16 0)) (heap_alloc_new w5 _) HZ.out HZ0.out HO.out ?_))
        intro W hW
        have HK := Aside0.mk (show W.heap[w5.heap.size]? = some (.cells C 24 (0, 0)) by rw [hW.eq]; exact setRow_heap _ _ _ _ _ _ (heap_alloc_new w5 _))
        have HG2 := Aside0.mk (show W.heap[w.heap.size]? = some (.cells (dia 0 (List.replicate 16 0)) 24 (0, 0)) by
          rw [hW.eq, setRow_other _ _ _ _ (Nat.ne_of_lt HL1.out), heap_alloc_old _ _ HL1.out]
          exact HG.out)
        have HB2 := Aside0.mk (show Below w.heap.size w W by rw [hW.eq]; exact below_setRow (HB.out.alloc (below_size HB.out) _) (below_size HB.out))
        clear hW HG HB
        refine Halt.mk ?_
        go_wp2_with (first | (refine wpList_load_row rfl 24 _ rfl w5.heap.size rfl 24 C (0, 0) _ HK.out Try.underlying24 rfl HZ.out ?_) | (refine wpList_store_row rfl 24 _ _ rfl w.heap.size C rfl rfl 24 (dia 0 (List.replicate 16 0)) HG2.out HZ.out HZ0.out HO.out ?_))
        refine bodyPost_ret (results_ct rfl _ _ w.heap.size 24 C (0, 0) _ rfl (setRow_heap _ _ _ _ _ _ HG2.out) Try.underlying24 rfl HZ.out) rfl ⟨rfl, below_setRow HB2.out (Nat.le_refl _)⟩
      · obtain ⟨left, hleft⟩ : ∃ left, 2 * rN + oN = left + 1 := ⟨2 * rN + oN - 1, by omega⟩
        have HLF := Aside0.mk hleft
        have hk := HK.out
        rw [hleft] at hk
        have HK' := Aside0.mk hk
        clear hk HK d0 hleft
        have hsb : t.size ≤ 16 := by have := ES.out; have := HN.out; omega
        have c22b0 := eq_true (show t.size + 1 ≤ 9223372036854775807 by omega)
        have c22b1 : decide (t.size + 1 ≤ 9223372036854775807) = true := decide_eq_true (by omega)
        have c22b2 : (9223372036854775807 < t.size + 1) = False := eq_false (by omega)
        have HSB := Aside0.mk hsb
        clear hsb
        by_cases d2 : 0 < rest
        · have d2b : decide (0 < rest) = true := decide_eq_true d2
          have hop : (decide (0 < op)) = true ∨ (decide (0 < op)) = false := by cases decide (0 < op) <;> simp
          have HA := Aside0.mk (show ahead left oN t = (brk left (oN + 1) (t ++ ⟨#[40]⟩)).length by unfold ahead; rw [if_pos (by have := HLF.out; have := ER.out; omega)])
          have hwv := brk_ways left (oN + 1) (rN - 1) (t ++ ⟨#[40]⟩) 17 (by have := HLF.out; have := ER.out; omega) (by have := HLF.out; have := ES.out; have := HN.out; omega) (by have := HLF.out; have := ES.out; have := HN.out; omega)
          rw [← HA.out] at hwv
          have e1 : wrap64 (op + 1) = ((oN + 1 : Nat) : Int) := by rw [EO.out]; have := HLF.out; have := ES.out; have := HN.out; unfold wrap64; omega
          have e2 : wrap64 (rest - 1) = ((rN - 1 : Nat) : Int) := by rw [ER.out]; have := ER.out; have := HLF.out; have := ES.out; have := HN.out; unfold wrap64; omega
          rw [← e1, ← e2] at hwv
          have HW2 := Aside0.mk (fun W => spec_l01Ways.calls 17 _ _ _ W hwv)
          have HE1 := Aside0.mk e1
          have HE2 := Aside0.mk e2
          have HRP := Aside0.mk (show 0 < rN by have := ER.out; omega)
          clear hwv e1 e2 d2
          have HAB := Aside0.mk (show ahead left oN t ≤ 65536 by
            rw [HA.out]
            have := brk_len left (oN + 1) (t ++ ⟨#[40]⟩)
            have l3 : 2 ^ left ≤ 2 ^ 16 := Nat.pow_le_pow_right (by omega) (by have := HLF.out; have := ES.out; have := HN.out; omega)
            omega)
          have HKB := Aside0.mk (show kN ≤ 65536 by
            have := (List.getElem?_eq_some_iff.1 HK'.out).1
            have := brk_len (left + 1) oN t
            have l3 : 2 ^ (left + 1) ≤ 2 ^ 16 := Nat.pow_le_pow_right (by omega) (by have := HLF.out; have := ES.out; have := HN.out; omega)
            omega)
          by_cases d3 : kN < ahead left oN t
          · have d3b : decide (k < ((ahead left oN t : Nat) : Int)) = true := decide_eq_true (by rw [EK.out]; omega)
            have HN1 := Aside0.mk (brk_go_open HK'.out d3)
            clear d3
            rcases hop with d1 | d1
            · go_wp2_with fail
              refine (HW2.out _).mono ?_
              rintro e w5 ⟨rfl, ⟨q5, rfl⟩⟩
              go_wp2_with fail
              go_roundg k1
              case measure => have := E1.out; omega
              case rel => exact ⟨_, _, _, _, q' + q5, kN, oN + 1, rN - 1, rfl, rfl, rfl, rfl, EK, HE1, HE2, ⟨by rw [strCat]; have := HLF.out; have := ES.out; have := HRP.out; omega⟩, ⟨by rw [strCat]; have := E1.out; omega⟩, ⟨by have := HN1.out; have h_ := HLF.out; have := HRP.out; rw [show 2 * (rN - 1) + (oN + 1) = left by omega]; exact HN1.out⟩, ⟨by first | rfl | exact World.drewN_drewN _ _ _⟩⟩
            · go_wp2_with fail
              refine (HW2.out _).mono ?_
              rintro e w5 ⟨rfl, ⟨q5, rfl⟩⟩
              go_wp2_with fail
              go_roundg k1
              case measure => have := E1.out; omega
              case rel => exact ⟨_, _, _, _, q' + q5, kN, oN + 1, rN - 1, rfl, rfl, rfl, rfl, EK, HE1, HE2, ⟨by rw [strCat]; have := HLF.out; have := ES.out; have := HRP.out; omega⟩, ⟨by rw [strCat]; have := E1.out; omega⟩, ⟨by have := HN1.out; have h_ := HLF.out; have := HRP.out; rw [show 2 * (rN - 1) + (oN + 1) = left by omega]; exact HN1.out⟩, ⟨by first | rfl | exact World.drewN_drewN _ _ _⟩⟩
          · have d3b : decide (k < ((ahead left oN t : Nat) : Int)) = false := decide_eq_false (by rw [EK.out]; omega)
            have HN1 := Aside0.mk (brk_go_shut HK'.out d3)
            have hk3 := d3
            have d1 : decide (0 < op) = true := decide_eq_true (by have := HN1.out.1; have := EO.out; omega)
            clear d3
            have HE3 := Aside0.mk (show wrap64 (k - ((ahead left oN t : Nat) : Int)) = ((kN - ahead left oN t : Nat) : Int) by rw [EK.out]; have := HKB.out; unfold wrap64; omega)
            have HE4 := Aside0.mk (show wrap64 (op - 1) = ((oN - 1 : Nat) : Int) by rw [EO.out]; have := HN1.out.1; have := HLF.out; have := ES.out; have := HN.out; unfold wrap64; omega)
            clear hk3 hop
            go_wp2_with fail
            refine (HW2.out _).mono ?_
            rintro e w5 ⟨rfl, ⟨q5, rfl⟩⟩
            go_wp2_with fail
            go_roundg k1
            case measure => have := E1.out; omega
            case rel => exact ⟨_, _, _, _, q' + q5, kN - ahead left oN t, oN - 1, rN, rfl, rfl, rfl, rfl, HE3, HE4, ER, ⟨by rw [strCat]; have := HN1.out.1; have := HLF.out; have := ES.out; omega⟩, ⟨by rw [strCat]; have := E1.out; omega⟩, ⟨by have := HN1.out.2; have h_ := HLF.out; have := HN1.out.1; rw [show 2 * rN + (oN - 1) = left by omega]; exact HN1.out.2⟩, ⟨by first | rfl | exact World.drewN_drewN _ _ _⟩⟩
        · have d2b : decide (0 < rest) = false := decide_eq_false d2
          have hr0 : rN = 0 := by have := ER.out; omega
          have HA := Aside0.mk (show ahead left oN t = 0 by unfold ahead; rw [if_neg (by have := HLF.out; omega)])
          have HN1 := Aside0.mk (brk_go_shut HK'.out (by rw [HA.out]; omega))
          rw [HA.out] at HN1
          have d1 : decide (0 < op) = true := decide_eq_true (by have := HN1.out.1; have := EO.out; omega)
          have d3b : decide (k < 0) = false := decide_eq_false (by rw [EK.out]; omega)
          have HKB := Aside0.mk (show kN ≤ 65536 by
            have := (List.getElem?_eq_some_iff.1 HK'.out).1
            have := brk_len (left + 1) oN t
            have l3 : 2 ^ (left + 1) ≤ 2 ^ 16 := Nat.pow_le_pow_right (by omega) (by have := HLF.out; have := ES.out; have := HN.out; omega)
            omega)
          have HE3 := Aside0.mk (show wrap64 (k - 0) = ((kN : Nat) : Int) by rw [EK.out]; have := HKB.out; unfold wrap64; omega)
          have HE3b := Aside0.mk (show wrap64 k = ((kN : Nat) : Int) by rw [EK.out]; have := HKB.out; unfold wrap64; omega)
          have HE4 := Aside0.mk (show wrap64 (op - 1) = ((oN - 1 : Nat) : Int) by rw [EO.out]; have := HN1.out.1; have := HLF.out; have := ES.out; have := HN.out; unfold wrap64; omega)
          have HR0 := Aside0.mk hr0
          clear d2 hr0
          go_wp2_with fail
          go_roundg k1
          case measure => have := E1.out; omega
          case rel => exact ⟨_, _, _, _, q', kN, oN - 1, rN, rfl, rfl, rfl, rfl, (by first | exact EK | exact HE3 | exact HE3b), HE4, ER, ⟨by rw [strCat]; have := HN1.out.1; have := HLF.out; have := ES.out; omega⟩, ⟨by rw [strCat]; have := E1.out; omega⟩, ⟨by have h_ := HLF.out; have := HN1.out.1; rw [show 2 * rN + (oN - 1) = left by omega]; exact HN1.out.2⟩, ⟨by first | rfl | exact World.drewN_drewN _ _ _⟩⟩
end Go.Proofs.Ytdmipfmipjpegaa.Hand
