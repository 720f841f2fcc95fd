/- The walk of laws.FnExactAllDiagrams. No condition. -/
import Derived.Test.YtdmipfmipjpegaaHandAllDI
namespace Go.Proofs.Ytdmipfmipjpegaa.Hand
open Go.RowKit Go.Proofs.YtdmipfmipjpegaaW.PrintWords Go.Proofs.YtdmipfmipjpegaaW.PrintLast Go.Proofs.YtdmipfmipjpegaaW.PrintMore
set_option linter.unusedVariables false
set_option linter.unusedSimpArgs false

theorem eqS_nil (w : World) : Calls Try.prog 23 #[.slice none 0 0, .slice none 0 0] w fun e w' => e = .returned (.bool true) ∧ w' = w := by
  go_enter Try.func23, Try.ntmps23
  go_wp2
  go_loopg [5] 1 (fun kq v5 w' => v5 = .int .i64 0 ∧ w' = w)
  case atStart => exact ⟨rfl, rfl⟩
  case round =>
    obtain ⟨rfl, rfl⟩ := hrel
    go_wp2
    go_ret
    exact ⟨rfl, rfl⟩
theorem markS_nil (w : World) : Calls Try.prog 24 #[.slice none 0 0, .int .i64 1] w fun e w' => e = .returned (.int .i64 1) ∧ w' = w := by
  go_enter Try.func24, Try.ntmps24
  go_wp2
  go_loopg [1, 5] 1 (fun kq v1 v5 w' => v1 = .int .i64 1 ∧ v5 = .int .i64 0 ∧ w' = w)
  case atStart => exact ⟨rfl, rfl, rfl⟩
  case round =>
    obtain ⟨rfl, rfl, rfl⟩ := hrel
    go_wp2
    go_ret
    exact ⟨rfl, rfl⟩
theorem heldS_nil (w : World) : Calls Try.prog 25 #[.slice none 0 0, .int .i64 1] w fun e w' => e = .returned (.int .i64 1) ∧ w' = w := by
  go_enter Try.func25, Try.ntmps25
  go_wp2
  go_loopg [1, 5] 1 (fun kq v1 v5 w' => v1 = .int .i64 1 ∧ v5 = .int .i64 0 ∧ w' = w)
  case atStart => exact ⟨rfl, rfl, rfl⟩
  case round =>
    obtain ⟨rfl, rfl, rfl⟩ := hrel
    go_wp2
    go_ret
    exact ⟨rfl, rfl⟩
set_option maxHeartbeats 4000000 in
theorem lawAll_out (n : Int) (h : ¬(1 ≤ n ∧ n ≤ 6)) (w : World) :
    Calls Try.prog 8 #[.int .i64 n] w fun e w' => e = .returned (.bool true) ∧ Below w.heap.size w w' := by
  have HS := Aside0.mk (fun W => specAll_out n h W)
  have HI := Aside0.mk (fun W => implAll_out n h W)
  clear h
  go_enter Try.func8, Try.ntmps8
  go_wp2_with fail
  refine (HS.out _).mono ?_
  rintro e w1 ⟨rfl, hb1⟩
  have B1 := Aside0.mk hb1
  clear hb1 HS
  go_wp2_with fail
  refine (HI.out _).mono ?_
  rintro e w2 ⟨rfl, hb2⟩
  have B2 := Aside0.mk (below_step B1.out hb2)
  clear hb2 B1
  go_wp2_with fail
  refine (eqS_nil _).mono ?_
  rintro e w' ⟨rfl, rfl⟩
  go_wp2_with fail
  refine (markS_nil _).mono ?_
  rintro e w' ⟨rfl, rfl⟩
  go_wp2_with fail
  refine (heldS_nil _).mono ?_
  rintro e w' ⟨rfl, rfl⟩
  go_wp2_with fail
  refine (HI.out _).mono ?_
  rintro e w3 ⟨rfl, hb3⟩
  have B3 := Aside0.mk (below_step B2.out hb3)
  clear hb3 B2
  go_wp2_with fail
  refine (eqS_nil _).mono ?_
  rintro e w' ⟨rfl, rfl⟩
  go_wp2_with fail
  refine (heldS_nil _).mono ?_
  rintro e w' ⟨rfl, rfl⟩
  go_wp2
  go_ret
  exact ⟨rfl, B3.out⟩
set_option maxHeartbeats 4000000 in
theorem lawAll_in (N : Nat) (h1 : 1 ≤ N) (h3 : N ≤ 6) (w : World) :
    Calls Try.prog 8 #[.int .i64 (N : Int)] w fun e w' => e = .returned (.bool true) ∧ Below w.heap.size w w' := by
  have HS := Aside0.mk (fun W => specAll_in N h1 h3 W)
  have HI := Aside0.mk (fun W => implAll_in N h1 h3 W)
  have HP := Aside0.mk (show 0 < (allD N).length by rw [allD_len]; exact brk_pos h3)
  have HL := Aside0.mk (show (allD N).length ≤ 1000000 by rw [allD_len]; have := brk_few h3; omega)
  generalize allD N = xs at HS HI HP HL
  clear h1 h3
  go_enter Try.func8, Try.ntmps8
  go_wp2_with fail
  refine (HS.out _).mono ?_
  rintro e w1 ⟨v1, rfl, hr1, hb1⟩
  obtain ⟨g1, c1, cur1, rfl, hg1, hh1, hz1, hk1⟩ := row_of hr1 HP.out
  have G1 := Aside0.mk (And.intro hg1 (And.intro hh1 hk1))
  have B1 := Aside0.mk hb1
  have LT1 := Aside0.mk (show g1 < w1.heap.size from (Array.getElem?_eq_some_iff.1 hh1).1)
  clear hr1 hb1 HS hg1 hh1 hz1 hk1
  go_wp2_with fail
  refine (HI.out _).mono ?_
  rintro e w2 ⟨v2, rfl, hr2, hb2⟩
  obtain ⟨g2, c2, cur2, rfl, hg2, hh2, hz2, hk2⟩ := row_of hr2 HP.out
  have B2 := Aside0.mk (below_step B1.out hb2)
  have G1a := Aside0.mk (show w2.heap[g1]? = _ from (hb2.block g1 LT1.out).trans G1.out.2.1)
  have LT1b := Aside0.mk (show g1 < w2.heap.size from Nat.lt_of_lt_of_le LT1.out (below_size hb2))
  have NE := Aside0.mk (show g1 ≠ g2 by have := LT1.out; omega)
  have WG := Aside0.mk (show w.heap.size ≤ g2 from Nat.le_trans (below_size B1.out) hg2)
  have LT2 := Aside0.mk (show g2 < w2.heap.size from (Array.getElem?_eq_some_iff.1 hh2).1)
  have HE := Aside0.mk (eqS_calls xs HL.out g2 g1 c2 c1 cur2 cur1 w2 hh2 G1a.out hk2 G1.out.2.2)
  have H2 := Aside0.mk (And.intro hh2 hz2)
  clear hr2 hb2 B1 hg2 hh2 hz2 hk2
  go_wp2_with fail
  refine HE.out.mono ?_
  rintro e w3 ⟨rfl, hb3⟩
  have B3 := Aside0.mk (below_step B2.out hb3)
  have SZ3 := Aside0.mk (below_size hb3)
  have G1b := Aside0.mk (show w3.heap[g1]? = _ from (hb3.block g1 LT1b.out).trans G1a.out)
  have M0 := Aside0.mk (show Marks g2 0 cur2.size w3 from ⟨⟨cur2, (hb3.block g2 LT2.out).trans H2.out.1, rfl, fun p hp => absurd hp (Nat.not_lt_zero _)⟩⟩)
  clear hb3 HE B2 G1a
  go_wp2_with fail
  refine (markS_calls xs.length g2 c2 cur2.size HL.out H2.out.2 w3 M0.out).mono ?_
  rintro e w4 ⟨rfl, hm4, hx4⟩
  have M4 := Aside0.mk hm4
  have B4 := Aside0.mk (ext_below hx4 B3.out (below_size B3.out) WG.out (fun k hk => by cases hk))
  have G1c := Aside0.mk (show w4.heap[g1]? = _ from (hx4.block g1 (Nat.lt_of_lt_of_le LT1b.out SZ3.out) NE.out (by intro h; cases h)).trans G1b.out)
  clear hm4 hx4 M0 B3 G1b
  go_wp2_with fail
  refine (heldS_calls xs.length g2 c2 cur2.size HL.out w4 M4.out).mono ?_
  rintro e w4 ⟨rfl, rfl⟩
  go_wp2_with fail
  refine (HI.out _).mono ?_
  rintro e w5 ⟨v5, rfl, hr5, hb5⟩
  obtain ⟨g5, c5, cur5, rfl, hg5, hh5, hz5, hk5⟩ := row_of hr5 HP.out
  have B5 := Aside0.mk (below_step B4.out hb5)
  have LT4 := Aside0.mk (show g1 < w4.heap.size ∧ g2 < w4.heap.size from ⟨(Array.getElem?_eq_some_iff.1 G1c.out).1, by obtain ⟨cur, hg, _⟩ := M4.out; exact (Array.getElem?_eq_some_iff.1 hg).1⟩)
  have G1d := Aside0.mk (show w5.heap[g1]? = _ from (hb5.block g1 LT4.out.1).trans G1c.out)
  have M5 := Aside0.mk (M4.out.move (hb5.block g2 LT4.out.2))
  have LT5 := Aside0.mk (Nat.lt_of_lt_of_le LT4.out.2 (below_size hb5))
  have HE := Aside0.mk (eqS_calls xs HL.out g5 g1 c5 c1 cur5 cur1 w5 hh5 G1d.out hk5 G1.out.2.2)
  clear hr5 hb5 hg5 hh5 hz5 hk5 B4 M4 HI
  go_wp2_with fail
  refine HE.out.mono ?_
  rintro e w6 ⟨rfl, hb6⟩
  have B6 := Aside0.mk (below_step B5.out hb6)
  have M6 := Aside0.mk (M5.out.move (hb6.block g2 LT5.out))
  clear hb6 HE B5 M5
  go_wp2_with fail
  refine (heldS_calls xs.length g2 c2 cur2.size HL.out w6 M6.out).mono ?_
  rintro e w' ⟨rfl, rfl⟩
  go_wp2
  go_ret
  exact ⟨rfl, B6.out⟩
theorem lawAll_walk (n : Int) (w : World) : Calls Try.prog 8 #[.int .i64 n] w fun e w' => e = .returned (.bool true) ∧ Below w.heap.size w w' := by
  by_cases h : 1 ≤ n ∧ n ≤ 6
  · obtain ⟨N, rfl⟩ := Int.eq_ofNat_of_zero_le (show 0 ≤ n by omega)
    exact lawAll_in N (by omega) (by omega) w
  · exact lawAll_out n h w
end Go.Proofs.Ytdmipfmipjpegaa.Hand
