/- Contracts of impl.read and spec.l01Read for every text, and of both ParseDiagram. No condition. -/
import Derived.Test.YtdmipfmipjpegaaHandJoin
import Derived.Test.YtdmipfmipjpegaaHandPart
namespace Go.Proofs.Ytdmipfmipjpegaa.Hand
open Go.RowKit Go.Proofs.YtdmipfmipjpegaaW.PrintWords Go.Proofs.YtdmipfmipjpegaaW.PrintLast Go.Proofs.YtdmipfmipjpegaaW.PrintMore
set_option linter.unusedVariables false
set_option linter.unusedSimpArgs false

/-- What is read of a text: the size, the bytes, and whether it is the text of a diagram. -/
def readR (s : ByteArray) : Int × List Int × Bool :=
  if s.size % 2 = 0 ∧ 2 ≤ s.size ∧ s.size ≤ 16 then
    (if (readB (s.size / 2) (fun i => bt s (i : Int))).2 then ((s.size / 2 : Nat) : Int) else 0, (readB (s.size / 2) (fun i => bt s (i : Int))).1, (readB (s.size / 2) (fun i => bt s (i : Int))).2)
  else (0, List.replicate 16 0, false)
theorem readB_len (n : Nat) (t : Nat → Int) : (readB n t).1.length = 16 := by
  unfold readB
  split
  · rename_i b h
    exact (scan_ok _ _ _ _ _ h).1
  · simp
theorem readR_len (s : ByteArray) : (readR s).2.1.length = 16 := by
  unfold readR
  split
  · exact readB_len _ _
  · simp
theorem readB_false (n : Nat) (t : Nat → Int) (h : (readB n t).2 = false) : (readB n t).1 = List.replicate 16 0 := by
  unfold readB at *
  split
  · rename_i b h2
    rw [h2] at h
    simp at h
  · rfl
theorem readR_false (s : ByteArray) (h : (readR s).2.2 = false) : readR s = (0, List.replicate 16 0, false) := by
  unfold readR at *
  split
  · rename_i hc
    rw [if_pos hc] at h
    simp only at h
    rw [h, readB_false _ _ h]
    rfl
  · rfl
set_option maxHeartbeats 8000000 in
theorem sread_odd (a0 : ByteArray) (h : a0.size % 2 = 1) (w : World) :
    Calls Try.prog 36 #[.string a0] w fun e w' => e = .returned (.tuple #[.agg (dia 0 (List.replicate 16 0)), .bool false]) ∧ Below w.heap.size w w' := by
  have e2 : Int.tmod ((a0.size : Nat) : Int) 2 = 1 := by rw [Int.tmod_eq_emod_of_nonneg (by omega)]; omega
  clear h
  go_enter Try.func36, Try.ntmps36
  have HG := Aside0.mk (heap_alloc_new w (.cells (dia 0 (List.replicate 16 0)) 24))
  go_wp2_with (refine wpList_store_row rfl 24 _ _ rfl w.heap.size (dia 0 (List.replicate 16 0)) rfl rfl 24 (dia 0 (List.replicate 16 0)) HG.out sizeDia rfl (dia_one _ _) ?_)
  refine bodyPost_ret (results_arr rfl _ _ w.heap.size 24 (dia 0 (List.replicate 16 0)) rfl (setRow_heap _ _ _ _ _ _ HG.out) Try.underlying24 rfl sizeDia) rfl ⟨rfl, below_setRow ((Below.refl _ w).alloc (Nat.le_refl _) _) (Nat.le_refl _)⟩
set_option maxHeartbeats 8000000 in
theorem sread_far (a0 : ByteArray) (h : a0.size % 2 = 0) (h2 : ¬(2 ≤ a0.size ∧ a0.size ≤ 16)) (hsz : a0.size ≤ 140737488351232) (w : World) :
    Calls Try.prog 36 #[.string a0] w fun e w' => e = .returned (.tuple #[.agg (dia 0 (List.replicate 16 0)), .bool false]) ∧ Below w.heap.size w w' := by
  have HSZ := Aside0.mk hsz
  clear hsz
  have e2 : Int.tmod ((a0.size : Nat) : Int) 2 = 0 := by rw [Int.tmod_eq_emod_of_nonneg (by omega)]; omega
  obtain ⟨dn, e1⟩ : ∃ dn, Int.tdiv ((a0.size : Nat) : Int) 2 = dn := ⟨_, rfl⟩
  have hdn : ¬(1 ≤ dn ∧ dn ≤ 8) := by rw [← e1, Int.tdiv_eq_ediv_of_nonneg (by omega)]; omega
  have HI := Aside0.mk (fun W => sIn_calls dn 1 8 false (decide_eq_false hdn) W)
  have w1 : wrap64 dn = dn := by rw [← e1, Int.tdiv_eq_ediv_of_nonneg (by omega)]; have := HSZ.out; unfold wrap64; omega
  clear h h2 hdn
  go_enter Try.func36, Try.ntmps36
  go_wp2_with fail
  refine (HI.out _).mono ?_
  rintro e w0 ⟨rfl, ⟨q, rfl⟩⟩
  have HG := Aside0.mk (show ((w.alloc (.cells (dia 0 (List.replicate 16 0)) 24)).drewN q).heap[w.heap.size]? = some (.cells (dia 0 (List.replicate 16 0)) 24 (0, 0)) from heap_alloc_new w _)
  go_wp2_with (refine wpList_store_row rfl 24 _ _ rfl w.heap.size (dia 0 (List.replicate 16 0)) rfl rfl 24 (dia 0 (List.replicate 16 0)) HG.out sizeDia rfl (dia_one _ _) ?_)
  refine bodyPost_ret (results_arr rfl _ _ w.heap.size 24 (dia 0 (List.replicate 16 0)) rfl (setRow_heap _ _ _ _ _ _ HG.out) Try.underlying24 rfl sizeDia) rfl ⟨rfl, below_setRow (pw_below_drewN ((Below.refl _ w).alloc (Nat.le_refl _) _) q) (Nat.le_refl _)⟩
set_option maxHeartbeats 8000000 in
theorem gread_odd (a0 : ByteArray) (h : a0.size % 2 = 1) (w : World) :
    Calls Try.prog 37 #[.string a0] w fun e w' => e = .returned (.tuple #[.agg (dia 0 (List.replicate 16 0)), .bool false]) ∧ Below w.heap.size w w' := by
  have e2 : Int.tmod ((a0.size : Nat) : Int) 2 = 1 := by rw [Int.tmod_eq_emod_of_nonneg (by omega)]; omega
  clear h
  go_enter Try.func37, Try.ntmps37
  have HG := Aside0.mk (heap_alloc_new w (.cells (dia 0 (List.replicate 16 0)) 24))
  go_wp2_with (refine wpList_store_row rfl 24 _ _ rfl w.heap.size (dia 0 (List.replicate 16 0)) rfl rfl 24 (dia 0 (List.replicate 16 0)) HG.out sizeDia rfl (dia_one _ _) ?_)
  refine bodyPost_ret (results_arr rfl _ _ w.heap.size 24 (dia 0 (List.replicate 16 0)) rfl (setRow_heap _ _ _ _ _ _ HG.out) Try.underlying24 rfl sizeDia) rfl ⟨rfl, below_setRow ((Below.refl _ w).alloc (Nat.le_refl _) _) (Nat.le_refl _)⟩
set_option maxHeartbeats 8000000 in
theorem gread_far (a0 : ByteArray) (h : a0.size % 2 = 0) (h2 : ¬(2 ≤ a0.size ∧ a0.size ≤ 16)) (w : World) :
    Calls Try.prog 37 #[.string a0] w fun e w' => e = .returned (.tuple #[.agg (dia 0 (List.replicate 16 0)), .bool false]) ∧ Below w.heap.size w w' := by
  have e2 : Int.tmod ((a0.size : Nat) : Int) 2 = 0 := by rw [Int.tmod_eq_emod_of_nonneg (by omega)]; omega
  have HI := Aside0.mk (fun W => gIn_calls ((a0.size : Nat) : Int) 2 16 false (decide_eq_false (by omega)) W)
  clear h h2
  go_enter Try.func37, Try.ntmps37
  go_wp2_with fail
  refine (HI.out _).mono ?_
  rintro e w0 ⟨rfl, ⟨q, rfl⟩⟩
  have HG := Aside0.mk (show ((w.alloc (.cells (dia 0 (List.replicate 16 0)) 24)).drewN q).heap[w.heap.size]? = some (.cells (dia 0 (List.replicate 16 0)) 24 (0, 0)) from heap_alloc_new w _)
  go_wp2_with (refine wpList_store_row rfl 24 _ _ rfl w.heap.size (dia 0 (List.replicate 16 0)) rfl rfl 24 (dia 0 (List.replicate 16 0)) HG.out sizeDia rfl (dia_one _ _) ?_)
  refine bodyPost_ret (results_arr rfl _ _ w.heap.size 24 (dia 0 (List.replicate 16 0)) rfl (setRow_heap _ _ _ _ _ _ HG.out) Try.underlying24 rfl sizeDia) rfl ⟨rfl, below_setRow (pw_below_drewN ((Below.refl _ w).alloc (Nat.le_refl _) _) q) (Nat.le_refl _)⟩
set_option maxHeartbeats 8000000 in
theorem gread_no (a0 : ByteArray) (n : Nat) (h1 : 1 ≤ n) (h8 : n ≤ 8) (hs : a0.size = 2 * n) (l : List Int) (hf : fin (pscan a0.size (fun i => bt a0 (i : Int)) a0.size) = (l, false)) (w : World) :
    Calls Try.prog 37 #[.string a0] w fun e w' => e = .returned (.tuple #[.agg (dia 0 (List.replicate 16 0)), .bool false]) ∧ Below w.heap.size w w' := by
  have e2 : Int.tmod ((a0.size : Nat) : Int) 2 = 0 := by rw [Int.tmod_eq_emod_of_nonneg (by omega)]; omega
  have HI := Aside0.mk (fun W => gIn_calls ((a0.size : Nat) : Int) 2 16 true (decide_eq_true (by omega)) W)
  have HP := Aside0.mk (fun W => impl_partners.calls (a0.size + 1) a0 l false W (by rw [partners_f a0 (by omega), hf]))
  clear h1 h8 hs hf
  go_enter Try.func37, Try.ntmps37
  go_wp2_with fail
  refine (HI.out _).mono ?_
  rintro e w0 ⟨rfl, ⟨q, rfl⟩⟩
  go_wp2_with fail
  refine (HP.out _).mono ?_
  rintro e w1 ⟨v0, rfl, hr, hb⟩
  have HG := Aside0.mk ((hb.block w.heap.size (by simp)).trans (show ((w.alloc (.cells (dia 0 (List.replicate 16 0)) 24)).drewN q).heap[w.heap.size]? = some (.cells (dia 0 (List.replicate 16 0)) 24 (0, 0)) from heap_alloc_new w _))
  have HB := Aside0.mk (below_step (pw_below_drewN ((Below.refl _ w).alloc (Nat.le_refl _) _) q) hb)
  clear hr hb
  go_wp2_with (refine wpList_store_row rfl 24 _ _ rfl w.heap.size (dia 0 (List.replicate 16 0)) rfl rfl 24 (dia 0 (List.replicate 16 0)) HG.out sizeDia rfl (dia_one _ _) ?_)
  refine bodyPost_ret (results_arr rfl _ _ w.heap.size 24 (dia 0 (List.replicate 16 0)) rfl (setRow_heap _ _ _ _ _ _ HG.out) Try.underlying24 rfl sizeDia) rfl ⟨rfl, below_setRow HB.out (Nat.le_refl _)⟩
set_option maxHeartbeats 8000000 in
theorem gread_yes (a0 : ByteArray) (n : Nat) (h1 : 1 ≤ n) (h8 : n ≤ 8) (hs : a0.size = 2 * n) (p : List Nat) (hf : fin (pscan a0.size (fun i => bt a0 (i : Int)) a0.size) = (cN p, true)) (hl : p.length = 2 * n) (hp : ∀ j, p.getD j 0 < 2 * n) (w : World) :
    Calls Try.prog 37 #[.string a0] w fun e w' => e = .returned (.tuple #[.agg (dia n (jB n p (2 * n))), .bool true]) ∧ Below w.heap.size w w' := by
  have ew : wrap64 (n : Int) = (n : Int) := by unfold wrap64; omega
  have e0 : Int.tdiv ((a0.size : Nat) : Int) 2 = (n : Int) := by rw [Int.tdiv_eq_ediv_of_nonneg (by omega)]; omega
  have e2 : Int.tmod ((a0.size : Nat) : Int) 2 = 0 := by rw [Int.tmod_eq_emod_of_nonneg (by omega)]; omega
  have HI := Aside0.mk (fun W => gIn_calls ((a0.size : Nat) : Int) 2 16 true (decide_eq_true (by omega)) W)
  have HP := Aside0.mk (fun W => impl_partners.calls (a0.size + 1) a0 (cN p) true W (by rw [partners_f a0 (by omega), hf]))
  have HJ := Aside0.mk (fun A c W hr hc => joined_calls n h1 h8 A c (cN p) p (by rw [cN_len, hl]) (fun j _ => cN_rd p j) hp W hr hc)
  have HZ := Aside0.mk (show (Try.prog.info? 24).map (·.size) = some (dia (n : Int) (jB n p (2 * n))).size by rw [dia_size, jB_len]; exact sizeDia)
  have HZ0 := Aside0.mk (show (dia 0 (List.replicate 16 0)).size = (dia (n : Int) (jB n p (2 * n))).size by rw [dia_size, dia_size, jB_len]; rfl)
  clear h1 h8 hs hf hl hp
  go_enter Try.func37, Try.ntmps37
  go_wp2_with fail
  refine (HI.out _).mono ?_
  rintro e w0 ⟨rfl, ⟨q, rfl⟩⟩
  go_wp2_with fail
  refine (HP.out _).mono ?_
  rintro e w1 ⟨v0, rfl, hr, hb⟩
  have HG := Aside0.mk ((hb.block w.heap.size (by simp)).trans (show ((w.alloc (.cells (dia 0 (List.replicate 16 0)) 24)).drewN q).heap[w.heap.size]? = some (.cells (dia 0 (List.replicate 16 0)) 24 (0, 0)) from heap_alloc_new w _))
  have HB := Aside0.mk (below_step (pw_below_drewN ((Below.refl _ w).alloc (Nat.le_refl _) _) q) hb)
  have HL1 := Aside0.mk (show w.heap.size < w1.heap.size from Nat.lt_of_lt_of_le (by simp) (below_size hb))
  obtain ⟨A0, c0, rfl⟩ := Kd.R_slice hr
  have HR := Aside0.mk (Kd.R_reads' hr)
  clear hr hb
  go_wp2_with fail
  refine (HJ.out _ _ _ HR.out.2.2 HR.out.2.1).mono ?_
  rintro e w2 ⟨rfl, hb2⟩
  have HG2 := Aside0.mk ((hb2.block w.heap.size HL1.out).trans HG.out)
  have HB2 := Aside0.mk (below_step HB.out hb2)
  clear hb2 HR HJ HP
  go_wp2_with (refine wpList_store_row rfl 24 _ _ rfl w.heap.size (dia n (jB n p (2 * n))) rfl rfl 24 (dia 0 (List.replicate 16 0)) HG2.out HZ.out HZ0.out (dia_one _ _) ?_)
  refine bodyPost_ret (results_arr rfl _ _ w.heap.size 24 (dia n (jB n p (2 * n))) rfl (setRow_heap _ _ _ _ _ _ HG2.out) Try.underlying24 rfl HZ.out) rfl ⟨rfl, below_setRow HB2.out (Nat.le_refl _)⟩
theorem sread_calls (a0 : ByteArray) (hsz : a0.size ≤ 140737488351232) (w : World) :
    Calls Try.prog 36 #[.string a0] w fun e w' => e = .returned (.tuple #[.agg (dia (readR a0).1 (readR a0).2.1), .bool (readR a0).2.2]) ∧ Below w.heap.size w w' := by
  by_cases h : a0.size % 2 = 0
  · by_cases h2 : 2 ≤ a0.size ∧ a0.size ≤ 16
    · have e : a0.size = 2 * (a0.size / 2) := by omega
      have hR : readR a0 = (if (readB (a0.size / 2) (fun i => bt a0 (i : Int))).2 then ((a0.size / 2 : Nat) : Int) else 0, (readB (a0.size / 2) (fun i => bt a0 (i : Int))).1, (readB (a0.size / 2) (fun i => bt a0 (i : Int))).2) := by
        unfold readR
        rw [if_pos ⟨h, h2.1, h2.2⟩]
      rw [hR]
      exact sread_in a0 (a0.size / 2) (by omega) (by omega) e _ _ _ rfl rfl rfl w
    · rw [show readR a0 = (0, List.replicate 16 0, false) by unfold readR; rw [if_neg (fun hh => h2 ⟨hh.2.1, hh.2.2⟩)]]
      exact sread_far a0 h h2 hsz w
  · rw [show readR a0 = (0, List.replicate 16 0, false) by unfold readR; rw [if_neg (fun hh => h hh.1)]]
    exact sread_odd a0 (by omega) w
theorem gread_calls (a0 : ByteArray) (w : World) :
    Calls Try.prog 37 #[.string a0] w fun e w' => e = .returned (.tuple #[.agg (dia (readR a0).1 (readR a0).2.1), .bool (readR a0).2.2]) ∧ Below w.heap.size w w' := by
  by_cases h : a0.size % 2 = 0
  · by_cases h2 : 2 ≤ a0.size ∧ a0.size ≤ 16
    · obtain ⟨n, e⟩ : ∃ n, a0.size = 2 * n := ⟨a0.size / 2, by omega⟩
      have hn : a0.size / 2 = n := by omega
      have hR : readR a0 = (if (readB n (fun i => bt a0 (i : Int))).2 then (n : Int) else 0, (readB n (fun i => bt a0 (i : Int))).1, (readB n (fun i => bt a0 (i : Int))).2) := by
        unfold readR
        rw [if_pos ⟨h, h2.1, h2.2⟩, hn]
      rw [hR, read_same n (by omega) (by omega)]
      rcases both n (by omega) (fun i => bt a0 (i : Int)) (2 * n) (Nat.le_refl _) with ⟨g1, g2⟩ | ⟨b, p, st, g1, g2, hp, hb, hst, hrel, hz, hlow⟩
      · rw [g2]
        exact gread_no a0 n (by omega) (by omega) e [] (by rw [e, g2]; rfl) w
      · rw [g2]
        cases st with
        | nil => exact gread_yes a0 n (by omega) (by omega) e p (by rw [e, g2]; rfl) hp (fun j => (hlow j).resolve_right (by omega)) w
        | cons x l => exact gread_no a0 n (by omega) (by omega) e (cN p) (by rw [e, g2]; unfold fin; simp [cN]; omega) w
    · rw [show readR a0 = (0, List.replicate 16 0, false) by unfold readR; rw [if_neg (fun hh => h2 ⟨hh.2.1, hh.2.2⟩)]]
      exact gread_far a0 h h2 w
  · rw [show readR a0 = (0, List.replicate 16 0, false) by unfold readR; rw [if_neg (fun hh => h hh.1)]]
    exact gread_odd a0 (by omega) w
end Go.Proofs.Ytdmipfmipjpegaa.Hand
