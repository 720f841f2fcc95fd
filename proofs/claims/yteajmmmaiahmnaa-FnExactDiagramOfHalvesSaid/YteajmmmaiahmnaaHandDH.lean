/- Both DiagramOfHalves in their five cases, and the walk of laws.FnExactDiagramOfHalves. Conditions: said in the theorems. -/
import Derived.Test.YteajmmmaiahmnaaHandOfH
namespace Go.Proofs.Yteajmmmaiahmnaa.Hand
open Go.RowKit Go.Proofs.YteajmmmaiahmnaaW.PrintWords Go.Proofs.YteajmmmaiahmnaaW.PrintLast Go.Proofs.YteajmmmaiahmnaaW.PrintMore
set_option linter.unusedVariables false
set_option linter.unusedSimpArgs false

/-- A call that returns v and turns nothing that lay. -/
def Gives (f : FuncId) (args : Array Value) (v : Value) : Prop := ∀ W : World, Calls Try.prog f args W fun e w' => e = .returned v ∧ Below W.heap.size W w'
/-- A call that returns a slice of n cells and turns nothing that lay. -/
def GivesS (f : FuncId) (args : Array Value) (n : Nat) : Prop := ∀ W : World, Calls Try.prog f args W fun e w' => (∃ A c, e = .returned (.slice A n c)) ∧ Below W.heap.size W w'
theorem dia0_row (w : World) : (w.alloc (.cells (dia 0 (List.replicate 16 0)) 24)).heap[w.heap.size]? = some (.cells (dia 0 (List.replicate 16 0)) 24 (0, 0)) := heap_alloc_new _ _
set_option maxHeartbeats 4000000 in
theorem sdh1 (a0 a1 : ByteArray) (h0 : Gives 7 #[.string a0] (.bool false)) : Gives 4 #[.string a0, .string a1] (.tuple #[.agg (dia 0 (List.replicate 16 0)), .int .i64 1]) := by
  intro w
  have H0 := Aside0.mk h0
  clear h0
  have HG := Aside0.mk (dia0_row w)
  have HB := Aside0.mk ((Below.refl _ w).alloc (Nat.le_refl _) (.cells (dia 0 (List.replicate 16 0)) 24))
  have HL := Aside0.mk (show w.heap.size < (w.alloc (.cells (dia 0 (List.replicate 16 0)) 24)).heap.size by simp)
  go_enter Try.func4, Try.ntmps4
  go_wp2_with fail
  refine (H0.out _).mono ?_
  rintro e w1 ⟨rfl, hb⟩
  have HG := Aside0.mk ((hb.block w.heap.size HL.out).trans HG.out)
  have HL := Aside0.mk (Nat.lt_of_lt_of_le HL.out (below_size hb))
  have HB := Aside0.mk (below_step HB.out hb)
  clear hb
  go_wp2_with (refine wpList_store_row rfl 24 _ _ rfl w.heap.size (dia 0 (List.replicate 16 0)) rfl rfl 24 (dia 0 (List.replicate 16 0)) HG.out sizeDia rfl (dia_one _ _) ?_)
  refine bodyPost_ret (results_ct rfl _ _ w.heap.size 24 (dia 0 (List.replicate 16 0)) (0, 0) _ rfl (setRow_heap _ _ _ _ _ _ HG.out) Try.underlying24 rfl sizeDia) rfl ⟨rfl, below_setRow HB.out (Nat.le_refl _)⟩
set_option maxHeartbeats 4000000 in
theorem sdh2 (a0 a1 : ByteArray) (h0 : Gives 7 #[.string a0] (.bool true)) (h1 : Gives 7 #[.string a1] (.bool false)) : Gives 4 #[.string a0, .string a1] (.tuple #[.agg (dia 0 (List.replicate 16 0)), .int .i64 1]) := by
  intro w
  have H0 := Aside0.mk h0
  have H1 := Aside0.mk h1
  clear h0 h1
  have HG := Aside0.mk (dia0_row w)
  have HB := Aside0.mk ((Below.refl _ w).alloc (Nat.le_refl _) (.cells (dia 0 (List.replicate 16 0)) 24))
  have HL := Aside0.mk (show w.heap.size < (w.alloc (.cells (dia 0 (List.replicate 16 0)) 24)).heap.size by simp)
  go_enter Try.func4, Try.ntmps4
  go_wp2_with fail
  refine (H0.out _).mono ?_
  rintro e w1 ⟨rfl, hb⟩
  have HG := Aside0.mk ((hb.block w.heap.size HL.out).trans HG.out)
  have HL := Aside0.mk (Nat.lt_of_lt_of_le HL.out (below_size hb))
  have HB := Aside0.mk (below_step HB.out hb)
  clear hb
  go_wp2_with fail
  refine (H1.out _).mono ?_
  rintro e w2 ⟨rfl, hb⟩
  have HG := Aside0.mk ((hb.block w.heap.size HL.out).trans HG.out)
  have HL := Aside0.mk (Nat.lt_of_lt_of_le HL.out (below_size hb))
  have HB := Aside0.mk (below_step HB.out hb)
  clear hb
  go_wp2_with (refine wpList_store_row rfl 24 _ _ rfl w.heap.size (dia 0 (List.replicate 16 0)) rfl rfl 24 (dia 0 (List.replicate 16 0)) HG.out sizeDia rfl (dia_one _ _) ?_)
  refine bodyPost_ret (results_ct rfl _ _ w.heap.size 24 (dia 0 (List.replicate 16 0)) (0, 0) _ rfl (setRow_heap _ _ _ _ _ _ HG.out) Try.underlying24 rfl sizeDia) rfl ⟨rfl, below_setRow HB.out (Nat.le_refl _)⟩
set_option maxHeartbeats 4000000 in
theorem sdh3 (a0 a1 : ByteArray) (h0 : Gives 7 #[.string a0] (.bool true)) (h1 : Gives 7 #[.string a1] (.bool true)) (hne : a0.size ≠ a1.size) : Gives 4 #[.string a0, .string a1] (.tuple #[.agg (dia 0 (List.replicate 16 0)), .int .i64 2]) := by
  intro w
  have H0 := Aside0.mk h0
  have H1 := Aside0.mk h1
  have c1 : ((a0.size : Int) != (a1.size : Int)) = true := by rw [bne_iff_ne]; omega
  have c1b : ((a0.size : Int) == (a1.size : Int)) = false := by rw [beq_eq_false_iff_ne]; omega
  have c1c : (a0.size == a1.size) = false := by rw [beq_eq_false_iff_ne]; exact hne
  have c1d : (a0.size != a1.size) = true := by rw [bne_iff_ne]; exact hne
  clear h0 h1 hne
  have HG := Aside0.mk (dia0_row w)
  have HB := Aside0.mk ((Below.refl _ w).alloc (Nat.le_refl _) (.cells (dia 0 (List.replicate 16 0)) 24))
  have HL := Aside0.mk (show w.heap.size < (w.alloc (.cells (dia 0 (List.replicate 16 0)) 24)).heap.size by simp)
  go_enter Try.func4, Try.ntmps4
  go_wp2_with fail
  refine (H0.out _).mono ?_
  rintro e w1 ⟨rfl, hb⟩
  have HG := Aside0.mk ((hb.block w.heap.size HL.out).trans HG.out)
  have HL := Aside0.mk (Nat.lt_of_lt_of_le HL.out (below_size hb))
  have HB := Aside0.mk (below_step HB.out hb)
  clear hb
  go_wp2_with fail
  refine (H1.out _).mono ?_
  rintro e w2 ⟨rfl, hb⟩
  have HG := Aside0.mk ((hb.block w.heap.size HL.out).trans HG.out)
  have HL := Aside0.mk (Nat.lt_of_lt_of_le HL.out (below_size hb))
  have HB := Aside0.mk (below_step HB.out hb)
  clear hb
  go_wp2_with (refine wpList_store_row rfl 24 _ _ rfl w.heap.size (dia 0 (List.replicate 16 0)) rfl rfl 24 (dia 0 (List.replicate 16 0)) HG.out sizeDia rfl (dia_one _ _) ?_)
  refine bodyPost_ret (results_ct rfl _ _ w.heap.size 24 (dia 0 (List.replicate 16 0)) (0, 0) _ rfl (setRow_heap _ _ _ _ _ _ HG.out) Try.underlying24 rfl sizeDia) rfl ⟨rfl, below_setRow HB.out (Nat.le_refl _)⟩
set_option maxHeartbeats 4000000 in
theorem sdh4 (a0 a1 : ByteArray) (h0 : Gives 7 #[.string a0] (.bool true)) (h1 : Gives 7 #[.string a1] (.bool true)) (heq : a0.size = a1.size) (t0 t1 : Int) (h2 : Gives 8 #[.string a0] (.int .i64 t0)) (h3 : Gives 8 #[.string a1] (.int .i64 t1)) (ht : t0 ≠ t1) : Gives 4 #[.string a0, .string a1] (.tuple #[.agg (dia 0 (List.replicate 16 0)), .int .i64 2]) := by
  intro w
  have H0 := Aside0.mk h0
  have H1 := Aside0.mk h1
  have H2 := Aside0.mk h2
  have H3 := Aside0.mk h3
  obtain ⟨Z, hZ⟩ : ∃ Z, a1.size = Z := ⟨_, rfl⟩
  have hi0 : (a0.size : Int) = (Z : Int) := by omega
  have hi1 : (a1.size : Int) = (Z : Int) := by omega
  have c2 : (((t0 : Int)) != (t1 : Int)) = true := by rw [bne_iff_ne]; omega
  have c2b : ((t0 : Int) == (t1 : Int)) = false := by rw [beq_eq_false_iff_ne]; omega
  clear h0 h1 h2 h3 heq hZ ht
  have HG := Aside0.mk (dia0_row w)
  have HB := Aside0.mk ((Below.refl _ w).alloc (Nat.le_refl _) (.cells (dia 0 (List.replicate 16 0)) 24))
  have HL := Aside0.mk (show w.heap.size < (w.alloc (.cells (dia 0 (List.replicate 16 0)) 24)).heap.size by simp)
  go_enter Try.func4, Try.ntmps4
  go_wp2_with fail
  refine (H0.out _).mono ?_
  rintro e w1 ⟨rfl, hb⟩
  have HG := Aside0.mk ((hb.block w.heap.size HL.out).trans HG.out)
  have HL := Aside0.mk (Nat.lt_of_lt_of_le HL.out (below_size hb))
  have HB := Aside0.mk (below_step HB.out hb)
  clear hb
  go_wp2_with fail
  refine (H1.out _).mono ?_
  rintro e w2 ⟨rfl, hb⟩
  have HG := Aside0.mk ((hb.block w.heap.size HL.out).trans HG.out)
  have HL := Aside0.mk (Nat.lt_of_lt_of_le HL.out (below_size hb))
  have HB := Aside0.mk (below_step HB.out hb)
  clear hb
  go_wp2_with fail
  refine (H2.out _).mono ?_
  rintro e w3 ⟨rfl, hb⟩
  have HG := Aside0.mk ((hb.block w.heap.size HL.out).trans HG.out)
  have HL := Aside0.mk (Nat.lt_of_lt_of_le HL.out (below_size hb))
  have HB := Aside0.mk (below_step HB.out hb)
  clear hb
  go_wp2_with fail
  refine (H3.out _).mono ?_
  rintro e w4 ⟨rfl, hb⟩
  have HG := Aside0.mk ((hb.block w.heap.size HL.out).trans HG.out)
  have HL := Aside0.mk (Nat.lt_of_lt_of_le HL.out (below_size hb))
  have HB := Aside0.mk (below_step HB.out hb)
  clear hb
  go_wp2_with (refine wpList_store_row rfl 24 _ _ rfl w.heap.size (dia 0 (List.replicate 16 0)) rfl rfl 24 (dia 0 (List.replicate 16 0)) HG.out sizeDia rfl (dia_one _ _) ?_)
  refine bodyPost_ret (results_ct rfl _ _ w.heap.size 24 (dia 0 (List.replicate 16 0)) (0, 0) _ rfl (setRow_heap _ _ _ _ _ _ HG.out) Try.underlying24 rfl sizeDia) rfl ⟨rfl, below_setRow HB.out (Nat.le_refl _)⟩
set_option maxHeartbeats 4000000 in
theorem sdh5 (a0 a1 : ByteArray) (h0 : Gives 7 #[.string a0] (.bool true)) (h1 : Gives 7 #[.string a1] (.bool true)) (heq : a0.size = a1.size) (t0 t1 : Int) (h2 : Gives 8 #[.string a0] (.int .i64 t0)) (h3 : Gives 8 #[.string a1] (.int .i64 t1)) (ht : t0 = t1) (m : Int) (b : List Int) (hb : b.length = 16) (h4 : Gives 9 #[.string a0, .string a1] (.agg (dia m b))) : Gives 4 #[.string a0, .string a1] (.tuple #[.agg (dia m b), .int .i64 0]) := by
  intro w
  have H0 := Aside0.mk h0
  have H1 := Aside0.mk h1
  have H2 := Aside0.mk h2
  have H3 := Aside0.mk h3
  obtain ⟨Z, hZ⟩ : ∃ Z, a1.size = Z := ⟨_, rfl⟩
  have hi0 : (a0.size : Int) = (Z : Int) := by omega
  have hi1 : (a1.size : Int) = (Z : Int) := by omega
  subst ht
  have H4 := Aside0.mk h4
  have HZ := Aside0.mk (show (Try.prog.info? 24).map (·.size) = some (dia m b).size by rw [dia_size, hb]; exact sizeDia)
  have HZ0 := Aside0.mk (show (dia 0 (List.replicate 16 0)).size = (dia m b).size by rw [dia_size, dia_size, hb]; rfl)
  have HO := Aside0.mk (dia_one m b)
  generalize dia m b = C at H4 HZ HZ0 HO ⊢
  clear h0 h1 h2 h3 heq hZ h4 hb
  have HG := Aside0.mk (dia0_row w)
  have HB := Aside0.mk ((Below.refl _ w).alloc (Nat.le_refl _) (.cells (dia 0 (List.replicate 16 0)) 24))
  have HL := Aside0.mk (show w.heap.size < (w.alloc (.cells (dia 0 (List.replicate 16 0)) 24)).heap.size by simp)
  go_enter Try.func4, Try.ntmps4
  go_wp2_with fail
  refine (H0.out _).mono ?_
  rintro e w1 ⟨rfl, hb⟩
  have HG := Aside0.mk ((hb.block w.heap.size HL.out).trans HG.out)
  have HL := Aside0.mk (Nat.lt_of_lt_of_le HL.out (below_size hb))
  have HB := Aside0.mk (below_step HB.out hb)
  clear hb
  go_wp2_with fail
  refine (H1.out _).mono ?_
  rintro e w2 ⟨rfl, hb⟩
  have HG := Aside0.mk ((hb.block w.heap.size HL.out).trans HG.out)
  have HL := Aside0.mk (Nat.lt_of_lt_of_le HL.out (below_size hb))
  have HB := Aside0.mk (below_step HB.out hb)
  clear hb
  go_wp2_with fail
  refine (H2.out _).mono ?_
  rintro e w3 ⟨rfl, hb⟩
  have HG := Aside0.mk ((hb.block w.heap.size HL.out).trans HG.out)
  have HL := Aside0.mk (Nat.lt_of_lt_of_le HL.out (below_size hb))
  have HB := Aside0.mk (below_step HB.out hb)
  clear hb
  go_wp2_with fail
  refine (H3.out _).mono ?_
  rintro e w4 ⟨rfl, hb⟩
  have HG := Aside0.mk ((hb.block w.heap.size HL.out).trans HG.out)
  have HL := Aside0.mk (Nat.lt_of_lt_of_le HL.out (below_size hb))
  have HB := Aside0.mk (below_step HB.out hb)
  clear hb
  go_wp2_with fail
  refine (H4.out _).mono ?_
  rintro e w5 ⟨rfl, hb⟩
  have HG := Aside0.mk ((hb.block w.heap.size HL.out).trans HG.out)
  have HL := Aside0.mk (Nat.lt_of_lt_of_le HL.out (below_size hb))
  have HB := Aside0.mk (below_step HB.out hb)
  clear hb
  go_wp2_with (refine wpList_store_row rfl 24 _ _ rfl w.heap.size C rfl rfl 24 (dia 0 (List.replicate 16 0)) HG.out HZ.out HZ0.out HO.out ?_)
  refine bodyPost_ret (results_ct rfl _ _ w.heap.size 24 C (0, 0) _ rfl (setRow_heap _ _ _ _ _ _ HG.out) Try.underlying24 rfl HZ.out) rfl ⟨rfl, below_setRow HB.out (Nat.le_refl _)⟩
set_option maxHeartbeats 4000000 in
theorem idh1 (a0 a1 : ByteArray) (h0 : Gives 10 #[.string a0] (.bool false)) : Gives 5 #[.string a0, .string a1] (.tuple #[.agg (dia 0 (List.replicate 16 0)), .int .i64 1]) := by
  intro w
  have H0 := Aside0.mk h0
  clear h0
  have HG := Aside0.mk (dia0_row w)
  have HB := Aside0.mk ((Below.refl _ w).alloc (Nat.le_refl _) (.cells (dia 0 (List.replicate 16 0)) 24))
  have HL := Aside0.mk (show w.heap.size < (w.alloc (.cells (dia 0 (List.replicate 16 0)) 24)).heap.size by simp)
  go_enter Try.func5, Try.ntmps5
  go_wp2_with fail
  refine (H0.out _).mono ?_
  rintro e w1 ⟨rfl, hb⟩
  have HG := Aside0.mk ((hb.block w.heap.size HL.out).trans HG.out)
  have HL := Aside0.mk (Nat.lt_of_lt_of_le HL.out (below_size hb))
  have HB := Aside0.mk (below_step HB.out hb)
  clear hb
  go_wp2_with (refine wpList_store_row rfl 24 _ _ rfl w.heap.size (dia 0 (List.replicate 16 0)) rfl rfl 24 (dia 0 (List.replicate 16 0)) HG.out sizeDia rfl (dia_one _ _) ?_)
  refine bodyPost_ret (results_ct rfl _ _ w.heap.size 24 (dia 0 (List.replicate 16 0)) (0, 0) _ rfl (setRow_heap _ _ _ _ _ _ HG.out) Try.underlying24 rfl sizeDia) rfl ⟨rfl, below_setRow HB.out (Nat.le_refl _)⟩
set_option maxHeartbeats 4000000 in
theorem idh2 (a0 a1 : ByteArray) (h0 : Gives 10 #[.string a0] (.bool true)) (h1 : Gives 10 #[.string a1] (.bool false)) : Gives 5 #[.string a0, .string a1] (.tuple #[.agg (dia 0 (List.replicate 16 0)), .int .i64 1]) := by
  intro w
  have H0 := Aside0.mk h0
  have H1 := Aside0.mk h1
  clear h0 h1
  have HG := Aside0.mk (dia0_row w)
  have HB := Aside0.mk ((Below.refl _ w).alloc (Nat.le_refl _) (.cells (dia 0 (List.replicate 16 0)) 24))
  have HL := Aside0.mk (show w.heap.size < (w.alloc (.cells (dia 0 (List.replicate 16 0)) 24)).heap.size by simp)
  go_enter Try.func5, Try.ntmps5
  go_wp2_with fail
  refine (H0.out _).mono ?_
  rintro e w1 ⟨rfl, hb⟩
  have HG := Aside0.mk ((hb.block w.heap.size HL.out).trans HG.out)
  have HL := Aside0.mk (Nat.lt_of_lt_of_le HL.out (below_size hb))
  have HB := Aside0.mk (below_step HB.out hb)
  clear hb
  go_wp2_with fail
  refine (H1.out _).mono ?_
  rintro e w2 ⟨rfl, hb⟩
  have HG := Aside0.mk ((hb.block w.heap.size HL.out).trans HG.out)
  have HL := Aside0.mk (Nat.lt_of_lt_of_le HL.out (below_size hb))
  have HB := Aside0.mk (below_step HB.out hb)
  clear hb
  go_wp2_with (refine wpList_store_row rfl 24 _ _ rfl w.heap.size (dia 0 (List.replicate 16 0)) rfl rfl 24 (dia 0 (List.replicate 16 0)) HG.out sizeDia rfl (dia_one _ _) ?_)
  refine bodyPost_ret (results_ct rfl _ _ w.heap.size 24 (dia 0 (List.replicate 16 0)) (0, 0) _ rfl (setRow_heap _ _ _ _ _ _ HG.out) Try.underlying24 rfl sizeDia) rfl ⟨rfl, below_setRow HB.out (Nat.le_refl _)⟩
set_option maxHeartbeats 4000000 in
theorem idh3 (a0 a1 : ByteArray) (h0 : Gives 10 #[.string a0] (.bool true)) (h1 : Gives 10 #[.string a1] (.bool true)) (hne : a0.size ≠ a1.size) : Gives 5 #[.string a0, .string a1] (.tuple #[.agg (dia 0 (List.replicate 16 0)), .int .i64 2]) := by
  intro w
  have H0 := Aside0.mk h0
  have H1 := Aside0.mk h1
  have c1 : ((a0.size : Int) != (a1.size : Int)) = true := by rw [bne_iff_ne]; omega
  have c1b : ((a0.size : Int) == (a1.size : Int)) = false := by rw [beq_eq_false_iff_ne]; omega
  have c1c : (a0.size == a1.size) = false := by rw [beq_eq_false_iff_ne]; exact hne
  have c1d : (a0.size != a1.size) = true := by rw [bne_iff_ne]; exact hne
  clear h0 h1 hne
  have HG := Aside0.mk (dia0_row w)
  have HB := Aside0.mk ((Below.refl _ w).alloc (Nat.le_refl _) (.cells (dia 0 (List.replicate 16 0)) 24))
  have HL := Aside0.mk (show w.heap.size < (w.alloc (.cells (dia 0 (List.replicate 16 0)) 24)).heap.size by simp)
  go_enter Try.func5, Try.ntmps5
  go_wp2_with fail
  refine (H0.out _).mono ?_
  rintro e w1 ⟨rfl, hb⟩
  have HG := Aside0.mk ((hb.block w.heap.size HL.out).trans HG.out)
  have HL := Aside0.mk (Nat.lt_of_lt_of_le HL.out (below_size hb))
  have HB := Aside0.mk (below_step HB.out hb)
  clear hb
  go_wp2_with fail
  refine (H1.out _).mono ?_
  rintro e w2 ⟨rfl, hb⟩
  have HG := Aside0.mk ((hb.block w.heap.size HL.out).trans HG.out)
  have HL := Aside0.mk (Nat.lt_of_lt_of_le HL.out (below_size hb))
  have HB := Aside0.mk (below_step HB.out hb)
  clear hb
  go_wp2_with (refine wpList_store_row rfl 24 _ _ rfl w.heap.size (dia 0 (List.replicate 16 0)) rfl rfl 24 (dia 0 (List.replicate 16 0)) HG.out sizeDia rfl (dia_one _ _) ?_)
  refine bodyPost_ret (results_ct rfl _ _ w.heap.size 24 (dia 0 (List.replicate 16 0)) (0, 0) _ rfl (setRow_heap _ _ _ _ _ _ HG.out) Try.underlying24 rfl sizeDia) rfl ⟨rfl, below_setRow HB.out (Nat.le_refl _)⟩
set_option maxHeartbeats 4000000 in
theorem idh4 (a0 a1 : ByteArray) (h0 : Gives 10 #[.string a0] (.bool true)) (h1 : Gives 10 #[.string a1] (.bool true)) (heq : a0.size = a1.size) (t0 t1 : Nat) (h2 : GivesS 11 #[.string a0] t0) (h3 : GivesS 11 #[.string a1] t1) (ht : t0 ≠ t1) : Gives 5 #[.string a0, .string a1] (.tuple #[.agg (dia 0 (List.replicate 16 0)), .int .i64 2]) := by
  intro w
  have H0 := Aside0.mk h0
  have H1 := Aside0.mk h1
  have H2 := Aside0.mk h2
  have H3 := Aside0.mk h3
  obtain ⟨Z, hZ⟩ : ∃ Z, a1.size = Z := ⟨_, rfl⟩
  have hi0 : (a0.size : Int) = (Z : Int) := by omega
  have hi1 : (a1.size : Int) = (Z : Int) := by omega
  have c2 : (((t0 : Int)) != (t1 : Int)) = true := by rw [bne_iff_ne]; omega
  have c2b : ((t0 : Int) == (t1 : Int)) = false := by rw [beq_eq_false_iff_ne]; omega
  have c2c : (t0 == t1) = false := by rw [beq_eq_false_iff_ne]; exact ht
  have c2d : (t0 != t1) = true := by rw [bne_iff_ne]; exact ht
  clear h0 h1 h2 h3 heq hZ ht
  have HG := Aside0.mk (dia0_row w)
  have HB := Aside0.mk ((Below.refl _ w).alloc (Nat.le_refl _) (.cells (dia 0 (List.replicate 16 0)) 24))
  have HL := Aside0.mk (show w.heap.size < (w.alloc (.cells (dia 0 (List.replicate 16 0)) 24)).heap.size by simp)
  go_enter Try.func5, Try.ntmps5
  go_wp2_with fail
  refine (H0.out _).mono ?_
  rintro e w1 ⟨rfl, hb⟩
  have HG := Aside0.mk ((hb.block w.heap.size HL.out).trans HG.out)
  have HL := Aside0.mk (Nat.lt_of_lt_of_le HL.out (below_size hb))
  have HB := Aside0.mk (below_step HB.out hb)
  clear hb
  go_wp2_with fail
  refine (H1.out _).mono ?_
  rintro e w2 ⟨rfl, hb⟩
  have HG := Aside0.mk ((hb.block w.heap.size HL.out).trans HG.out)
  have HL := Aside0.mk (Nat.lt_of_lt_of_le HL.out (below_size hb))
  have HB := Aside0.mk (below_step HB.out hb)
  clear hb
  go_wp2_with fail
  refine (H2.out _).mono ?_
  rintro e w3 ⟨⟨A2, k2, rfl⟩, hb⟩
  have HG := Aside0.mk ((hb.block w.heap.size HL.out).trans HG.out)
  have HL := Aside0.mk (Nat.lt_of_lt_of_le HL.out (below_size hb))
  have HB := Aside0.mk (below_step HB.out hb)
  clear hb
  go_wp2_with fail
  refine (H3.out _).mono ?_
  rintro e w4 ⟨⟨A3, k3, rfl⟩, hb⟩
  have HG := Aside0.mk ((hb.block w.heap.size HL.out).trans HG.out)
  have HL := Aside0.mk (Nat.lt_of_lt_of_le HL.out (below_size hb))
  have HB := Aside0.mk (below_step HB.out hb)
  clear hb
  go_wp2_with (refine wpList_store_row rfl 24 _ _ rfl w.heap.size (dia 0 (List.replicate 16 0)) rfl rfl 24 (dia 0 (List.replicate 16 0)) HG.out sizeDia rfl (dia_one _ _) ?_)
  refine bodyPost_ret (results_ct rfl _ _ w.heap.size 24 (dia 0 (List.replicate 16 0)) (0, 0) _ rfl (setRow_heap _ _ _ _ _ _ HG.out) Try.underlying24 rfl sizeDia) rfl ⟨rfl, below_setRow HB.out (Nat.le_refl _)⟩
set_option maxHeartbeats 4000000 in
theorem idh5 (a0 a1 : ByteArray) (h0 : Gives 10 #[.string a0] (.bool true)) (h1 : Gives 10 #[.string a1] (.bool true)) (heq : a0.size = a1.size) (t0 t1 : Nat) (h2 : GivesS 11 #[.string a0] t0) (h3 : GivesS 11 #[.string a1] t1) (ht : t0 = t1) (m : Int) (b : List Int) (hb : b.length = 16) (h4 : Gives 12 #[.string a0, .string a1] (.agg (dia m b))) : Gives 5 #[.string a0, .string a1] (.tuple #[.agg (dia m b), .int .i64 0]) := by
  intro w
  have H0 := Aside0.mk h0
  have H1 := Aside0.mk h1
  have H2 := Aside0.mk h2
  have H3 := Aside0.mk h3
  obtain ⟨Z, hZ⟩ : ∃ Z, a1.size = Z := ⟨_, rfl⟩
  have hi0 : (a0.size : Int) = (Z : Int) := by omega
  have hi1 : (a1.size : Int) = (Z : Int) := by omega
  subst ht
  have H4 := Aside0.mk h4
  have HZ := Aside0.mk (show (Try.prog.info? 24).map (·.size) = some (dia m b).size by rw [dia_size, hb]; exact sizeDia)
  have HZ0 := Aside0.mk (show (dia 0 (List.replicate 16 0)).size = (dia m b).size by rw [dia_size, dia_size, hb]; rfl)
  have HO := Aside0.mk (dia_one m b)
  generalize dia m b = C at H4 HZ HZ0 HO ⊢
  clear h0 h1 h2 h3 heq hZ h4 hb
  have HG := Aside0.mk (dia0_row w)
  have HB := Aside0.mk ((Below.refl _ w).alloc (Nat.le_refl _) (.cells (dia 0 (List.replicate 16 0)) 24))
  have HL := Aside0.mk (show w.heap.size < (w.alloc (.cells (dia 0 (List.replicate 16 0)) 24)).heap.size by simp)
  go_enter Try.func5, Try.ntmps5
  go_wp2_with fail
  refine (H0.out _).mono ?_
  rintro e w1 ⟨rfl, hb⟩
  have HG := Aside0.mk ((hb.block w.heap.size HL.out).trans HG.out)
  have HL := Aside0.mk (Nat.lt_of_lt_of_le HL.out (below_size hb))
  have HB := Aside0.mk (below_step HB.out hb)
  clear hb
  go_wp2_with fail
  refine (H1.out _).mono ?_
  rintro e w2 ⟨rfl, hb⟩
  have HG := Aside0.mk ((hb.block w.heap.size HL.out).trans HG.out)
  have HL := Aside0.mk (Nat.lt_of_lt_of_le HL.out (below_size hb))
  have HB := Aside0.mk (below_step HB.out hb)
  clear hb
  go_wp2_with fail
  refine (H2.out _).mono ?_
  rintro e w3 ⟨⟨A2, k2, rfl⟩, hb⟩
  have HG := Aside0.mk ((hb.block w.heap.size HL.out).trans HG.out)
  have HL := Aside0.mk (Nat.lt_of_lt_of_le HL.out (below_size hb))
  have HB := Aside0.mk (below_step HB.out hb)
  clear hb
  go_wp2_with fail
  refine (H3.out _).mono ?_
  rintro e w4 ⟨⟨A3, k3, rfl⟩, hb⟩
  have HG := Aside0.mk ((hb.block w.heap.size HL.out).trans HG.out)
  have HL := Aside0.mk (Nat.lt_of_lt_of_le HL.out (below_size hb))
  have HB := Aside0.mk (below_step HB.out hb)
  clear hb
  go_wp2_with fail
  refine (H4.out _).mono ?_
  rintro e w5 ⟨rfl, hb⟩
  have HG := Aside0.mk ((hb.block w.heap.size HL.out).trans HG.out)
  have HL := Aside0.mk (Nat.lt_of_lt_of_le HL.out (below_size hb))
  have HB := Aside0.mk (below_step HB.out hb)
  clear hb
  go_wp2_with (refine wpList_store_row rfl 24 _ _ rfl w.heap.size C rfl rfl 24 (dia 0 (List.replicate 16 0)) HG.out HZ.out HZ0.out HO.out ?_)
  refine bodyPost_ret (results_ct rfl _ _ w.heap.size 24 C (0, 0) _ rfl (setRow_heap _ _ _ _ _ _ HG.out) Try.underlying24 rfl HZ.out) rfl ⟨rfl, below_setRow HB.out (Nat.le_refl _)⟩
set_option maxHeartbeats 8000000 in
theorem law_calls (a0 a1 : ByteArray) (h0 : a0.size ≤ 1048576) (h1 : a1.size ≤ 1048576) (m c : Int) (b : List Int) (hb : b.length = 16) (hs : Gives 4 #[.string a0, .string a1] (.tuple #[.agg (dia m b), .int .i64 c])) (hi : Gives 5 #[.string a0, .string a1] (.tuple #[.agg (dia m b), .int .i64 c])) :
    Gives 3 #[.string a0, .string a1] (.bool true) := by
  intro w
  have d0 : decide (1048576 < (a0.size : Int)) = false := decide_eq_false (by omega)
  have d0' : decide ((a0.size : Int) > 1048576) = false := decide_eq_false (by omega)
  have d0n : decide (1048576 < a0.size) = false := decide_eq_false (by omega)
  have d1 : decide (1048576 < (a1.size : Int)) = false := decide_eq_false (by omega)
  have d1n : decide (1048576 < a1.size) = false := decide_eq_false (by omega)
  have HS := Aside0.mk hs
  have HI := Aside0.mk hi
  have HE := Aside0.mk (fun W => eqDia_calls m b hb W)
  have HZ := Aside0.mk (show (Try.prog.info? 24).map (·.size) = some (dia m b).size by rw [dia_size, hb]; exact sizeDia)
  have HZ0 := Aside0.mk (show (dia 0 (List.replicate 16 0)).size = (dia m b).size by rw [dia_size, dia_size, hb]; rfl)
  have HO := Aside0.mk (dia_one m b)
  generalize dia m b = C at HS HI HE HZ HZ0 HO
  clear hs hi hb h0 h1
  go_enter Try.func3, Try.ntmps3
  go_wp2_with fail
  refine (HS.out _).mono ?_
  rintro e w1 ⟨rfl, hb1⟩
  have HB1 := Aside0.mk hb1
  clear hb1
  go_wp2_with (refine wpList_store_row rfl 24 _ _ rfl w1.heap.size C rfl rfl 24 (dia 0 (List.replicate 16 0)) (heap_alloc_new w1 _) HZ.out HZ0.out HO.out ?_)
  obtain ⟨w2, hw2⟩ : ∃ w2, w2 = (w1.alloc (.cells (dia 0 (List.replicate 16 0)) 24)).setRow w1.heap.size C := ⟨_, rfl⟩
  have HG2 := Aside0.mk (show w2.heap[w1.heap.size]? = some (.cells C 24 (0, 0)) by rw [hw2]; exact setRow_heap _ _ _ _ _ _ (heap_alloc_new w1 _))
  have HL2 := Aside0.mk (show w1.heap.size < w2.heap.size by rw [hw2, setRow_size]; simp)
  have HB2 := Aside0.mk (show Below w.heap.size w w2 by rw [hw2]; exact below_setRow (HB1.out.alloc (below_size HB1.out) _) (below_size HB1.out))
  refine (show Calls _ _ _ _ _ from (by have := HI.out w2; rw [hw2] at this; exact this)).mono ?_
  rintro e w3 ⟨rfl, hb3⟩
  rw [← hw2] at hb3
  have HB3 := Aside0.mk (below_step HB2.out hb3)
  have HG3 := Aside0.mk ((hb3.block w1.heap.size HL2.out).trans HG2.out)
  have HL3 := Aside0.mk (Nat.lt_of_lt_of_le HL2.out (below_size hb3))
  clear hb3 hw2 HB2 HG2
  have HW := Aside0.mk (show ((w3.alloc (.cells (dia 0 (List.replicate 16 0)) 24)).setRow w3.heap.size C).heap[w1.heap.size]? = some (.cells C 24 (0, 0)) by
    rw [setRow_other _ _ _ _ (Nat.ne_of_lt HL3.out), heap_alloc_old _ _ HL3.out]
    exact HG3.out)
  go_wp2_with (first | (refine wpList_store_row rfl 24 _ _ rfl w3.heap.size C rfl rfl 24 (dia 0 (List.replicate 16 0)) (heap_alloc_new w3 _) HZ.out HZ0.out HO.out ?_) | (refine wpList_load_row rfl 24 _ rfl w3.heap.size rfl 24 C (0, 0) _ (setRow_heap _ _ _ _ _ _ (heap_alloc_new w3 _)) Try.underlying24 rfl HZ.out ?_) | (refine wpList_load_row rfl 24 _ rfl w1.heap.size rfl 24 C (0, 0) _ HW.out Try.underlying24 rfl HZ.out ?_))
  refine (HE.out _).mono ?_
  rintro e w5 ⟨rfl, hb5⟩
  have HB5 := Aside0.mk (below_step (below_setRow (HB3.out.alloc (below_size HB3.out) _) (below_size HB3.out)) hb5)
  clear hb5
  go_wp2
  go_ret
  exact ⟨rfl, HB5.out⟩
theorem law_big0 (a0 a1 : ByteArray) (h : 1048576 < a0.size) : Gives 3 #[.string a0, .string a1] (.bool true) := by
  intro w
  have d0 : decide (1048576 < (a0.size : Int)) = true := decide_eq_true (by omega)
  have d0n : decide (1048576 < a0.size) = true := decide_eq_true h
  clear h
  go_enter Try.func3, Try.ntmps3
  go_wp2
  go_ret
  exact ⟨rfl, by repeat (first | exact Below.refl _ _ | apply below_drew1 | apply pw_below_drewN)⟩
theorem law_big1 (a0 a1 : ByteArray) (h0 : a0.size ≤ 1048576) (h : 1048576 < a1.size) : Gives 3 #[.string a0, .string a1] (.bool true) := by
  intro w
  have d0 : decide (1048576 < (a0.size : Int)) = false := decide_eq_false (by omega)
  have d0n : decide (1048576 < a0.size) = false := decide_eq_false (by omega)
  have d1 : decide (1048576 < (a1.size : Int)) = true := decide_eq_true (by omega)
  have d1n : decide (1048576 < a1.size) = true := decide_eq_true h
  clear h h0
  go_enter Try.func3, Try.ntmps3
  go_wp2
  go_ret
  exact ⟨rfl, by repeat (first | exact Below.refl _ _ | apply below_drew1 | apply pw_below_drewN)⟩
end Go.Proofs.Yteajmmmaiahmnaa.Hand
