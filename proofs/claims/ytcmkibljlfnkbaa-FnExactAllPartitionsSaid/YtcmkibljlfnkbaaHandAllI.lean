/- The contracts of impl.allPartitions and impl.AllPartitions. Condition: said in the theorems. -/
import Derived.Test.YtcmkibljlfnkbaaHandMore2
import Derived.Laws.EntriesVeiled
import Derived.Lib.Hide
namespace Go.Proofs.Ytcmkibljlfnkbaa.Hand
open Go.RowKit Go.Proofs.YtcmkibljlfnkbaaW.PrintWords Go.Proofs.YtcmkibljlfnkbaaW.PrintLast Go.Proofs.YtcmkibljlfnkbaaW.PrintMore
set_option linter.unusedVariables false
set_option linter.unusedSimpArgs false

theorem size_alloc' (w : World) (o : Obj) : (w.alloc o).heap.size = w.heap.size + 1 := by show (w.heap.push o).size = _; simp
theorem heap_at_new (w : World) (o : Obj) (k : Nat) (h : k = w.heap.size) : (w.alloc o).heap[k]? = some o := by subst h; exact heap_alloc_new w o
/-- The world in which the closure is called first. -/
def moreWorld (w : World) (N bo : Nat) : World :=
  ((w.alloc (.cells #[.int .i64 N] 3)).alloc (.cells #[.func (.func 13) #[] #[.pointer (some ⟨bo, 0, none⟩)]] 34)).alloc (.cells #[.func (.func 16) #[] #[.pointer (some ⟨w.heap.size, 0, none⟩), .pointer (some ⟨w.heap.size + 1, 0, none⟩), .pointer (some ⟨w.heap.size + 1 + 1, 0, none⟩)]] 37)
theorem more_ext (w : World) (N bo : Nat) (v : Value) : Ext bo w (moreWorld w N bo) v v := by
  unfold moreWorld
  exact Ext.of (Grow.trans (Grow.trans (Grow.alloc w v _) (Grow.alloc _ v _)) (Grow.alloc _ v _))
theorem more_start (N bo base : Nat) (v : Value) (xs : List (List Int)) (w : World) (ho : w.heap[bo]? = some (.cells #[v] 22 (0, 0))) (hvo : v.ownBlock ≠ some bo) (hbs : base ≤ w.heap.size) (hr : (parK N).R 33 w base (fun _ => True) v xs) :
    St N w.heap.size (w.heap.size + 1) (w.heap.size + 1 + 1) bo base (moreWorld w N bo) v xs := by
  have hlt : bo < w.heap.size := (Array.getElem?_eq_some_iff.1 ho).1
  have hv : ∀ k, v.ownBlock = some k → k < w.heap.size := fun k hk => Kd.R_lt hr k hk
  have hold : ∀ k, k < w.heap.size → (moreWorld w N bo).heap[k]? = w.heap[k]? := by
    intro k hk
    unfold moreWorld
    rw [Below.heap_alloc _ _ _ (by rw [size_alloc', size_alloc']; omega), Below.heap_alloc _ _ _ (by rw [size_alloc']; omega), Below.heap_alloc _ _ _ hk]
  refine ⟨?_, ?_, ?_, (hold _ hlt).trans ho, parR_move hr (fun k hk => hold k (hv k hk)), ?_, ?_, ?_, hvo, by omega, by omega, by omega, ?_⟩
  · unfold moreWorld
    rw [Below.heap_alloc _ _ _ (by rw [size_alloc', size_alloc']; omega), Below.heap_alloc _ _ _ (by rw [size_alloc']; omega)]
    exact heap_at_new _ _ _ rfl
  · unfold moreWorld
    rw [Below.heap_alloc _ _ _ (by rw [size_alloc', size_alloc']; omega)]
    exact heap_at_new _ _ _ (by rw [size_alloc'])
  · unfold moreWorld
    exact heap_at_new _ _ _ (by rw [size_alloc', size_alloc'])
  · intro e; have := hv _ e; omega
  · intro e; have := hv _ e; omega
  · intro e; have := hv _ e; omega
  · unfold moreWorld
    rw [size_alloc', size_alloc', size_alloc']
    omega
set_option maxHeartbeats 8000000 in
set_option maxRecDepth 100000 in
theorem allI_calls (N bo base : Nat) (hN : N ≤ 3) (v : Value) (xs : List (List Int)) (w : World) (ho : w.heap[bo]? = some (.cells #[v] 22 (0, 0))) (hvo : v.ownBlock ≠ some bo) (hl : xs.length + cap7 (2 * N) ≤ 1000000) (hbs : base ≤ w.heap.size) (hr : (parK N).R 33 w base (fun _ => True) v xs) :
    Calls Try.prog 12 #[.int .i64 (N : Int), .func (.func 13) #[] #[.pointer (some ⟨bo, 0, none⟩)]] w fun e w' => e = .returned (.tuple #[]) ∧ ∃ v', w'.heap[bo]? = some (.cells #[v'] 22 (0, 0)) ∧ v'.ownBlock ≠ some bo ∧ (parK N).R 33 w' base (fun _ => True) v' (xs ++ allP N) ∧ Ext bo w w' v v' := by
  have hcall := more_calls N w.heap.size (w.heap.size + 1) (w.heap.size + 1 + 1) bo base hN (2 * N) 0 0 (List.replicate 8 0) v xs (moreWorld w N bo) (by omega) rfl (Nat.le_refl _) hl (more_start N bo base v xs w ho hvo hbs hr)
  rw [show ((0 : Nat) : Int) = 0 from rfl, show fl (2 * N) 0 (List.replicate 8 0) 0 = allP N from rfl] at hcall
  have HX := Aside0.mk (more_ext w N bo v)
  unfold moreWorld at hcall HX
  have HC := Lib.hid hcall
  clear hcall ho hvo hl hbs hr
  go_enter Try.func12, Try.ntmps12
  go_wp2_with fail
  refine HC.out.mono ?_
  rintro e w1 ⟨rfl, v1, hst1, hx1⟩
  have HS := Aside0.mk hst1
  have HX1 := Aside0.mk (HX.out.trans hx1)
  clear hst1 hx1 HC HX
  go_wp2
  go_end0
  exact ⟨rfl, v1, HS.out.ho, HS.out.vo, HS.out.hr, HX1.out⟩
theorem implAll_out (n : Int) (h : ¬(1 ≤ n ∧ n ≤ 3)) (w : World) :
    Calls Try.prog 5 #[.int .i64 n] w fun e w' => e = .returned (.tuple #[.slice none 0 0, .int .i64 2]) ∧ Below w.heap.size w w' := by
  have HIN := Aside0.mk (fun W => iin_calls n 1 3 false (by rw [← Bool.decide_and]; exact decide_eq_false h) W)
  clear h
  go_enter Try.func5, Try.ntmps5
  go_wp2_with fail
  refine (HIN.out _).mono ?_
  rintro e w1 ⟨rfl, ⟨q, rfl⟩⟩
  go_wp2
  go_ret2
  exact ⟨rfl, pw_below_drewN (Below.refl _ _) _⟩
theorem parR_empty {n : Int} {w : World} {base g : Nat} (h : w.heap[g]? = some (.cells #[] 33 (0, 0))) (hb : base ≤ g) : (parK n).R 33 w base (fun _ => True) (.slice (some ⟨g, 0, none⟩) 0 0) [] := by
  have hg : g < w.heap.size := (Array.getElem?_eq_some_iff.1 h).1
  refine ⟨fun _ _ => trivial, [], ?_, Reps.none _ _⟩
  exact ⟨by simp, .inr ⟨g, 0, #[], rfl, hb, h, Nat.le_refl _, by unfold maxLen; omega, by simp, by simp⟩⟩
/-- The world in which impl.allPartitions is called. -/
def allWorld (w : World) : World := (w.alloc (.cells #[] 33)).alloc (.cells #[.slice (some ⟨w.heap.size, 0, none⟩) 0 0] 22)
theorem all_facts (w : World) : (allWorld w).heap[w.heap.size + 1]? = some (.cells #[.slice (some ⟨w.heap.size, 0, none⟩) 0 0] 22 (0, 0)) ∧ (allWorld w).heap[w.heap.size]? = some (.cells #[] 33 (0, 0)) ∧ w.heap.size ≤ (allWorld w).heap.size := by
  unfold allWorld
  refine ⟨heap_at_new _ _ _ (by rw [size_alloc']), ?_, by rw [size_alloc', size_alloc']; omega⟩
  rw [Below.heap_alloc _ _ _ (by rw [size_alloc']; omega)]
  exact heap_at_new _ _ _ rfl
theorem ext_below {bo base : Nat} {w w0 w' : World} {v v' : Value} (h : Ext bo w w' v v') (h0 : Below base w0 w) (hbs : base ≤ w.heap.size) (hbo : base ≤ bo) (hv : ∀ k, v.ownBlock = some k → base ≤ k) : Below base w0 w' :=
  ⟨h.os.trans h0.os, h.tape.trans h0.tape, h.output.trans h0.output, Nat.le_trans h0.size h.size, fun i hi => (h.block i (by omega) (by omega) (fun e => by have := hv i e.symm; omega)).trans (h0.block i hi)⟩
set_option maxHeartbeats 8000000 in
set_option maxRecDepth 100000 in
theorem implAll_in (N : Nat) (h1 : 1 ≤ N) (h3 : N ≤ 3) (w : World) :
    Calls Try.prog 5 #[.int .i64 (N : Int)] w fun e w' => ∃ v', e = .returned (.tuple #[v', .int .i64 0]) ∧ (parK N).R 33 w' w.heap.size (fun _ => True) v' (allP N) ∧ Below w.heap.size w w' := by
  have HIN := Aside0.mk (fun W => iin_calls (N : Int) 1 3 true (by rw [decide_eq_true (show (1 : Int) ≤ (N : Int) by omega), decide_eq_true (show (N : Int) ≤ 3 by omega)]; rfl) W)
  have HC := Aside0.mk (fun v xs W => allI_calls N (w.heap.size + 1) w.heap.size h3 v xs W)
  have HCP := Aside0.mk (cap7_le (2 * N) (by omega))
  clear h1 h3
  go_enter Try.func5, Try.ntmps5
  go_wp2_with fail
  refine (HIN.out _).mono ?_
  rintro e w1 ⟨rfl, ⟨q, rfl⟩⟩
  obtain ⟨f1, f2, f3⟩ := all_facts (w.drewN q)
  have hcc := HC.out _ [] _ f1 (by rw [show (w.drewN q).heap.size = w.heap.size from rfl]; simp [Value.ownBlock]) (by have := HCP.out; simp; omega) f3 (parR_empty f2 (Nat.le_refl _))
  have HB0 := Aside0.mk (show Below w.heap.size w (allWorld (w.drewN q)) from ((pw_below_drewN (Below.refl _ w) q).alloc (Nat.le_refl _) _).alloc (by rw [size_alloc']; exact Nat.le_succ _) _)
  have HS0 := Aside0.mk f3
  rw [List.nil_append] at hcc
  unfold allWorld at hcc HB0 HS0
  have HCC := Aside0.mk hcc
  clear f1 f2 f3 hcc HC HIN
  go_wp2_with fail
  refine HCC.out.mono ?_
  rintro e w3 ⟨rfl, v3, ho3, hvo3, hr3, hx3⟩
  obtain ⟨Av, cv, ev⟩ := Kd.R_slice hr3
  subst ev
  have c1 := (box_facts ho3).1
  have HR := Aside0.mk hr3
  have HX := Aside0.mk (ext_below hx3 HB0.out HS0.out (by omega) (fun k hk => by simp [Value.ownBlock] at hk; omega))
  clear ho3 hvo3 hr3 hx3 HCC HB0 HS0
  go_wp2
  go_ret2
  exact ⟨_, rfl, HR.out, HX.out⟩
end Go.Proofs.Ytcmkibljlfnkbaa.Hand
