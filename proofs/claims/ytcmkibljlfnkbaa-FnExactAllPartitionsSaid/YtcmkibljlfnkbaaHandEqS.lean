/- Rows of partitions, cell by cell; the contract of laws.eqPartitionS for two rows that hold the same. Condition: said in the theorems. -/
import Derived.Test.YtcmkibljlfnkbaaHandAllI
import Derived.Test.YtcmkibljlfnkbaaHandParEq
import Derived.StillTailTactics
namespace Go.Proofs.Ytcmkibljlfnkbaa.Hand
open Go.RowKit Go.Proofs.YtcmkibljlfnkbaaW.PrintWords Go.Proofs.YtcmkibljlfnkbaaW.PrintLast Go.Proofs.YtcmkibljlfnkbaaW.PrintMore
set_option linter.unusedVariables false
set_option linter.unusedSimpArgs false

/-- The cells are those of a list of partitions. -/
def Cellt (n : Int) (xs : List (List Int)) (cur : Array Value) : Prop := ∀ i b, xs[i]? = some b → b.length = 8 ∧ ∀ j u, (par n b).toList[j]? = some u → cur[i * 9 + j]? = some u
theorem row_of {n : Int} {w : World} {base : Nat} {v : Value} {xs : List (List Int)} (h : (parK n).R 33 w base (fun _ => True) v xs) (hp : 0 < xs.length) :
    ∃ g cap cur, v = .slice (some ⟨g, 0, none⟩) xs.length cap ∧ base ≤ g ∧ w.heap[g]? = some (.cells cur 33 (0, 0)) ∧ xs.length * 9 ≤ cur.size ∧ Cellt n xs cur := by
  obtain ⟨_, inner, ho, hr⟩ := h
  obtain ⟨hl, ho⟩ := ho
  rcases ho with ⟨rfl, h0⟩ | ⟨g, cap, cur, rfl, hb, hg, hnc, hcm, hcs, ht⟩
  · omega
  · refine ⟨g, cap, cur, rfl, hb, hg, by rw [hcs]; exact Nat.mul_le_mul_right _ hnc, fun i b hi => ?_⟩
    have hil : i < xs.length := (List.getElem?_eq_some_iff.1 hi).1
    have hM := hr.2 i b hi
    obtain ⟨h8, hc⟩ := hM
    rw [show (parK n).sz = 9 from rfl] at hc ht
    refine ⟨h8, fun j u hj => ?_⟩
    have hj9 : j < 9 := by
      have := (List.getElem?_eq_some_iff.1 hj).1
      rw [Array.length_toList, par_size, h8] at this
      exact this
    rw [← hc, List.getElem?_take, if_pos hj9, List.getElem?_drop] at hj
    rw [← ht, List.getElem?_take] at hj
    split at hj
    · rw [← Array.getElem?_toList]; exact hj
    · cases hj
theorem run_par (w : World) (g i : Nat) (n : Int) (b : List Int) (xs : List (List Int)) (cur : Array Value) (hg : w.heap[g]? = some (.cells cur 33 (0, 0))) (hc : Cellt n xs cur) (hi : xs[i]? = some b) :
    (loadVar 33 ⟨g, i * 9, none⟩).run Try.prog w = .ok (.agg (par n b)) w :=
  run_loadVar_part w g (i * 9) _ _ cur (par n b) (0, 0) _ hg (fun j v hv => (hc i b hi).2 j v hv) Try.underlying33 rfl (by rw [par_size, (hc i b hi).1]; exact sizePar)
theorem wpStill_load {P : Program} {ops : Array Oper} {rest : List Oper} {o : Oper} {a : Act} {w : World} {Q : Act → Prop} (hgd : o.guard = none) (ty : TypeId) (x : Operand) (ho : o.op = .load ty x) (ad : Addr) (hx : a.eval x = .pointer (some ad)) (v : Value) (hl : (loadVar ty ad).run P w = .ok v w)
    (h : wpStill P ops w Q rest (a.put o.dst v)) : wpStill P ops w Q (o :: rest) a := by
  refine wpStill_step (fun K hK => ?_)
  have hw : Region.wanted o (yielded ops a.tmps) = true := by unfold Region.wanted; rw [hgd]
  rw [if_pos hw]
  unfold Oper.still execOp
  simp only [ho, hx, Instr.loadAt, Instr.sureAddr, Sem.run_bind, Sem.run_pure, Result.andThen_ok, hl, Oper.stillUpon]
  exact ⟨trivial, hK _ h⟩
set_option maxHeartbeats 4000000 in
theorem eqS_calls (n : Int) (xs : List (List Int)) (hL : xs.length ≤ 1000000) (g1 g2 c1 c2 : Nat) (cur1 cur2 : Array Value) (w : World) (h1 : w.heap[g1]? = some (.cells cur1 33 (0, 0))) (h2 : w.heap[g2]? = some (.cells cur2 33 (0, 0))) (k1 : Cellt n xs cur1) (k2 : Cellt n xs cur2) :
    Calls Try.prog 6 #[.slice (some ⟨g1, 0, none⟩) xs.length c1, .slice (some ⟨g2, 0, none⟩) xs.length c2] w fun e w' => e = .returned (.bool true) ∧ Below w.heap.size w w' := by
  have H1 := Aside0.mk h1
  have H2 := Aside0.mk h2
  have K1 := Aside0.mk k1
  have K2 := Aside0.mk k2
  have HLT := Aside0.mk (show g1 < w.heap.size ∧ g2 < w.heap.size from ⟨(Array.getElem?_eq_some_iff.1 h1).1, (Array.getElem?_eq_some_iff.1 h2).1⟩)
  have HX := Aside0.mk (show ∀ i, i < xs.length → ∃ b, xs[i]? = some b from fun i hi => ⟨_, List.getElem?_eq_getElem hi⟩)
  obtain ⟨L, eL⟩ : ∃ L, L = xs.length := ⟨_, rfl⟩
  rw [← eL] at hL HX ⊢
  have HL := Aside0.mk hL
  clear h1 h2 k1 k2 eL
  go_enter Try.func6, Try.ntmps6
  go_wp2
  go_loopg [5] (L + 1) (fun kq v5 w' => ∃ i : Nat, v5 = .int .i64 (i : Int) ∧ Aside0 (kq + i = L + 1) ∧ Aside0 (i ≤ L) ∧ Aside0 (Below w.heap.size w w'))
  case atStart => exact ⟨0, rfl, ⟨rfl⟩, ⟨by omega⟩, ⟨Below.refl _ _⟩⟩
  case round =>
    obtain ⟨i, rfl, E1, E2, HB⟩ := hrel
    cases gk with
    | zero => exact absurd E1.out (by have := E2.out; omega)
    | succ k1 =>
      by_cases d1 : i < L
      · have d1b : decide ((i : Int) < (L : Int)) = true := decide_eq_true (by omega)
        have d1b' : decide (i < L) = true := decide_eq_true d1
        have p1 : (0 ≤ (i : Int)) = True := eq_true (by omega)
        have q1 : ((i : Int) < (L : Int)) = True := eq_true (by omega)
        have q1' : (i < L) = True := eq_true d1
        obtain ⟨b, hb⟩ := HX.out i d1
        have HB8 := Aside0.mk (K1.out i b hb).1
        have r1 := run_par { heap := wr.heap, tape := wr.tape, drawn := wr.drawn + 1, os := wr.os, output := wr.output } g1 i n b xs cur1 ((HB.out.block g1 HLT.out.1).trans H1.out) K1.out hb
        have r2 := run_par { heap := wr.heap, tape := wr.tape, drawn := wr.drawn + 1, os := wr.os, output := wr.output } g2 i n b xs cur2 ((HB.out.block g2 HLT.out.2).trans H2.out) K2.out hb
        have HE := Aside0.mk (fun W => eqPar_calls n b HB8.out W)
        have HD1 := Aside0.mk d1
        clear d1
        go_wp2
        go_still_tail 8, (by kernel_rfl)
        refine wpStill_load rfl 33 _ rfl _ rfl _ r1 ?_
        repeat still_step
        refine wpStill_load rfl 33 _ rfl _ rfl _ r2 ?_
        refine wpStill_nil ?_
        change wpList _ _ _ _ _ wr.drew
        clear r1 r2 hb
        go_wp2_with fail
        refine (HE.out _).mono ?_
        rintro e w2 ⟨rfl, hb2⟩
        have HB2 := Aside0.mk (below_step (below_drew HB.out) hb2)
        clear hb2 HE
        go_wp2
        go_roundg k1
        case measure => have := E1.out; omega
        case rel => exact ⟨i + 1, (congrArg (Value.int .i64) (show _ = ((i + 1 : Nat) : Int) by have h1 := HD1.out; have h2 := HL.out; first | omega | (unfold wrap64; omega))), ⟨by have := E1.out; omega⟩, ⟨by have := HD1.out; omega⟩, HB2⟩
      · have d1b : decide ((i : Int) < (L : Int)) = false := decide_eq_false (by omega)
        have d1b' : decide (i < L) = false := decide_eq_false d1
        clear d1
        go_wp2
        go_ret
        exact ⟨rfl, HB.out⟩
end Go.Proofs.Ytcmkibljlfnkbaa.Hand
