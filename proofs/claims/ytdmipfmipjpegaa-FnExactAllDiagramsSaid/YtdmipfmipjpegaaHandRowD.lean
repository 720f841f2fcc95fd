/- Rows of diagrams. No condition. -/
import Derived.Test.YtdmipfmipjpegaaHandDia7
import Derived.Test.YtdmipfmipjpegaaHandHalt
import Derived.Deep.AppendLies
import Derived.Maps.AppendAt
import Derived.StillTailTactics
namespace Go.Proofs.Ytdmipfmipjpegaa.Hand
open Go.RowKit Go.Proofs.YtdmipfmipjpegaaW.PrintWords Go.Proofs.YtdmipfmipjpegaaW.PrintLast Go.Proofs.YtdmipfmipjpegaaW.PrintMore
set_option linter.unusedVariables false
set_option linter.unusedSimpArgs false

theorem infoDia : (Try.prog.info? 24).map (fun i => (i.zero, i.size, i.bytes)) = some (some (.agg (dia 0 (List.replicate 16 0))), 17, 24) := by kernel_rfl
/-- Diagrams, as elements of a row: size and bytes. -/
def diaK : Kd (Int × List Int) where
  sz := 17
  E := []
  K := fun _ b cs => b.2.length = 16 ∧ cs = (dia b.1 b.2).toList
  M := fun _ _ _ b cs => b.2.length = 16 ∧ cs = (dia b.1 b.2).toList
  K_len := fun h => by rw [h.2, Array.length_toList, dia_size, h.1]
  K_one := fun {_ b _} h u hu => by
    rw [h.2] at hu
    have := dia_one b.1 b.2
    rw [Array.all_eq_true] at this
    obtain ⟨i, hi, rfl⟩ := List.getElem_of_mem hu
    exact this i (by simpa using hi)
  K_below := fun _ h => h
  K_of_M := fun h => h
  M_mono := fun _ h => h
  M_bound := fun h => h
  M_move := fun _ h => h
  M_lower := fun _ h => h
/-- The world has grown, the row of v alone being written; v' is v's row or a new one. -/
structure Grow (w w' : World) (v v' : Value) : Prop where
  g : w.grownBy w' v.ownBlock
  at_ : v'.ownBlock = v.ownBlock ∨ ∃ b, v'.ownBlock = some b ∧ w.heap.size ≤ b
theorem Grow.trans {w w1 w2 : World} {v v1 v2 : Value} (h : Grow w w1 v v1) (k : Grow w1 w2 v1 v2) : Grow w w2 v v2 := by
  have hs := h.g.size
  refine ⟨⟨k.g.os.trans h.g.os, k.g.tape.trans h.g.tape, k.g.output.trans h.g.output, Nat.le_trans h.g.size k.g.size, fun i hi hne => ?_⟩, ?_⟩
  · refine (k.g.block i (by omega) ?_).trans (h.g.block i hi hne)
    rcases h.at_ with e | ⟨b, e, hb⟩
    · rw [e]; exact hne
    · rw [e]; intro he; have := Option.some.inj he; omega
  · rcases k.at_ with e | ⟨b, e, hb⟩
    · rw [e]; exact h.at_
    · exact .inr ⟨b, e, by omega⟩
theorem Grow.refl (w : World) (v : Value) : Grow w w v v := ⟨⟨rfl, rfl, rfl, Nat.le_refl _, fun _ _ _ => rfl⟩, .inl rfl⟩
theorem Grow.alloc (w : World) (v : Value) (o : Obj) : Grow w (w.alloc o) v v := ⟨World.grownBy_alloc w o _, .inl rfl⟩
theorem Grow.set {w w1 : World} {v v1 : Value} (h : Grow w w1 v v1) {p : Addr} (hp : w.heap.size ≤ p.block) (u : Value) : Grow w (w1.setCell p u) v v1 :=
  ⟨⟨h.g.os, h.g.tape, h.g.output, by simp [World.setCell]; exact h.g.size, fun i hi hne => (Below.heap_setCell w1 p u i (by omega)).trans (h.g.block i hi hne)⟩, h.at_⟩
theorem diaR_move {e : Nat} {w w1 : World} {base : Nat} {v : Value} {xs : List (Int × List Int)} (h : diaK.R e w base (fun _ => True) v xs) (hm : ∀ k, v.ownBlock = some k → w1.heap[k]? = w.heap[k]?) : diaK.R e w1 base (fun _ => True) v xs := by
  obtain ⟨h0, inner, ho, hr⟩ := h
  exact ⟨h0, inner, own_move ho hm, hr⟩
theorem diaR_empty {w : World} {base g : Nat} (h : w.heap[g]? = some (.cells #[] 24 (0, 0))) (hb : base ≤ g) : diaK.R 24 w base (fun _ => True) (.slice (some ⟨g, 0, none⟩) 0 0) [] := by
  refine ⟨fun _ _ => trivial, [], ?_, Reps.none _ _⟩
  exact ⟨by simp, .inr ⟨g, 0, #[], rfl, hb, h, Nat.le_refl _, by unfold maxLen; omega, by simp, by simp⟩⟩
/-- The cells are those of a list of partitions. -/
def Cellt (xs : List (Int × List Int)) (cur : Array Value) : Prop := ∀ i b, xs[i]? = some b → b.2.length = 16 ∧ ∀ j u, (dia b.1 b.2).toList[j]? = some u → cur[i * 17 + j]? = some u
theorem row_of {w : World} {base : Nat} {v : Value} {xs : List (Int × List Int)} (h : (diaK).R 24 w base (fun _ => True) v xs) (hp : 0 < xs.length) :
    ∃ g cap cur, v = .slice (some ⟨g, 0, none⟩) xs.length cap ∧ base ≤ g ∧ w.heap[g]? = some (.cells cur 24 (0, 0)) ∧ xs.length * 17 ≤ cur.size ∧ Cellt xs cur := by
  obtain ⟨_, inner, ho, hr⟩ := h
  obtain ⟨hl, ho⟩ := ho
  rcases ho with ⟨rfl, h0⟩ | ⟨g, cap, cur, rfl, hb, hg, hnc, hcm, hcs, ht⟩
  · omega
  · refine ⟨g, cap, cur, rfl, hb, hg, by rw [hcs]; exact Nat.mul_le_mul_right _ hnc, fun i b hi => ?_⟩
    have hil : i < xs.length := (List.getElem?_eq_some_iff.1 hi).1
    have hM := hr.2 i b hi
    obtain ⟨h8, hc⟩ := hM
    rw [show (diaK).sz = 17 from rfl] at hc ht
    refine ⟨h8, fun j u hj => ?_⟩
    have hj17 : j < 17 := by
      have := (List.getElem?_eq_some_iff.1 hj).1
      rw [Array.length_toList, dia_size, h8] at this
      exact this
    rw [← hc, List.getElem?_take, if_pos hj17, List.getElem?_drop] at hj
    rw [← ht, List.getElem?_take] at hj
    split at hj
    · rw [← Array.getElem?_toList]; exact hj
    · cases hj
theorem run_dia (w : World) (g i : Nat) (b : Int × List Int) (xs : List (Int × List Int)) (cur : Array Value) (hg : w.heap[g]? = some (.cells cur 24 (0, 0))) (hc : Cellt xs cur) (hi : xs[i]? = some b) :
    (loadVar 24 ⟨g, i * 17, none⟩).run Try.prog w = .ok (.agg (dia b.1 b.2)) w :=
  run_loadVar_part w g (i * 17) _ _ cur (dia b.1 b.2) (0, 0) _ hg (fun j v hv => (hc i b hi).2 j v hv) Try.underlying24 rfl (by rw [dia_size, (hc i b hi).1]; exact sizeDia)
theorem wpStill_load {P : Program} {ops : Array Oper} {rest : List Oper} {o : Oper} {a : Act} {w : World} {Q : Act → Prop} (hgd : o.guard = none) (ty : TypeId) (x : Operand) (ho : o.op = .load ty x) (ad : Addr) (hx : a.eval x = .pointer (some ad)) (v : Value) (hl : (loadVar ty ad).run P w = .ok v w)
    (h : wpStill P ops w Q rest (a.put o.dst v)) : wpStill P ops w Q (o :: rest) a := by
  refine wpStill_step (fun K hK => ?_)
  have hw : Region.wanted o (yielded ops a.tmps) = true := by unfold Region.wanted; rw [hgd]
  rw [if_pos hw]
  unfold Oper.still execOp
  simp only [ho, hx, Instr.loadAt, Instr.sureAddr, Sem.run_bind, Sem.run_pure, Result.andThen_ok, hl, Oper.stillUpon]
  exact ⟨trivial, hK _ h⟩
set_option maxHeartbeats 4000000 in
theorem eqS_calls (xs : List (Int × List Int)) (hL : xs.length ≤ 1000000) (g1 g2 c1 c2 : Nat) (cur1 cur2 : Array Value) (w : World) (h1 : w.heap[g1]? = some (.cells cur1 24 (0, 0))) (h2 : w.heap[g2]? = some (.cells cur2 24 (0, 0))) (k1 : Cellt xs cur1) (k2 : Cellt xs cur2) :
    Calls Try.prog 23 #[.slice (some ⟨g1, 0, none⟩) xs.length c1, .slice (some ⟨g2, 0, none⟩) xs.length c2] w fun e w' => e = .returned (.bool true) ∧ Below w.heap.size w w' := by
  have H1 := Aside0.mk h1
  have H2 := Aside0.mk h2
  have K1 := Aside0.mk k1
  have K2 := Aside0.mk k2
  have HLT := Aside0.mk (show g1 < w.heap.size ∧ g2 < w.heap.size from ⟨(Array.getElem?_eq_some_iff.1 h1).1, (Array.getElem?_eq_some_iff.1 h2).1⟩)
  have HX := Aside0.mk (show ∀ i, i < xs.length → ∃ b, xs[i]? = some b from fun i hi => ⟨_, List.getElem?_eq_getElem hi⟩)
  obtain ⟨L, eL⟩ : ∃ L, L = xs.length := ⟨_, rfl⟩
  rw [← eL] at hL HX ⊢
  have HL := Aside0.mk hL
  clear h1 h2 k1 k2 eL
  go_enter Try.func23, Try.ntmps23
  go_wp2
  go_loopg [5] (L + 1) (fun kq v5 w' => ∃ i : Nat, v5 = .int .i64 (i : Int) ∧ Aside0 (kq + i = L + 1) ∧ Aside0 (i ≤ L) ∧ Aside0 (Below w.heap.size w w'))
  case atStart => exact ⟨0, rfl, ⟨rfl⟩, ⟨by omega⟩, ⟨Below.refl _ _⟩⟩
  case round =>
    obtain ⟨i, rfl, E1, E2, HB⟩ := hrel
    cases gk with
    | zero => exact absurd E1.out (by have := E2.out; omega)
    | succ k1 =>
      by_cases d1 : i < L
      · have d1b : decide ((i : Int) < (L : Int)) = true := decide_eq_true (by omega)
        have d1b' : decide (i < L) = true := decide_eq_true d1
        have p1 : (0 ≤ (i : Int)) = True := eq_true (by omega)
        have q1 : ((i : Int) < (L : Int)) = True := eq_true (by omega)
        have q1' : (i < L) = True := eq_true d1
        obtain ⟨b, hb⟩ := HX.out i d1
        have HB8 := Aside0.mk (K1.out i b hb).1
        have r1 := run_dia { heap := wr.heap, tape := wr.tape, drawn := wr.drawn + 1, os := wr.os, output := wr.output } g1 i b xs cur1 ((HB.out.block g1 HLT.out.1).trans H1.out) K1.out hb
        have r2 := run_dia { heap := wr.heap, tape := wr.tape, drawn := wr.drawn + 1, os := wr.os, output := wr.output } g2 i b xs cur2 ((HB.out.block g2 HLT.out.2).trans H2.out) K2.out hb
        have HE := Aside0.mk (fun W => eqDia_calls b.1 b.2 HB8.out W)
        have HD1 := Aside0.mk d1
        clear d1
        go_wp2
        go_still_tail 8, (by kernel_rfl)
        refine wpStill_load rfl 24 _ rfl _ rfl _ r1 ?_
        repeat still_step
        refine wpStill_load rfl 24 _ rfl _ rfl _ r2 ?_
        refine wpStill_nil ?_
        change wpList _ _ _ _ _ wr.drew
        clear r1 r2 hb
        go_wp2_with fail
        refine (HE.out _).mono ?_
        rintro e w2 ⟨rfl, hb2⟩
        have HB2 := Aside0.mk (below_step (below_drew HB.out) hb2)
        clear hb2 HE
        go_wp2
        go_roundg k1
        case measure => have := E1.out; omega
        case rel => exact ⟨i + 1, (congrArg (Value.int .i64) (show _ = ((i + 1 : Nat) : Int) by have h1 := HD1.out; have h2 := HL.out; first | omega | (unfold wrap64; omega))), ⟨by have := E1.out; omega⟩, ⟨by have := HD1.out; omega⟩, HB2⟩
      · have d1b : decide ((i : Int) < (L : Int)) = false := decide_eq_false (by omega)
        have d1b' : decide (i < L) = false := decide_eq_false d1
        clear d1
        go_wp2
        go_ret
        exact ⟨rfl, HB.out⟩
end Go.Proofs.Ytdmipfmipjpegaa.Hand
