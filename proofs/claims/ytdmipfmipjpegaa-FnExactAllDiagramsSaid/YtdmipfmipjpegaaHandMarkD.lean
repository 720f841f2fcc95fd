/- The contracts of laws.markDiagramS and laws.heldDiagramS. Condition: said in the theorems. -/
import Derived.Test.YtdmipfmipjpegaaHandRowD
namespace Go.Proofs.Ytdmipfmipjpegaa.Hand
open Go.RowKit Go.Proofs.YtdmipfmipjpegaaW.PrintWords Go.Proofs.YtdmipfmipjpegaaW.PrintLast Go.Proofs.YtdmipfmipjpegaaW.PrintMore
set_option linter.unusedVariables false
set_option linter.unusedSimpArgs false

/-- The mark of a cell. -/
def mkv (q : Nat) : Value := if q % 17 = 0 then .int .i64 ((q : Int) + 1) else .int .u8 (IntKind.u8.wrap ((q : Int) + 1))
/-- The first m cells are marked. -/
structure Marks (g m sz : Nat) (w : World) : Prop where
  ex : ∃ cur, w.heap[g]? = some (.cells cur 24 (0, 0)) ∧ cur.size = sz ∧ ∀ p, p < m → cur[p]? = some (mkv p)
theorem Marks.cell {g m sz : Nat} {w : World} (h : Marks g m sz w) {p : Nat} (hp : p < sz) : (∃ u, w.cell? ⟨g, p, none⟩ = some u) ∧ w.frozen? ⟨g, p, none⟩ = false := by
  obtain ⟨cur, hg, hs, _⟩ := h
  exact ⟨⟨_, by rw [cell_of_row w g p _ _ _ hg]; exact Array.getElem?_eq_getElem (by omega)⟩, frozen_of_row w g p _ _ hg⟩
theorem Marks.set {g m sz : Nat} {w : World} (h : Marks g m sz w) (hm : m < sz) : Marks g (m + 1) sz (w.setCell ⟨g, m, none⟩ (mkv m)) := by
  obtain ⟨cur, hg, hs, hc⟩ := h
  refine ⟨⟨cur.setIfInBounds m (mkv m), heap_setCell_same w g m _ _ _ hg, by rw [Array.size_setIfInBounds, hs], fun p hp => ?_⟩⟩
  rw [Array.getElem?_setIfInBounds]
  by_cases e : m = p
  · subst e
    rw [if_pos rfl, if_pos (by omega)]
  · rw [if_neg e]
    exact hc p (by omega)
theorem Marks.at {g m sz : Nat} {w : World} (h : Marks g m sz w) {p : Nat} (hp : p < m) : w.cell? ⟨g, p, none⟩ = some (mkv p) := by
  obtain ⟨cur, hg, hs, hc⟩ := h
  rw [cell_of_row w g p _ _ _ hg]
  exact hc p hp
theorem Marks.move {g m sz : Nat} {w w' : World} (h : Marks g m sz w) (hm : w'.heap[g]? = w.heap[g]?) : Marks g m sz w' := by
  obtain ⟨cur, hg, hs, hc⟩ := h
  exact ⟨⟨cur, hm.trans hg, hs, hc⟩⟩
theorem mkv_zero (i : Nat) : mkv (i * 17) = .int .i64 (1 + 17 * (i : Int)) := by
  unfold mkv
  rw [if_pos (by omega)]
  congr 1
  omega
theorem mkv_byte (i j : Nat) (hj : j < 16) : mkv (i * 17 + 1 + j) = .int .u8 (IntKind.u8.wrap (1 + 17 * (i : Int) + 1 + (j : Int))) := by
  unfold mkv
  rw [if_neg (by omega)]
  congr 2
  omega
/-- The world has grown, the row of v and the box bo alone being written; v' is v's row or a new one. -/
structure Ext (bo : Nat) (w w' : World) (v v' : Value) : Prop where
  os : w'.os = w.os
  tape : w'.tape = w.tape
  output : w'.output = w.output
  size : w.heap.size ≤ w'.heap.size
  block : ∀ k, k < w.heap.size → k ≠ bo → some k ≠ v.ownBlock → w'.heap[k]? = w.heap[k]?
  at_ : v'.ownBlock = v.ownBlock ∨ ∃ b, v'.ownBlock = some b ∧ w.heap.size ≤ b
theorem Ext.trans {bo : Nat} {w w1 w2 : World} {v v1 v2 : Value} (h : Ext bo w w1 v v1) (k : Ext bo w1 w2 v1 v2) : Ext bo w w2 v v2 := by
  have hs := h.size
  refine ⟨k.os.trans h.os, k.tape.trans h.tape, k.output.trans h.output, Nat.le_trans h.size k.size, fun i hi hb hne => ?_, ?_⟩
  · refine (k.block i (by omega) hb ?_).trans (h.block i hi hb hne)
    rcases h.at_ with e | ⟨b, e, hb⟩
    · rw [e]; exact hne
    · rw [e]; intro he; have := Option.some.inj he; omega
  · rcases k.at_ with e | ⟨b, e, hb⟩
    · rw [e]; exact h.at_
    · exact .inr ⟨b, e, by omega⟩
theorem Ext.of {bo : Nat} {w w' : World} {v v' : Value} (h : Grow w w' v v') : Ext bo w w' v v' := ⟨h.g.os, h.g.tape, h.g.output, h.g.size, fun k hk _ hne => h.g.block k hk hne, h.at_⟩
theorem Ext.set {bo : Nat} {w w1 : World} {v v1 : Value} (h : Ext bo w w1 v v1) {p : Addr} (hp : w.heap.size ≤ p.block ∨ p.block = bo) (u : Value) : Ext bo w (w1.setCell p u) v v1 :=
  ⟨h.os, h.tape, h.output, by simp [World.setCell]; exact h.size, fun i hi hb hne => (Below.heap_setCell w1 p u i (by omega)).trans (h.block i hi hb hne), h.at_⟩
theorem Ext.ne {bo : Nat} {w w' : World} {v v' : Value} (h : Ext bo w w' v v') {B : Nat} (hB : B < w.heap.size) (hv : v.ownBlock ≠ some B) : v'.ownBlock ≠ some B := by
  rcases h.at_ with e | ⟨b, e, hb⟩
  · rw [e]; exact hv
  · rw [e]; intro he; have := Option.some.inj he; omega
theorem ext_below {bo base : Nat} {w w0 w' : World} {v v' : Value} (h : Ext bo w w' v v') (h0 : Below base w0 w) (hbs : base ≤ w.heap.size) (hbo : base ≤ bo) (hv : ∀ k, v.ownBlock = some k → base ≤ k) : Below base w0 w' :=
  ⟨h.os.trans h0.os, h.tape.trans h0.tape, h.output.trans h0.output, Nat.le_trans h0.size h.size, fun i hi => (h.block i (by omega) (by omega) (fun e => by have := hv i e.symm; omega)).trans (h0.block i hi)⟩
/-- The world but for one block. -/
abbrev But (g : Nat) (w w' : World) : Prop := Ext g w w' (.slice none 0 0) (.slice none 0 0)
set_option maxHeartbeats 4000000 in
theorem markS_calls (L g c sz : Nat) (hL : L ≤ 1000000) (hs : L * 17 ≤ sz) (w : World) (h : Marks g 0 sz w) :
    Calls Try.prog 24 #[.slice (some ⟨g, 0, none⟩) L c, .int .i64 1] w fun e w' => e = .returned (.int .i64 (1 + 17 * (L : Int))) ∧ Marks g (L * 17) sz w' ∧ But g w w' := by
  have HM := Aside0.mk h
  have HL := Aside0.mk hL
  have HS := Aside0.mk hs
  clear h hs
  go_enter Try.func24, Try.ntmps24
  go_wp2
  go_loopg [1, 5] (L + 1) (fun kq v1 v5 w' => ∃ i : Nat, v1 = .int .i64 (1 + 17 * (i : Int)) ∧ v5 = .int .i64 (i : Int) ∧ Aside0 (kq + i = L + 1) ∧ Aside0 (i ≤ L) ∧ Aside0 (Marks g (i * 17) sz w') ∧ Aside0 (But g w w'))
  case atStart => exact ⟨0, rfl, rfl, ⟨rfl⟩, ⟨by omega⟩, HM, ⟨Ext.of (Grow.refl _ _)⟩⟩
  case round =>
    obtain ⟨i, rfl, rfl, E1, E2, HB, HX⟩ := hrel
    cases gk with
    | zero => exact absurd E1.out (by have := E2.out; omega)
    | succ k1 =>
      by_cases d1 : i < L
      · have d1b : decide ((i : Int) < (L : Int)) = true := decide_eq_true (by omega)
        have d1b' : decide (i < L) = true := decide_eq_true d1
        have p1 : (0 ≤ (i : Int)) = True := eq_true (by omega)
        have q1 : ((i : Int) < (L : Int)) = True := eq_true (by omega)
        have q1' : (i < L) = True := eq_true d1
        have hib : i ≤ 1000000 := by omega
        have HI := Aside0.mk (show i * 17 + 17 ≤ sz by have := HS.out; omega)
        obtain ⟨⟨u0, hu0⟩, hf0⟩ := HB.out.cell (show i * 17 < sz by have := HI.out; omega)
        have HD1 := Aside0.mk d1
        have HB1 := Aside0.mk (show Marks g (i * 17 + 1) sz (wr.setCell ⟨g, i * 17, none⟩ (.int .i64 (1 + 17 * (i : Int)))) by
          have := HB.out.set (by have := HI.out; omega)
          rw [mkv_zero] at this
          exact this)
        have HX1 := Aside0.mk (show But g w (wr.setCell ⟨g, i * 17, none⟩ (.int .i64 (1 + 17 * (i : Int)))) from HX.out.set (p := ⟨g, i * 17, none⟩) (.inr rfl) _)
        clear d1 HB HX
        go_wp2
        obtain ⟨w1, hw1⟩ : ∃ w1, w1 = wr.setCell ⟨g, i * 17, none⟩ (.int .i64 (1 + 17 * (i : Int))) := ⟨_, rfl⟩
        rw [← hw1] at HB1 HX1 ⊢
        clear hw1 hu0 hf0
        go_loopg [1, 6] 17 (fun kq v1 v6 w' => ∃ j : Nat, v1 = .int .i64 (1 + 17 * (i : Int) + 1 + (j : Int)) ∧ v6 = .int .i64 (j : Int) ∧ Aside0 (kq + j = 17) ∧ Aside0 (j ≤ 16) ∧ Aside0 (Marks g (i * 17 + 1 + j) sz w') ∧ Aside0 (But g w w'))
        case atStart => exact ⟨0, congrArg (Value.int .i64) (by omega), rfl, ⟨rfl⟩, ⟨by omega⟩, HB1, HX1⟩
        case round =>
          clear HB1 HX1
          obtain ⟨j, rfl, rfl, F1, F2, HB, HX⟩ := hrel
          cases gk with
          | zero => exact absurd F1.out (by have := F2.out; omega)
          | succ k2 =>
            by_cases d2 : j < 16
            · have d2b : decide ((j : Int) < 16) = true := decide_eq_true (by omega)
              have d2b' : decide (j < 16) = true := decide_eq_true d2
              have p2 : (0 ≤ (j : Int)) = True := eq_true (by omega)
              have q2 : ((j : Int) < 16) = True := eq_true (by omega)
              have q2' : (j < 16) = True := eq_true d2
              obtain ⟨⟨u0, hu0⟩, hf0⟩ := HB.out.cell (show i * 17 + 1 + j < sz by have := HI.out; omega)
              have HD2 := Aside0.mk d2
              have HB1 := Aside0.mk (show Marks g (i * 17 + 1 + (j + 1)) sz (wr.setCell ⟨g, i * 17 + 1 + j, none⟩ (.int .u8 (IntKind.u8.wrap (1 + 17 * (i : Int) + 1 + (j : Int))))) by
                have := HB.out.set (by have := HI.out; omega)
                rw [mkv_byte i j d2] at this
                exact this)
              have HX1 := Aside0.mk (show But g w (wr.setCell ⟨g, i * 17 + 1 + j, none⟩ (.int .u8 (IntKind.u8.wrap (1 + 17 * (i : Int) + 1 + (j : Int))))) from HX.out.set (p := ⟨g, i * 17 + 1 + j, none⟩) (.inr rfl) _)
              clear d2 HB HX
              have hjb : j ≤ 16 := by have := HD2.out; omega
              go_wp2
              go_roundg k2
              case measure => have := F1.out; omega
              case rel => exact ⟨j + 1, congrArg (Value.int .i64) (by omega), congrArg (Value.int .i64) (by omega), ⟨by have := F1.out; omega⟩, ⟨by have := HD2.out; omega⟩, HB1, HX1⟩
            · have d2b : decide ((j : Int) < 16) = false := decide_eq_false (by omega)
              have d2b' : decide (j < 16) = false := decide_eq_false d2
              have hj : j = 16 := by have := F2.out; omega
              subst hj
              clear d2
              go_wp2
              go_roundg k1
              case measure => have := E1.out; omega
              case rel => exact ⟨i + 1, congrArg (Value.int .i64) (by omega), congrArg (Value.int .i64) (by omega), ⟨by have := E1.out; omega⟩, ⟨by have := HD1.out; omega⟩, ⟨by rw [Nat.succ_mul]; exact HB.out⟩, HX⟩
      · have d1b : decide ((i : Int) < (L : Int)) = false := decide_eq_false (by omega)
        have d1b' : decide (i < L) = false := decide_eq_false d1
        have hi : i = L := by have := E2.out; omega
        rw [hi] at HB
        have HI := Aside0.mk hi
        clear d1 hi
        go_wp2
        go_ret
        exact ⟨by have := HI.out; subst this; simp, HB.out, HX.out⟩
set_option maxHeartbeats 4000000 in
theorem heldS_calls (L g c sz : Nat) (hL : L ≤ 1000000) (w : World) (h : Marks g (L * 17) sz w) :
    Calls Try.prog 25 #[.slice (some ⟨g, 0, none⟩) L c, .int .i64 1] w fun e w' => e = .returned (.int .i64 (1 + 17 * (L : Int))) ∧ w' = w := by
  have HM := Aside0.mk h
  have HL := Aside0.mk hL
  clear h
  go_enter Try.func25, Try.ntmps25
  go_wp2
  go_loopg [1, 5] (L + 1) (fun kq v1 v5 w' => ∃ i : Nat, v1 = .int .i64 (1 + 17 * (i : Int)) ∧ v5 = .int .i64 (i : Int) ∧ Aside0 (kq + i = L + 1) ∧ Aside0 (i ≤ L) ∧ w' = w)
  case atStart => exact ⟨0, rfl, rfl, ⟨rfl⟩, ⟨by omega⟩, rfl⟩
  case round =>
    obtain ⟨i, rfl, rfl, E1, E2, rfl⟩ := hrel
    cases gk with
    | zero => exact absurd E1.out (by have := E2.out; omega)
    | succ k1 =>
      by_cases d1 : i < L
      · have d1b : decide ((i : Int) < (L : Int)) = true := decide_eq_true (by omega)
        have d1b' : decide (i < L) = true := decide_eq_true d1
        have p1 : (0 ≤ (i : Int)) = True := eq_true (by omega)
        have q1 : ((i : Int) < (L : Int)) = True := eq_true (by omega)
        have q1' : (i < L) = True := eq_true d1
        have hib : i ≤ 1000000 := by omega
        have hu0 := HM.out.at (show i * 17 < L * 17 by omega)
        rw [mkv_zero] at hu0
        have HD1 := Aside0.mk d1
        clear d1
        go_wp2
        clear hu0
        go_loopg [1, 6] 17 (fun kq v1 v6 w' => ∃ j : Nat, v1 = .int .i64 (1 + 17 * (i : Int) + 1 + (j : Int)) ∧ v6 = .int .i64 (j : Int) ∧ Aside0 (kq + j = 17) ∧ Aside0 (j ≤ 16) ∧ w' = wr)
        case atStart => exact ⟨0, congrArg (Value.int .i64) (by omega), rfl, ⟨rfl⟩, ⟨by omega⟩, rfl⟩
        case round =>
          obtain ⟨j, rfl, rfl, F1, F2, rfl⟩ := hrel
          cases gk with
          | zero => exact absurd F1.out (by have := F2.out; omega)
          | succ k2 =>
            by_cases d2 : j < 16
            · have d2b : decide ((j : Int) < 16) = true := decide_eq_true (by omega)
              have d2b' : decide (j < 16) = true := decide_eq_true d2
              have p2 : (0 ≤ (j : Int)) = True := eq_true (by omega)
              have q2 : ((j : Int) < 16) = True := eq_true (by omega)
              have q2' : (j < 16) = True := eq_true d2
              have hu0 := HM.out.at (show i * 17 + 1 + j < L * 17 by have := HD1.out; omega)
              rw [mkv_byte i j d2] at hu0
              have HD2 := Aside0.mk d2
              clear d2
              have hjb : j ≤ 16 := by have := HD2.out; omega
              go_wp2
              go_roundg k2
              case measure => have := F1.out; omega
              case rel => exact ⟨j + 1, congrArg (Value.int .i64) (by omega), congrArg (Value.int .i64) (by omega), ⟨by have := F1.out; omega⟩, ⟨by have := HD2.out; omega⟩, rfl⟩
            · have d2b : decide ((j : Int) < 16) = false := decide_eq_false (by omega)
              have d2b' : decide (j < 16) = false := decide_eq_false d2
              have hj : j = 16 := by have := F2.out; omega
              subst hj
              clear d2
              go_wp2
              go_roundg k1
              case measure => have := E1.out; omega
              case rel => exact ⟨i + 1, congrArg (Value.int .i64) (by omega), congrArg (Value.int .i64) (by omega), ⟨by have := E1.out; omega⟩, ⟨by have := HD1.out; omega⟩, rfl⟩
      · have d1b : decide ((i : Int) < (L : Int)) = false := decide_eq_false (by omega)
        have d1b' : decide (i < L) = false := decide_eq_false d1
        have hi : i = L := by have := E2.out; omega
        have HI := Aside0.mk hi
        clear d1 hi
        go_wp2
        go_ret
        exact ⟨by have := HI.out; subst this; simp, rfl⟩
end Go.Proofs.Ytdmipfmipjpegaa.Hand
