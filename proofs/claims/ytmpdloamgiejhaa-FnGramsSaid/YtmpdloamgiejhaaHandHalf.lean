/- The contract of impl.halves for up to 8 points: it returns a new list of all half diagrams, as the plain function 'hl' tells them. Condition: both numbers lie in 0 to 8. -/
import Derived.Test.YtmpdloamgiejhaaProg
import Derived.Below
import Derived.Deep.Draws
import Derived.Deep.AppendLies
import Derived.Maps.AppendAt
import Derived.OwnWalk
import Derived.Laws.BytesArg
import Derived.Laws.MakeOwn
import Derived.Laws.OwnMore
import Derived.Deep.OwnRows
import Derived.Tactics
import Derived.Lib.ConvBytes
import Derived.Lib.AppendStr
import Derived.Laws.Slices
import Derived.WalkKit
import Derived.KernelRfl
import Derived.RowKit3
import Derived.Deep.LoopGhost
import Derived.Laws.Rows
import Derived.Laws.Tables
import Derived.Laws.EntriesVeiled
import Derived.Lib.Hide
import Derived.Test.YtmpdloamgiejhaaWWords
import Derived.Test.YtmpdloamgiejhaaWLast
import Derived.Test.YtmpdloamgiejhaaWMore
namespace Go.Proofs.Ytmpdloamgiejhaa.Hand
open Go.RowKit Go.Proofs.YtmpdloamgiejhaaW.PrintWords Go.Proofs.YtmpdloamgiejhaaW.PrintLast Go.Proofs.YtmpdloamgiejhaaW.PrintMore
set_option linter.unusedVariables false
set_option linter.unusedSimpArgs false

theorem infoStr : (Try.prog.info? 9).map (fun i => (i.zero, i.size, i.bytes)) = some (some (.string ⟨#[]⟩), 1, 16) := by kernel_rfl
/-- All texts that begin with t, of 'left' signs more, with so many arcs that wait and so many open points to come. -/
def hl : Nat → Nat → Nat → ByteArray → List ByteArray
  | 0, _, _, t => [t]
  | left + 1, un, op, t => ((if un + op + 2 ≤ left + 1 then hl left (un + 1) op (t ++ ⟨#[40]⟩) else []) ++ (if 0 < un then hl left (un - 1) op (t ++ ⟨#[41]⟩) else [])) ++ (if un = 0 ∧ 0 < op then hl left un (op - 1) (t ++ ⟨#[124]⟩) else [])
theorem hl_len : ∀ (left un op : Nat) (t : ByteArray), (hl left un op t).length ≤ 2 ^ left := by
  intro left
  induction left with
  | zero => intro un op t; simp [hl]
  | succ left ih =>
    intro un op t
    have h1 := ih (un + 1) op (t ++ ⟨#[40]⟩)
    have h2 := ih (un - 1) op (t ++ ⟨#[41]⟩)
    have h3 := ih un (op - 1) (t ++ ⟨#[124]⟩)
    rw [Nat.pow_succ]
    simp only [hl]
    rw [List.length_append, List.length_append]
    have e1 : (if un + op + 2 ≤ left + 1 then hl left (un + 1) op (t ++ ⟨#[40]⟩) else []).length ≤ 2 ^ left := by
      split
      · exact h1
      · simp
    by_cases hu : 0 < un
    · rw [if_pos hu, if_neg (by omega : ¬ (un = 0 ∧ 0 < op)), List.length_nil]
      omega
    · rw [if_neg hu, List.length_nil]
      by_cases ho : un = 0 ∧ 0 < op
      · rw [if_pos ho]; omega
      · rw [if_neg ho, List.length_nil]; omega
/-- What the closure finds: n, the list so far, itself. -/
structure St (n bn bo bm base : Nat) (w : World) (v : Value) (xs : List ByteArray) : Prop where
  hn : w.heap[bn]? = some (.cells #[.int .i64 n] 3 (0, 0))
  ho : w.heap[bo]? = some (.cells #[v] 39 (0, 0))
  hm : w.heap[bm]? = some (.cells #[.func (.func 38) #[] #[.pointer (some ⟨bn, 0, none⟩), .pointer (some ⟨bo, 0, none⟩), .pointer (some ⟨bm, 0, none⟩)]] 60 (0, 0))
  hr : Kd.R Kd.string 9 w base (fun k => k ≠ bn ∧ k ≠ bo ∧ k ≠ bm) v xs
  hs : base ≤ w.heap.size
  hb : base ≤ bo
  d1 : bo ≠ bn
  d2 : bo ≠ bm
def MorePost (n bn bo bm base : Nat) (w0 : World) (xs : List ByteArray) (e : Ending) (w' : World) : Prop :=
  e = .returned (.tuple #[]) ∧ ∃ v', St n bn bo bm base w' v' xs ∧ Below base w0 w'
theorem St.after {n bn bo bm base : Nat} {w w1 : World} {v v' : Value} {xs ys : List ByteArray} (h : St n bn bo bm base w v xs) (hg : w.grownBy w1 v.ownBlock) (hr : Kd.R Kd.string 9 w1 base (fun k => k ≠ bn ∧ k ≠ bo ∧ k ≠ bm) v' ys) :
    St n bn bo bm base (w1.setCell ⟨bo, 0, none⟩ v') v' ys := by
  have lt : ∀ {g : Nat} {o : Obj}, w.heap[g]? = some o → g < w.heap.size := fun h => (Array.getElem?_eq_some_iff.1 h).1
  have k1 : w1.heap[bn]? = _ := (hg.block bn (lt h.hn) (fun e => (h.hr.1 _ e.symm).1 rfl)).trans h.hn
  have k2 : w1.heap[bo]? = _ := (hg.block bo (lt h.ho) (fun e => (h.hr.1 _ e.symm).2.1 rfl)).trans h.ho
  have k3 : w1.heap[bm]? = _ := (hg.block bm (lt h.hm) (fun e => (h.hr.1 _ e.symm).2.2 rfl)).trans h.hm
  refine ⟨(heap_setCell_other w1 ⟨bo, 0, none⟩ bn v' (Ne.symm h.d1)).trans k1, ?_, (heap_setCell_other w1 ⟨bo, 0, none⟩ bm v' (Ne.symm h.d2)).trans k3, Kd.R_move hr (fun k hk => Below.heap_setCell _ _ _ _ hk.2.1), ?_, h.hb, h.d1, h.d2⟩
  · rw [heap_setCell_same w1 bo 0 _ _ _ k2]
    rfl
  · have a := hg.size
    have b := h.hs
    simp [World.setCell]
    omega
theorem St.cell_o {n bn bo bm base : Nat} {w w1 : World} {v : Value} {xs : List ByteArray} (h : St n bn bo bm base w v xs) (hg : w.grownBy w1 v.ownBlock) : w1.cell? ⟨bo, 0, none⟩ = some v ∧ w1.frozen? ⟨bo, 0, none⟩ = false := by
  have lt : ∀ {g : Nat} {o : Obj}, w.heap[g]? = some o → g < w.heap.size := fun h => (Array.getElem?_eq_some_iff.1 h).1
  have k2 : w1.heap[bo]? = _ := (hg.block bo (lt h.ho) (fun e => (h.hr.1 _ e.symm).2.1 rfl)).trans h.ho
  exact ⟨by rw [cell_of_row w1 bo 0 _ _ _ k2]; rfl, frozen_of_row w1 bo 0 _ _ k2⟩
theorem St.cell_n {n bn bo bm base : Nat} {w : World} {v : Value} {xs : List ByteArray} (h : St n bn bo bm base w v xs) : w.cell? ⟨bn, 0, none⟩ = some (.int .i64 n) := by rw [cell_of_row w bn 0 _ _ _ h.hn]; rfl
theorem St.cell_m {n bn bo bm base : Nat} {w : World} {v : Value} {xs : List ByteArray} (h : St n bn bo bm base w v xs) : w.cell? ⟨bm, 0, none⟩ = some (.func (.func 38) #[] #[.pointer (some ⟨bn, 0, none⟩), .pointer (some ⟨bo, 0, none⟩), .pointer (some ⟨bm, 0, none⟩)]) := by rw [cell_of_row w bm 0 _ _ _ h.hm]; rfl
theorem St.cell_v {n bn bo bm base : Nat} {w : World} {v : Value} {xs : List ByteArray} (h : St n bn bo bm base w v xs) : w.cell? ⟨bo, 0, none⟩ = some v := by rw [cell_of_row w bo 0 _ _ _ h.ho]; rfl
theorem strCat (a : ByteArray) (x : UInt8) : (a ++ ⟨#[x]⟩).size = a.size + 1 := by
  rw [ByteArray.size_append]; rfl
set_option maxHeartbeats 8000000 in
set_option maxRecDepth 100000 in
theorem more_calls (n bn bo bm base : Nat) (hn8 : n ≤ 8) (w0 : World) (hbs : base ≤ w0.heap.size) : ∀ (left un op : Nat) (t : ByteArray) (v : Value) (xs : List ByteArray) (w : World), t.size + left = n → un ≤ t.size → op ≤ 8 → xs.length + 2 ^ left ≤ 1048576 → St n bn bo bm base w v xs → Below base w0 w →
    Calls Try.prog 38 #[.string t, .int .i64 un, .int .i64 op, .pointer (some ⟨bn, 0, none⟩), .pointer (some ⟨bo, 0, none⟩), .pointer (some ⟨bm, 0, none⟩)] w (MorePost n bn bo bm base w0 (xs ++ hl left un op t)) := by
  intro left
  induction left with
  | zero =>
    intro un op t v xs w hsz hun hop hlen hst hbl
    have c1 := hst.cell_n
    have c2 := hst.cell_v
    have t0 : ((n : Int) - (t.size : Int) == 0) = true := by rw [beq_iff_eq]; omega
    have hsb : t.size ≤ 16 := by omega
    have HL := Aside0.mk (show xs.length + 1 ≤ 1048576 by simpa using hlen)
    have HST := Aside0.mk hst
    have HBL := Aside0.mk hbl
    have HS := Aside0.mk hst.hs
    clear hst hbl hlen hop hsz hun
    go_enter Try.func38, Try.ntmps38
    go_wp2_with ((with_reducible refine gate_builtin (b := .append) (xs := #[.tmp 16, .tmp 18]) rfl ?_); at_builtin; refine Kd.R_append Kd.string (w0 := w0) base rfl (.tmp 16) (.tmp 18) 39 9 (.string ⟨#[]⟩) 16 rfl Try.underlying39 infoStr rfl (by decide) (by omega) v xs t [.string t] (fun k => k ≠ bn ∧ k ≠ bo ∧ k ≠ bm) (fun _ => False) rfl rfl ?aP (fun _ hk => hk.elim) ?aF ?aO ?aB ?aS ?aL ?_; (case aP => exact rfl); (case aB => exact HBL.out); (case aF => exact fun k_ hk => by have a := (Array.getElem?_eq_some_iff.1 HST.out.hn).1; have b := (Array.getElem?_eq_some_iff.1 HST.out.ho).1; have c := (Array.getElem?_eq_some_iff.1 HST.out.hm).1; omega); (case aO => exact HST.out.hr); (case aS => exact HS.out); (case aL => have := HL.out; omega); intro v108 w14 ho hb hg hat; obtain ⟨k1_, k2_⟩ := HST.out.cell_o hg; have n1_ := Aside0.mk (HST.out.after hg ho); have n2_ := Aside0.mk (hb.setCell (p := ⟨bo, 0, none⟩) HST.out.hb v108); obtain ⟨vA_, vc_, vr_⟩ := Kd.R_slice ho; subst vr_; clear ho hb hg hat c1 c2)
    refine bodyPost_ret (results_none rfl _ _ _) rfl ?_
    have n3_ := n1_.out
    have n4_ := n2_.out
    rw [show (xs ++ [t]).length = xs.length + 1 from by simp] at n3_ n4_
    exact ⟨rfl, _, n3_, n4_⟩
  | succ left ih =>
    intro un op t v xs w hsz hun hop hlen hst hbl
    have c1 := hst.cell_n
    have c3 := hst.cell_m
    have t0 : ((n : Int) - (t.size : Int) == 0) = false := by rw [beq_eq_false_iff_ne]; omega
    have hsb : t.size ≤ 8 := by omega
    have hub : un ≤ 8 := by omega
    have hpos : 0 < 2 ^ left := Nat.pow_pos (by omega)
    have HX := Aside0.mk (show t.size + (left + 1) = n ∧ un ≤ t.size ∧ op ≤ 8 ∧ xs.length + (2 ^ left + 2 ^ left) ≤ 1048576 by rw [Nat.pow_succ] at hlen; omega)
    have HB := Lib.hid (hl_len left)
    have HI := Lib.hid ih
    by_cases ha : un + op + 2 ≤ left + 1
    · by_cases hb : 0 < un
      · have ha1 : decide ((un : Int) + (op : Int) + 2 ≤ (n : Int) - (t.size : Int)) = true := decide_eq_true (by omega)
        have hb1 : decide (0 < (un : Int)) = true := decide_eq_true (by omega)
        have hb2 : decide (0 < un) = true := decide_eq_true (by omega)
        have hb3 : ((un : Int) == 0) = false := by rw [beq_eq_false_iff_ne]; omega
        have HE := Lib.hid (show hl (left + 1) un op t = hl left (un + 1) op (t ++ ⟨#[40]⟩) ++ hl left (un - 1) op (t ++ ⟨#[41]⟩) by simp only [hl]; rw [if_pos (by omega : un + op + 2 ≤ left + 1), if_pos (by omega : 0 < un), if_neg (by omega : ¬ (un = 0 ∧ 0 < op))]; simp)
        have hup : 0 < un := by omega
        have hc := HI.out (un + 1) op (t ++ ⟨#[40]⟩) v (xs) w (by rw [strCat]; omega) (by rw [strCat]; omega) (by omega) (by (try simp only [List.length_append]); omega) hst hbl
        rw [show ((un + 1 : Nat) : Int) = (un : Int) + 1 from by omega] at hc
        have HC0 := Lib.hid hc
        clear hc ih hst hbl hlen hsz hun hpos
        try clear ha
        try clear hb
        try clear hc0
        go_enter Try.func38, Try.ntmps38
        go_wp2_with fail
        refine HC0.out.mono ?_
        intro e w1 hpost
        obtain ⟨rfl, v1, hst1, hbl1⟩ := hpost
        clear c3
        have c3 := hst1.cell_m
        obtain ⟨x1, x2, x3, x4⟩ := HX.out
        have x5 := HB.out (un + 1) op (t ++ ⟨#[40]⟩)
        have hc := HI.out (un - 1) op (t ++ ⟨#[41]⟩) v1 (xs ++ hl left (un + 1) op (t ++ ⟨#[40]⟩)) w1 (by rw [strCat]; omega) (by rw [strCat]; omega) (by omega) (by (try simp only [List.length_append]); omega) hst1 hbl1
        rw [show ((un - 1 : Nat) : Int) = (un : Int) - 1 from by omega] at hc
        have HC1 := Lib.hid hc
        clear hc x1 x2 x3 x4 x5 hst1 hbl1 HC0
        go_wp2_with fail
        refine HC1.out.mono ?_
        intro e w2 hpost
        obtain ⟨rfl, v2, hst2, hbl2⟩ := hpost
        have H2 := Aside0.mk hst2
        have H3 := Aside0.mk hbl2
        clear hst2 hbl2 HC1
        go_wp2
        go_end0
        rw [HE.out, ← List.append_assoc]
        exact ⟨rfl, v2, H2.out, H3.out⟩
      · by_cases hc0 : 0 < op
        · have ha1 : decide ((un : Int) + (op : Int) + 2 ≤ (n : Int) - (t.size : Int)) = true := decide_eq_true (by omega)
          have hb1 : decide (0 < (un : Int)) = false := decide_eq_false (by omega)
          have hb2 : decide (0 < un) = false := decide_eq_false (by omega)
          have hb3 : ((un : Int) == 0) = true := by rw [beq_iff_eq]; omega
          have hc1 : decide (0 < (op : Int)) = true := decide_eq_true (by omega)
          have hc2 : decide (0 < op) = true := decide_eq_true (by omega)
          have HE := Lib.hid (show hl (left + 1) un op t = hl left (un + 1) op (t ++ ⟨#[40]⟩) ++ hl left un (op - 1) (t ++ ⟨#[124]⟩) by simp only [hl]; rw [if_pos (by omega : un + op + 2 ≤ left + 1), if_neg (by omega : ¬ 0 < un), if_pos (by omega : un = 0 ∧ 0 < op)]; simp)
          have hopp : 0 < op := by omega
          have hc := HI.out (un + 1) op (t ++ ⟨#[40]⟩) v (xs) w (by rw [strCat]; omega) (by rw [strCat]; omega) (by omega) (by (try simp only [List.length_append]); omega) hst hbl
          rw [show ((un + 1 : Nat) : Int) = (un : Int) + 1 from by omega] at hc
          have HC0 := Lib.hid hc
          clear hc ih hst hbl hlen hsz hun hpos
          try clear ha
          try clear hb
          try clear hc0
          go_enter Try.func38, Try.ntmps38
          go_wp2_with fail
          refine HC0.out.mono ?_
          intro e w1 hpost
          obtain ⟨rfl, v1, hst1, hbl1⟩ := hpost
          clear c3
          have c3 := hst1.cell_m
          obtain ⟨x1, x2, x3, x4⟩ := HX.out
          have x5 := HB.out (un + 1) op (t ++ ⟨#[40]⟩)
          have hc := HI.out un (op - 1) (t ++ ⟨#[124]⟩) v1 (xs ++ hl left (un + 1) op (t ++ ⟨#[40]⟩)) w1 (by rw [strCat]; omega) (by rw [strCat]; omega) (by omega) (by (try simp only [List.length_append]); omega) hst1 hbl1
          rw [show ((op - 1 : Nat) : Int) = (op : Int) - 1 from by omega] at hc
          have HC1 := Lib.hid hc
          clear hc x1 x2 x3 x4 x5 hst1 hbl1 HC0
          go_wp2_with fail
          refine HC1.out.mono ?_
          intro e w2 hpost
          obtain ⟨rfl, v2, hst2, hbl2⟩ := hpost
          have H2 := Aside0.mk hst2
          have H3 := Aside0.mk hbl2
          clear hst2 hbl2 HC1
          go_wp2
          go_end0
          rw [HE.out, ← List.append_assoc]
          exact ⟨rfl, v2, H2.out, H3.out⟩
        · have ha1 : decide ((un : Int) + (op : Int) + 2 ≤ (n : Int) - (t.size : Int)) = true := decide_eq_true (by omega)
          have hb1 : decide (0 < (un : Int)) = false := decide_eq_false (by omega)
          have hb2 : decide (0 < un) = false := decide_eq_false (by omega)
          have hb3 : ((un : Int) == 0) = true := by rw [beq_iff_eq]; omega
          have hc1 : decide (0 < (op : Int)) = false := decide_eq_false (by omega)
          have hc2 : decide (0 < op) = false := decide_eq_false (by omega)
          have HE := Lib.hid (show hl (left + 1) un op t = hl left (un + 1) op (t ++ ⟨#[40]⟩) by simp only [hl]; rw [if_pos (by omega : un + op + 2 ≤ left + 1), if_neg (by omega : ¬ 0 < un), if_neg (by omega : ¬ (un = 0 ∧ 0 < op))]; simp)
          have hc := HI.out (un + 1) op (t ++ ⟨#[40]⟩) v (xs) w (by rw [strCat]; omega) (by rw [strCat]; omega) (by omega) (by (try simp only [List.length_append]); omega) hst hbl
          rw [show ((un + 1 : Nat) : Int) = (un : Int) + 1 from by omega] at hc
          have HC0 := Lib.hid hc
          clear hc ih hst hbl hlen hsz hun hpos
          try clear ha
          try clear hb
          try clear hc0
          go_enter Try.func38, Try.ntmps38
          go_wp2_with fail
          refine HC0.out.mono ?_
          intro e w1 hpost
          obtain ⟨rfl, v1, hst1, hbl1⟩ := hpost
          have H2 := Aside0.mk hst1
          have H3 := Aside0.mk hbl1
          clear hst1 hbl1 HC0
          go_wp2
          go_end0
          rw [HE.out]
          exact ⟨rfl, v1, H2.out, H3.out⟩
    · by_cases hb : 0 < un
      · have ha1 : decide ((un : Int) + (op : Int) + 2 ≤ (n : Int) - (t.size : Int)) = false := decide_eq_false (by omega)
        have hb1 : decide (0 < (un : Int)) = true := decide_eq_true (by omega)
        have hb2 : decide (0 < un) = true := decide_eq_true (by omega)
        have hb3 : ((un : Int) == 0) = false := by rw [beq_eq_false_iff_ne]; omega
        have HE := Lib.hid (show hl (left + 1) un op t = hl left (un - 1) op (t ++ ⟨#[41]⟩) by simp only [hl]; rw [if_neg (by omega : ¬ un + op + 2 ≤ left + 1), if_pos (by omega : 0 < un), if_neg (by omega : ¬ (un = 0 ∧ 0 < op))]; simp)
        have hup : 0 < un := by omega
        have hc := HI.out (un - 1) op (t ++ ⟨#[41]⟩) v (xs) w (by rw [strCat]; omega) (by rw [strCat]; omega) (by omega) (by (try simp only [List.length_append]); omega) hst hbl
        rw [show ((un - 1 : Nat) : Int) = (un : Int) - 1 from by omega] at hc
        have HC0 := Lib.hid hc
        clear hc ih hst hbl hlen hsz hun hpos
        try clear ha
        try clear hb
        try clear hc0
        go_enter Try.func38, Try.ntmps38
        go_wp2_with fail
        refine HC0.out.mono ?_
        intro e w1 hpost
        obtain ⟨rfl, v1, hst1, hbl1⟩ := hpost
        have H2 := Aside0.mk hst1
        have H3 := Aside0.mk hbl1
        clear hst1 hbl1 HC0
        go_wp2
        go_end0
        rw [HE.out]
        exact ⟨rfl, v1, H2.out, H3.out⟩
      · by_cases hc0 : 0 < op
        · have ha1 : decide ((un : Int) + (op : Int) + 2 ≤ (n : Int) - (t.size : Int)) = false := decide_eq_false (by omega)
          have hb1 : decide (0 < (un : Int)) = false := decide_eq_false (by omega)
          have hb2 : decide (0 < un) = false := decide_eq_false (by omega)
          have hb3 : ((un : Int) == 0) = true := by rw [beq_iff_eq]; omega
          have hc1 : decide (0 < (op : Int)) = true := decide_eq_true (by omega)
          have hc2 : decide (0 < op) = true := decide_eq_true (by omega)
          have HE := Lib.hid (show hl (left + 1) un op t = hl left un (op - 1) (t ++ ⟨#[124]⟩) by simp only [hl]; rw [if_neg (by omega : ¬ un + op + 2 ≤ left + 1), if_neg (by omega : ¬ 0 < un), if_pos (by omega : un = 0 ∧ 0 < op)]; simp)
          have hopp : 0 < op := by omega
          have hc := HI.out un (op - 1) (t ++ ⟨#[124]⟩) v (xs) w (by rw [strCat]; omega) (by rw [strCat]; omega) (by omega) (by (try simp only [List.length_append]); omega) hst hbl
          rw [show ((op - 1 : Nat) : Int) = (op : Int) - 1 from by omega] at hc
          have HC0 := Lib.hid hc
          clear hc ih hst hbl hlen hsz hun hpos
          try clear ha
          try clear hb
          try clear hc0
          go_enter Try.func38, Try.ntmps38
          go_wp2_with fail
          refine HC0.out.mono ?_
          intro e w1 hpost
          obtain ⟨rfl, v1, hst1, hbl1⟩ := hpost
          have H2 := Aside0.mk hst1
          have H3 := Aside0.mk hbl1
          clear hst1 hbl1 HC0
          go_wp2
          go_end0
          rw [HE.out]
          exact ⟨rfl, v1, H2.out, H3.out⟩
        · have ha1 : decide ((un : Int) + (op : Int) + 2 ≤ (n : Int) - (t.size : Int)) = false := decide_eq_false (by omega)
          have hb1 : decide (0 < (un : Int)) = false := decide_eq_false (by omega)
          have hb2 : decide (0 < un) = false := decide_eq_false (by omega)
          have hb3 : ((un : Int) == 0) = true := by rw [beq_iff_eq]; omega
          have hc1 : decide (0 < (op : Int)) = false := decide_eq_false (by omega)
          have hc2 : decide (0 < op) = false := decide_eq_false (by omega)
          have HE := Lib.hid (show hl (left + 1) un op t = [] by simp only [hl]; rw [if_neg (by omega : ¬ un + op + 2 ≤ left + 1), if_neg (by omega : ¬ 0 < un), if_neg (by omega : ¬ (un = 0 ∧ 0 < op))]; simp)
          have H2 := Aside0.mk hst
          have H3 := Aside0.mk hbl
          clear ih hst hbl hlen hsz hun hpos
          try clear ha
          try clear hb
          try clear hc0
          go_enter Try.func38, Try.ntmps38
          go_wp2
          go_end0
          rw [HE.out, List.append_nil]
          exact ⟨rfl, v, H2.out, H3.out⟩
theorem R_emptyStr {w : World} {base g e : Nat} {ok : Nat → Prop} (hg : w.heap[g]? = some (.cells #[] e (0, 0))) (hb : base ≤ g) (hok : ok g) : Kd.R Kd.string e w base ok (.slice (some ⟨g, 0, none⟩) 0 0) [] := by
  refine ⟨fun k hk => ?_, [], ?_, Reps.none _ _⟩
  · simp [Value.ownBlock] at hk
    subst hk
    exact hok
  · exact ⟨by simp, .inr ⟨g, 0, #[], rfl, hb, hg, Nat.le_refl _, by unfold maxLen; omega, by simp, by simp⟩⟩
/-- impl.halves in plain words. -/
def impl_halves.f (a0 a1 : Int) : Option (List ByteArray) := if 0 ≤ a0 ∧ a0 ≤ 8 ∧ 0 ≤ a1 ∧ a1 ≤ 8 then some (hl a0.toNat 0 a1.toNat ⟨#[]⟩) else none
/-- The world in which the closure is called first. -/
def brkWorld (w : World) (n : Nat) : World :=
  (((w.alloc (.cells #[.int .i64 n] 3)).alloc (.cells #[] 9)).alloc (.cells #[.slice (some ⟨w.heap.size + 1, 0, none⟩) 0 0] 39)).alloc (.cells #[.func (.func 38) #[] #[.pointer (some ⟨w.heap.size, 0, none⟩), .pointer (some ⟨w.heap.size + 1 + 1, 0, none⟩), .pointer (some ⟨w.heap.size + 1 + 1 + 1, 0, none⟩)]] 60)
theorem size_alloc' (w : World) (o : Obj) : (w.alloc o).heap.size = w.heap.size + 1 := by show (w.heap.push o).size = _; simp
theorem heap_at_new (w : World) (o : Obj) (k : Nat) (h : k = w.heap.size) : (w.alloc o).heap[k]? = some o := by subst h; exact heap_alloc_new w o
theorem brk_start (w : World) (n : Nat) : St n w.heap.size (w.heap.size + 1 + 1) (w.heap.size + 1 + 1 + 1) w.heap.size (brkWorld w n) (.slice (some ⟨w.heap.size + 1, 0, none⟩) 0 0) [] := by
  refine ⟨?_, ?_, ?_, ?_, ?_, by omega, by omega, by omega⟩
  · unfold brkWorld
    rw [Below.heap_alloc _ _ _ (by rw [size_alloc', size_alloc', size_alloc']; omega), Below.heap_alloc _ _ _ (by rw [size_alloc', size_alloc']; omega), Below.heap_alloc _ _ _ (by rw [size_alloc']; omega)]
    exact heap_at_new _ _ _ rfl
  · unfold brkWorld
    rw [Below.heap_alloc _ _ _ (by rw [size_alloc', size_alloc', size_alloc']; omega)]
    exact heap_at_new _ _ _ (by rw [size_alloc', size_alloc'])
  · unfold brkWorld
    exact heap_at_new _ _ _ (by rw [size_alloc', size_alloc', size_alloc'])
  · refine R_emptyStr ?_ (by omega) (by omega)
    unfold brkWorld
    rw [Below.heap_alloc _ _ _ (by rw [size_alloc', size_alloc', size_alloc']; omega), Below.heap_alloc _ _ _ (by rw [size_alloc', size_alloc']; omega)]
    exact heap_at_new _ _ _ (by rw [size_alloc'])
  · unfold brkWorld
    rw [size_alloc', size_alloc', size_alloc', size_alloc']
    omega
set_option maxHeartbeats 8000000 in
set_option maxRecDepth 100000 in
theorem impl_halves.calls (a0 a1 : Int) (r : List ByteArray) (w : World) (h : impl_halves.f a0 a1 = some r) :
    Calls Try.prog 21 #[.int .i64 a0, .int .i64 a1] w fun e w' => ∃ v0_ : Value, e = .returned (v0_) ∧ Kd.R (Kd.string) 9 w' w.heap.size (fun _ => True) v0_ r ∧ Below w.heap.size w w' := by
  unfold impl_halves.f at h
  by_cases hr : 0 ≤ a0 ∧ a0 ≤ 8 ∧ 0 ≤ a1 ∧ a1 ≤ 8
  · rw [if_pos hr] at h
    obtain rfl := Option.some.inj h
    obtain ⟨n, rfl⟩ := Int.eq_ofNat_of_zero_le hr.1
    obtain ⟨m, rfl⟩ := Int.eq_ofNat_of_zero_le hr.2.2.1
    have hb0 : Below w.heap.size w (brkWorld w n) := by
      unfold brkWorld
      exact below_alloc (below_alloc (below_alloc (below_alloc (Below.refl _ _) _) _) _) _
    have hcall := more_calls n w.heap.size (w.heap.size + 1 + 1) (w.heap.size + 1 + 1 + 1) w.heap.size (by omega) w (Nat.le_refl _) n 0 m ⟨#[]⟩ _ [] (brkWorld w n) (by show 0 + n = n; omega) (by omega) (by omega) (by
      have : 2 ^ n ≤ 2 ^ 16 := Nat.pow_le_pow_right (by omega) (by omega)
      simp
      omega) (brk_start w n) hb0
    rw [Int.toNat_natCast, Int.toNat_natCast]
    rw [List.nil_append] at hcall
    generalize hl n 0 m ⟨#[]⟩ = out at hcall ⊢
    unfold brkWorld at hcall
    have HC := Lib.hid hcall
    clear hcall hb0 h hr
    go_enter Try.func21, Try.ntmps21
    go_wp2_with fail
    refine HC.out.mono ?_
    intro e w1 hpost
    obtain ⟨rfl, v1, hst1, hbl1⟩ := hpost
    have c2 := hst1.cell_v
    have H2 := Aside0.mk hst1
    have H3 := Aside0.mk hbl1
    clear hst1 hbl1 HC
    go_wp2
    go_ret
    exact ⟨v1, rfl, Kd.R_mono H2.out.hr (fun _ _ => trivial), H3.out⟩
  · rw [if_neg hr] at h
    cases h
end Go.Proofs.Ytmpdloamgiejhaa.Hand
