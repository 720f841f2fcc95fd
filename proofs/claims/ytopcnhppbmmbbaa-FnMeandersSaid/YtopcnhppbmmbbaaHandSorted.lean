/- slices.Sorted(slices.Values(s)) at []int64: the contract. Condition: said in the theorem. -/
import Derived.Test.YtopcnhppbmmbbaaHandSeq
import Derived.Shelf.SortM.Plain
import Derived.Shelf.SortM.SortNone
import Derived.Shelf.SlGeneric
import Derived.Ground.SlgmProg
import Derived.Shelf.SlIterI.Sorted
namespace Go.Proofs.Ytopcnhppbmmbbaa.Hand
open Go.RowKit Go.Maps Go.Sort Go.Shelf
set_option linter.unusedVariables false
set_option linter.unusedSimpArgs false

shelf_lay_g SlLaysM.n5 Slgm 5 at Try 46 as Try.sortA
theorem sort_in (m : Nat) (blk off cap : Nat) (ss : List Int) (W : World) (hH : Holds (Value.int .i64) W blk off ss.toArray) (hb : blk < W.heap.size) (hs : ss.length < 4611686018427387904) :
    CallsIn Fence.wide m Try.prog 46 #[.slice (some ⟨blk, off, none⟩) ss.length cap] W fun e w' => e = .returned (.tuple #[]) ∧ ∃ k os, w' = grow (putRow (Value.int .i64) (Sort.ahead W k) blk off (ss.mergeSort fun x y => decide (x ≤ y)).toArray) os :=
  callsIn_wide.2 (AnyM.slices_Sort_int Try.sortA blk off cap ss W hH hb hs)
theorem sort_none (m : Nat) (p : Option Addr) (cap : Nat) (W : World) : CallsIn Fence.wide m Try.prog 46 #[.slice p 0 cap] W fun e w' => e = .returned (.tuple #[]) ∧ w' = W :=
  callsIn_wide.2 (AnyM.slices_Sort_int_none Try.sortA p cap W)
set_option maxRecDepth 100000 in
set_option maxHeartbeats 2000000 in
theorem sorted_core (Bs : Nat) (zs : List Int) (hl : zs.length ≤ 1048576) (w : World) (hseq : SeqB Fence.wide (6 - 1 - 1 - 1) Try.prog 47 #[.pointer (some ⟨Bs, 0, none⟩)] encZ (fun ss => ss = zs) zs.length w) :
    CallsIn Fence.wide 6 Try.prog 36 #[.func (.func 47) #[] #[.pointer (some ⟨Bs, 0, none⟩)]] w fun e w' => ∃ (v : Value), e = .returned v ∧
      w'.ownsRow w.heap.size 2 1 v zs.length ((zs.mergeSort (fun x y => decide (x ≤ y))).map (Value.int .i64)) ∧ Below w.heap.size w w' := by
  refine callsIn_of_wp Try.func36 rfl trivial ?_ rfl
  simp only [Try.ntmps36, List.size_toArray, List.length_cons, List.length_nil, Nat.reduceAdd, Nat.reduceSub, Array.replicate_succ, Array.replicate_zero, List.push_toArray, List.append_toArray, List.nil_append, List.cons_append]
  have hf18 : Fence.wide.fn 45 := trivial
  have hf19 : Fence.wide.fn 46 := trivial
  gi_wp2_with (gi_at_call 45; refine (Sq.collect_in Fence.wide (6 - 1) trivial trivial rfl (by omega) 47 #[.pointer (some ⟨Bs, 0, none⟩)] trivial (enters_of Try.func47 (by kernel_rfl) rfl) _ zs.length (by unfold maxLen; omega) (by omega) _ hseq).mono ?_; rintro e W ⟨v, ss, rfl, rfl, hrow, hnil, hb⟩)
  rcases hrow.2 with ⟨rfl, hz⟩ | ⟨gb, cap', cur, rfl, hbase, hgb, r1, r2, r3, r4⟩
  · have hss : ss = [] := List.eq_nil_of_length_eq_zero hz
    subst hss
    gi_wp2_with (gi_at_call 46; refine (sort_none _ none 0 W).mono ?_; rintro e w' ⟨rfl, rfl⟩)
    go_ret
    exact ⟨.slice none 0 0, rfl, by simpa using hrow, hb⟩
  · have hH : Holds (Value.int .i64) W gb 0 ss.toArray := holds_of_block_i hgb (by have h_ := r4; rw [Nat.mul_one] at h_; exact h_)
    have hgl : gb < W.heap.size := (Array.getElem?_eq_some_iff.1 hgb).1
    have cS := sort_in (6 - 1) gb 0 cap' ss W hH hgl (by omega)
    gi_wp2_with (gi_at_call 46; refine cS.mono ?_; rintro e w' ⟨rfl, nn, os, rfl⟩)
    go_ret
    exact ⟨_, rfl, ownsRow_sorted_i (by simp) hbase hgb r1 r2 r3, hb.grown (grownBy_sorted_i _) hb.size (fun j hj => by cases hj; exact hbase)⟩
set_option maxRecDepth 100000 in
set_option maxHeartbeats 2000000 in
theorem sorted_in (Bs : Nat) (ad : Addr) (cap : Nat) (zs : List Int) (hl : zs.length ≤ 1048576) (w : World) (hBw : Bs < w.heap.size)
    (hBs : w.cell? ⟨Bs, 0, none⟩ = some (.slice (some ad) zs.length cap)) (hc : ∀ j, j < zs.length → w.cell? (ad.add j) = some (.int .i64 (zs[j]?.getD 0))) :
    CallsIn Fence.wide 6 Try.prog 36 #[.func (.func 47) #[] #[.pointer (some ⟨Bs, 0, none⟩)]] w fun e w' => ∃ (v : Value), e = .returned v ∧
      w'.ownsRow w.heap.size 2 1 v zs.length ((zs.mergeSort (fun x y => decide (x ≤ y))).map (Value.int .i64)) ∧ Below w.heap.size w w' := by
  have hseq : SeqB Fence.wide (6 - 1 - 1 - 1) Try.prog 47 #[.pointer (some ⟨Bs, 0, none⟩)] encZ (fun ss => ss = zs) zs.length w := fun l J W hW hA hJB hY h0 =>
    Sq.values1 Fence.wide _ trivial rfl (by omega) l Bs ad cap zs (by omega) w hBw hBs hc J hJB hY W h0
  exact sorted_core Bs zs hl w hseq
/-- **slices.Sorted(slices.Values(s))**, as a plain contract. -/
theorem sorted_calls (Bs : Nat) (ad : Addr) (cap : Nat) (zs : List Int) (hl : zs.length ≤ 1048576) (w : World) (hBw : Bs < w.heap.size)
    (hBs : w.cell? ⟨Bs, 0, none⟩ = some (.slice (some ad) zs.length cap)) (hc : ∀ j, j < zs.length → w.cell? (ad.add j) = some (.int .i64 (zs[j]?.getD 0))) :
    Calls Try.prog 36 #[.func (.func 47) #[] #[.pointer (some ⟨Bs, 0, none⟩)]] w fun e w' => ∃ (v : Value), e = .returned v ∧
      w'.ownsRow w.heap.size 2 1 v zs.length ((zs.mergeSort (fun x y => decide (x ≤ y))).map (Value.int .i64)) ∧ Below w.heap.size w w' :=
  (callsIn_wide (n := 6)).1 (sorted_in Bs ad cap zs hl w hBw hBs hc)
theorem sorted_empty (Bs : Nat) (A : Option Addr) (cap : Nat) (w : World) (hBw : Bs < w.heap.size) (hBs : w.cell? ⟨Bs, 0, none⟩ = some (.slice A 0 cap)) :
    Calls Try.prog 36 #[.func (.func 47) #[] #[.pointer (some ⟨Bs, 0, none⟩)]] w fun e w' => ∃ (v : Value), e = .returned v ∧
      w'.ownsRow w.heap.size 2 1 v 0 [] ∧ Below w.heap.size w w' :=
  ((callsIn_wide (n := 6)).1 (sorted_core Bs [] (by simp) w (fun l J W hW hA hJB hY h0 => Sq.values1_nil Fence.wide _ trivial rfl l Bs w hBw A cap hBs J hJB W h0))).mono fun e w' ⟨v, he, hr, hb⟩ => ⟨v, he, by simpa using hr, hb⟩
/-- slices.Values, as a plain contract. -/
theorem values_calls (a : Option Addr) (len cap : Nat) (w : World) : Calls Try.prog 37 #[.slice a len cap] w fun e w' => e = .returned (.func (.func 47) #[] #[.pointer (some ⟨w.heap.size, 0, none⟩)]) ∧ w' = w.alloc (.cells #[.slice a len cap] 29) :=
  (callsIn_wide (n := 6)).1 (Sq.values_in Fence.wide 6 trivial rfl a len cap w)
end Go.Proofs.Ytopcnhppbmmbbaa.Hand
