/- Pairs of half diagrams of one size: the program and the reference make one diagram. No condition. -/
import Derived.Test.YteajmmmaiahmnaaPT
namespace Go.Proofs.Yteajmmmaiahmnaa.PU
open Go.RowKit Go.Proofs.Yteajmmmaiahmnaa.Hand Go.Proofs.YteajmmmaiahmnaaW.PrintWords Go.Proofs.YteajmmmaiahmnaaW.PrintLast Go.Proofs.Yteajmmmaiahmnaa.PA Go.Proofs.Yteajmmmaiahmnaa.PT

def chunk (i : Nat) : List (List UInt8) := ((halvesV 8).drop (10 * i)).take 10
set_option maxRecDepth 100000 in
theorem pairs8_0 : ((chunk 0).all fun x => (halvesV 8).all fun y => pairb 8 x y) = true := by decide +kernel
set_option maxRecDepth 100000 in
theorem pairs8_1 : ((chunk 1).all fun x => (halvesV 8).all fun y => pairb 8 x y) = true := by decide +kernel
set_option maxRecDepth 100000 in
theorem pairs8_2 : ((chunk 2).all fun x => (halvesV 8).all fun y => pairb 8 x y) = true := by decide +kernel
set_option maxRecDepth 100000 in
theorem pairs8_3 : ((chunk 3).all fun x => (halvesV 8).all fun y => pairb 8 x y) = true := by decide +kernel
set_option maxRecDepth 100000 in
theorem pairs8_4 : ((chunk 4).all fun x => (halvesV 8).all fun y => pairb 8 x y) = true := by decide +kernel
set_option maxRecDepth 100000 in
theorem pairs8_5 : ((chunk 5).all fun x => (halvesV 8).all fun y => pairb 8 x y) = true := by decide +kernel
set_option maxRecDepth 100000 in
theorem pairs8_6 : ((chunk 6).all fun x => (halvesV 8).all fun y => pairb 8 x y) = true := by decide +kernel
set_option maxRecDepth 100000 in
theorem chunks : halvesV 8 = chunk 0 ++ (chunk 1 ++ (chunk 2 ++ (chunk 3 ++ (chunk 4 ++ (chunk 5 ++ chunk 6))))) := by decide +kernel
theorem pairs8 : ((halvesV 8).all fun x => (halvesV 8).all fun y => pairb 8 x y) = true := by
  rw [List.all_eq_true]
  intro x hx
  rw [chunks] at hx
  simp only [List.mem_append] at hx
  rcases hx with hx | hx | hx | hx | hx | hx | hx
  · exact List.all_eq_true.1 pairs8_0 x hx
  · exact List.all_eq_true.1 pairs8_1 x hx
  · exact List.all_eq_true.1 pairs8_2 x hx
  · exact List.all_eq_true.1 pairs8_3 x hx
  · exact List.all_eq_true.1 pairs8_4 x hx
  · exact List.all_eq_true.1 pairs8_5 x hx
  · exact List.all_eq_true.1 pairs8_6 x hx
theorem pairsAll (n : Nat) (h1 : 1 ≤ n) (h8 : n ≤ 8) : ((halvesV n).all fun x => (halvesV n).all fun y => pairb n x y) = true := by
  obtain rfl | rfl | rfl | rfl | rfl | rfl | rfl | rfl : n = 1 ∨ n = 2 ∨ n = 3 ∨ n = 4 ∨ n = 5 ∨ n = 6 ∨ n = 7 ∨ n = 8 := by omega
  · exact pairs1
  · exact pairs2
  · exact pairs3
  · exact pairs4
  · exact pairs5
  · exact pairs6
  · exact pairs7
  · exact pairs8
theorem pairOk (a0 a1 : ByteArray) (k : Nat) (h0 : spec_l04Is.f k a0 = some true) (h1 : spec_l04Is.f k a1 = some true) (he : a0.size = a1.size) : okP a0.size a0 a1 = true ∧ 1 ≤ a0.size ∧ a0.size ≤ 8 := by
  obtain ⟨l0, e0, m0, hs⟩ := inV a0 k h0
  obtain ⟨l1, e1, m1, _⟩ := inV a1 k h1
  rw [← he] at m1
  have h := List.all_eq_true.1 (List.all_eq_true.1 (pairsAll a0.size hs.1 hs.2) l0 m0) l1 m1
  unfold pairb at h
  rw [← e0, ← e1] at h
  exact ⟨h, hs⟩

end Go.Proofs.Yteajmmmaiahmnaa.PU
