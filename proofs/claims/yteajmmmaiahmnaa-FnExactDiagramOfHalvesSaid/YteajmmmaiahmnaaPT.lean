/- Pairs of half diagrams of at most seven points: the program and the reference make one diagram. No condition. -/
import Derived.Test.YteajmmmaiahmnaaPA
import Derived.Test.YteajmmmaiahmnaaHandOfH
namespace Go.Proofs.Yteajmmmaiahmnaa.PT
open Go.RowKit Go.Proofs.Yteajmmmaiahmnaa.Hand Go.Proofs.YteajmmmaiahmnaaW.PrintWords Go.Proofs.YteajmmmaiahmnaaW.PrintLast Go.Proofs.Yteajmmmaiahmnaa.PA


def arc8b (o : List Int) : Bool := o.length == 8 && (List.range 8).all fun j => decide (0 ≤ o.getD j 0 ∧ o.getD j 0 < 8)
theorem arc8_of {o : List Int} (h : arc8b o = true) : Arc8 o := by
  unfold arc8b at h
  rw [Bool.and_eq_true, beq_iff_eq, List.all_eq_true] at h
  exact ⟨h.1, fun j hj => of_decide_eq_true (h.2 j (List.mem_range.2 hj))⟩
def arcNb (p : List Int) (n : Nat) : Bool := p.length == n && (List.range n).all fun j => decide (-1 ≤ p.getD j 0 ∧ p.getD j 0 < (n : Int))
theorem arcN_of {p : List Int} {n : Nat} (h : arcNb p n = true) : ArcN p n := by
  unfold arcNb at h
  rw [Bool.and_eq_true, beq_iff_eq, List.all_eq_true] at h
  exact ⟨h.1, fun j hj => of_decide_eq_true (h.2 j (List.mem_range.2 hj))⟩
def opnb (q : List Int) (n : Nat) : Bool := decide (q.length ≤ 8) && q.all fun x => decide (0 ≤ x ∧ x < (n : Int))
theorem opn_of {q : List Int} {n : Nat} (h : opnb q n = true) : q.length ≤ 8 ∧ ∀ x ∈ q, 0 ≤ x ∧ x < (n : Int) := by
  unfold opnb at h
  rw [Bool.and_eq_true, List.all_eq_true] at h
  exact ⟨of_decide_eq_true h.1, fun x hx => of_decide_eq_true (h.2 x hx)⟩
/-- What is asked of a pair of half diagrams of one size. -/
def okP (n : Nat) (x y : ByteArray) : Bool :=
  match spec_l04Arcs.f 64 x, spec_l04Arcs.f 64 y, impl_arcs.f 64 x, impl_arcs.f 64 y, impl_openPoints.f 64 x, impl_openPoints.f 64 y, spec_l04Open.f 64 x, spec_l04Open.f 64 y with
  | some o1, some o2, some p0, some p1, some q0, some q1, some t0, some t1 =>
    p0.2 && p1.2 && arc8b o1.1 && arc8b o2.1 && arcNb p0.1 n && arcNb p1.1 n && opnb q0 n && opnb q1 n && (decide (t0 = t1) == decide (q0.length = q1.length)) &&
      (if q0.length = q1.length then decide ((F1 o1.1 n).length = (S1 n o2.1 n).length) && (B2 (F1 o1.1 n) (S1 n o2.1 n) (B1 n o1.1 o2.1 n) (F1 o1.1 n).length == G3 n q0 q1 (Gs n p0.1 p1.1 2) q0.length) else true)
  | _, _, _, _, _, _, _, _ => false
def pairb (n : Nat) (x y : List UInt8) : Bool := okP n ⟨x.toArray⟩ ⟨y.toArray⟩
set_option maxRecDepth 100000 in
theorem pairs1 : ((halvesV 1).all fun x => (halvesV 1).all fun y => pairb 1 x y) = true := by decide +kernel
set_option maxRecDepth 100000 in
theorem pairs2 : ((halvesV 2).all fun x => (halvesV 2).all fun y => pairb 2 x y) = true := by decide +kernel
set_option maxRecDepth 100000 in
theorem pairs3 : ((halvesV 3).all fun x => (halvesV 3).all fun y => pairb 3 x y) = true := by decide +kernel
set_option maxRecDepth 100000 in
theorem pairs4 : ((halvesV 4).all fun x => (halvesV 4).all fun y => pairb 4 x y) = true := by decide +kernel
set_option maxRecDepth 100000 in
theorem pairs5 : ((halvesV 5).all fun x => (halvesV 5).all fun y => pairb 5 x y) = true := by decide +kernel
set_option maxRecDepth 100000 in
theorem pairs6 : ((halvesV 6).all fun x => (halvesV 6).all fun y => pairb 6 x y) = true := by decide +kernel
set_option maxRecDepth 100000 in
theorem pairs7 : ((halvesV 7).all fun x => (halvesV 7).all fun y => pairb 7 x y) = true := by decide +kernel

end Go.Proofs.Yteajmmmaiahmnaa.PT
