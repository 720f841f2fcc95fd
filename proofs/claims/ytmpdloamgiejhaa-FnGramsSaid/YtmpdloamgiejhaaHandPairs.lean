/- spec.l04Pair and impl.paired in plain words, for the printed texts of their callers. No condition. -/
import Derived.Test.YtmpdloamgiejhaaHandPaired
namespace Go.Proofs.Ytmpdloamgiejhaa.Hand
open Go.RowKit Go.Proofs.YtmpdloamgiejhaaW.PrintWords Go.Proofs.YtmpdloamgiejhaaW.PrintLast Go.Proofs.YtmpdloamgiejhaaW.PrintMore
set_option linter.unusedVariables false
set_option linter.unusedSimpArgs false

def arc8b (o : List Int) : Bool := o.length == 8 && (List.range 8).all fun j => decide (0 ≤ o.getD j 0 ∧ o.getD j 0 < 8)
theorem arc8_of {o : List Int} (h : arc8b o = true) : Arc8 o := by
  unfold arc8b at h
  simp only [Bool.and_eq_true, beq_iff_eq, List.all_eq_true, List.mem_range, decide_eq_true_eq] at h
  exact ⟨h.1, h.2⟩
def arcNb (p : List Int) (n : Nat) : Bool := p.length == n && (List.range n).all fun j => decide (-1 ≤ p.getD j 0 ∧ p.getD j 0 < (n : Int))
theorem arcN_of {p : List Int} {n : Nat} (h : arcNb p n = true) : ArcN p n := by
  unfold arcNb at h
  simp only [Bool.and_eq_true, beq_iff_eq, List.all_eq_true, List.mem_range, decide_eq_true_eq] at h
  exact ⟨h.1, h.2⟩
def opnb (q : List Int) (n : Nat) : Bool := decide (q.length ≤ 8) && q.all fun x => decide (0 ≤ x ∧ x < (n : Int))
/-- spec.l04Pair in plain words. -/
def spec_l04Pair.f (a0 a1 : ByteArray) : Option (Bool × Int) :=
  (spec_l04Arcs.f 100 a0).bind fun A => (spec_l04Arcs.f 100 a1).bind fun B =>
    if a0.size ≤ 8 ∧ arc8b A.1 = true ∧ arc8b B.1 = true then (pl2 100 a0.size A.1 B.1 0 (List.replicate 8 false) true).bind fun r => some (r.1, (r.2 : Int)) else none
theorem spec_l04Pair.calls (a0 a1 : ByteArray) (r1 : Bool) (r2 : Int) (w : World) (h : spec_l04Pair.f a0 a1 = some (r1, r2)) :
    Calls Try.prog 44 #[.string a0, .string a1] w fun e w' => e = .returned (.tuple #[.bool r1, .int .i64 r2]) ∧ Below w.heap.size w w' := by
  unfold spec_l04Pair.f at h
  obtain ⟨⟨o1, b1⟩, h1, h⟩ := Option.bind_eq_some_iff.1 h
  obtain ⟨⟨o2, b2⟩, h2, h⟩ := Option.bind_eq_some_iff.1 h
  split at h
  · rename_i hc
    obtain ⟨⟨r, l⟩, h3, h⟩ := Option.bind_eq_some_iff.1 h
    obtain ⟨rfl, rfl⟩ := (Prod.mk.injEq _ _ _ _ ▸ Option.some.inj h)
    exact spair_calls 100 a0 a1 o1 o2 b1 b2 100 h1 h2 (arc8_of hc.2.1) (arc8_of hc.2.2) hc.1 r l h3 w
  · simp at h
/-- impl.paired in plain words. -/
def impl_paired.f (a0 a1 : ByteArray) : Option (Bool × Int) :=
  (impl_arcs.f 100 a0).bind fun A => (impl_arcs.f 100 a1).bind fun B => (impl_openPoints.f 100 a0).bind fun q0 => (impl_openPoints.f 100 a1).bind fun q1 =>
    if 1 ≤ a0.size ∧ a0.size ≤ 8 ∧ A.2 = true ∧ B.2 = true ∧ arcNb A.1 a0.size = true ∧ arcNb B.1 a0.size = true ∧ opnb q0 a0.size = true ∧ opnb q1 a0.size = true then
      (gl2 100 a0.size A.1 B.1 q0 q1 0 (List.replicate a0.size false) true).bind fun r => some (r.1, (r.2 : Int)) else none
theorem impl_paired.calls (a0 a1 : ByteArray) (r1 : Bool) (r2 : Int) (w : World) (h : impl_paired.f a0 a1 = some (r1, r2)) :
    Calls Try.prog 22 #[.string a0, .string a1] w fun e w' => e = .returned (.tuple #[.bool r1, .int .i64 r2]) ∧ Below w.heap.size w w' := by
  unfold impl_paired.f at h
  obtain ⟨⟨p0, b0⟩, h1, h⟩ := Option.bind_eq_some_iff.1 h
  obtain ⟨⟨p1, b1⟩, h2, h⟩ := Option.bind_eq_some_iff.1 h
  obtain ⟨q0, h3, h⟩ := Option.bind_eq_some_iff.1 h
  obtain ⟨q1, h4, h⟩ := Option.bind_eq_some_iff.1 h
  split at h
  · rename_i hc
    obtain ⟨c1, c2, c3, c4, c5, c6, c7, c8⟩ := hc
    obtain ⟨⟨r, l⟩, h5, h⟩ := Option.bind_eq_some_iff.1 h
    obtain ⟨rfl, rfl⟩ := (Prod.mk.injEq _ _ _ _ ▸ Option.some.inj h)
    simp only at c3 c4
    subst c3 c4
    unfold opnb at c7 c8
    simp only [Bool.and_eq_true, decide_eq_true_eq, List.all_eq_true] at c7 c8
    exact gpair_calls 100 a0 a1 p0 p1 100 h1 h2 c2 c1 q0 q1 h3 h4 (arcN_of c5) (arcN_of c6) c7.2 c8.2 c7.1 c8.1 r l h5 w
  · simp at h
end Go.Proofs.Ytmpdloamgiejhaa.Hand
