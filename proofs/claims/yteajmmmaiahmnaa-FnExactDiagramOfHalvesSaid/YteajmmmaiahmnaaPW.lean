/- The walk of laws.FnExactDiagramOfHalves: true for all texts. No condition. -/
import Derived.Test.YteajmmmaiahmnaaPU
import Derived.Test.YteajmmmaiahmnaaHandDH
namespace Go.Proofs.Yteajmmmaiahmnaa.PW
open Go.RowKit Go.Proofs.Yteajmmmaiahmnaa.Hand Go.Proofs.YteajmmmaiahmnaaW.PrintWords Go.Proofs.YteajmmmaiahmnaaW.PrintLast Go.Proofs.Yteajmmmaiahmnaa.PA Go.Proofs.Yteajmmmaiahmnaa.PT Go.Proofs.Yteajmmmaiahmnaa.PU

theorem ofDrawn {f : FuncId} {args : Array Value} {v : Value} (h : ∀ W : World, Calls Try.prog f args W fun e w' => e = .returned v ∧ Drawn0 W w') : Gives f args v := fun W => (h W).mono fun e w' ⟨he, hd⟩ => ⟨he, by obtain ⟨q, rfl⟩ := hd.out; exact pw_below_drewN (Below.refl _ _) q⟩
theorem openS (k : Nat) (a : ByteArray) (q : List Int) (h : impl_openPoints.f k a = some q) : GivesS 11 #[.string a] q.length := fun W => (impl_openPoints.calls k a q W h).mono fun e w' ⟨v, he, hr, hb⟩ => by
  obtain ⟨A, c, rfl⟩ := Kd.R_slice hr
  exact ⟨⟨A, c, he⟩, hb⟩
theorem law_walk (a0 a1 : ByteArray) (w : World) : Calls Try.prog 3 #[.string a0, .string a1] w fun e w' => e = .returned (.bool true) ∧ Below w.heap.size w w' := by
  by_cases c0 : 1048576 < a0.size
  · exact law_big0 a0 a1 c0 w
  by_cases c1 : 1048576 < a1.size
  · exact law_big1 a0 a1 (by omega) c1 w
  obtain ⟨v0, i0, s0⟩ := half a0 (by omega)
  obtain ⟨v1, i1, s1⟩ := half a1 (by omega)
  have I0 : Gives 10 #[.string a0] (.bool v0) := fun W => impl_IsHalf.calls _ a0 v0 W i0
  have I1 : Gives 10 #[.string a1] (.bool v1) := fun W => impl_IsHalf.calls _ a1 v1 W i1
  have S0 : Gives 7 #[.string a0] (.bool v0) := fun W => spec_l04Is.calls _ a0 v0 W s0
  have S1' : Gives 7 #[.string a1] (.bool v1) := fun W => spec_l04Is.calls _ a1 v1 W s1
  cases v0 with
  | false => exact law_calls a0 a1 (by omega) (by omega) 0 1 (List.replicate 16 0) rfl (sdh1 a0 a1 S0) (idh1 a0 a1 I0) w
  | true =>
    cases v1 with
    | false => exact law_calls a0 a1 (by omega) (by omega) 0 1 (List.replicate 16 0) rfl (sdh2 a0 a1 S0 S1') (idh2 a0 a1 I0 I1) w
    | true =>
      by_cases he : a0.size = a1.size
      · obtain ⟨h, hn1, hn8⟩ := pairOk a0 a1 _ s0 s1 he
        unfold okP at h
        split at h
        · rename_i o1 o2 p0 p1 q0 q1 t0 t1 e1 e2 e3 e4 e5 e6 e7 e8
          obtain ⟨o1, b1⟩ := o1
          obtain ⟨o2, b2⟩ := o2
          obtain ⟨p0, g0⟩ := p0
          obtain ⟨p1, g1⟩ := p1
          simp only [Bool.and_eq_true] at h
          obtain ⟨⟨⟨⟨⟨⟨⟨⟨⟨k0, k1⟩, k2⟩, k3⟩, k4⟩, k5⟩, k6⟩, k7⟩, k8⟩, k9⟩ := h
          subst k0 k1
          have T0 := ofDrawn (fun W => spec_l04Open.calls 64 a0 t0 W e7)
          have T1 := ofDrawn (fun W => spec_l04Open.calls 64 a1 t1 W e8)
          have Q0 := openS 64 a0 q0 e5
          have Q1 := openS 64 a1 q1 e6
          have hq0 := opn_of k6
          have hq1 := opn_of k7
          by_cases hl : q0.length = q1.length
          · have ht : t0 = t1 := by
              rw [decide_eq_true hl, beq_iff_eq] at k8
              exact of_decide_eq_true k8
            rw [if_pos hl, Bool.and_eq_true] at k9
            have hf := of_decide_eq_true k9.1
            have hb : B2 (F1 o1 a0.size) (S1 a0.size o2 a0.size) (B1 a0.size o1 o2 a0.size) (F1 o1 a0.size).length = G3 a0.size q0 q1 (Gs a0.size p0 p1 2) q0.length := by simpa using k9.2
            have M := fun W => sdia_calls a0 a1 o1 o2 b1 b2 64 a0.size e1 e2 (arc8_of k2) (arc8_of k3) rfl hn8 hf W
            rw [hb] at M
            have M2 := fun W => ofh_calls a0 a1 64 a0.size p0 p1 q0 q1 e3 e4 e5 e6 rfl hn8 (arcN_of k4) (arcN_of k5) hq0.2 hq1.2 hl hq0.1 W
            have hlen := G3_len a0.size q0 q1 (Gs a0.size p0 p1 2) (Gs_len a0.size p0 p1 2) q0.length
            exact law_calls a0 a1 (by omega) (by omega) (a0.size : Int) 0 _ hlen (sdh5 a0 a1 S0 S1' he t0 t1 T0 T1 ht _ _ hlen M) (idh5 a0 a1 I0 I1 he q0.length q1.length Q0 Q1 hl _ _ hlen M2) w
          · have ht : t0 ≠ t1 := by
              rw [decide_eq_false hl, beq_iff_eq] at k8
              exact of_decide_eq_false k8
            exact law_calls a0 a1 (by omega) (by omega) 0 2 (List.replicate 16 0) rfl (sdh4 a0 a1 S0 S1' he t0 t1 T0 T1 ht) (idh4 a0 a1 I0 I1 he q0.length q1.length Q0 Q1 hl) w
        · simp at h
      · exact law_calls a0 a1 (by omega) (by omega) 0 2 (List.replicate 16 0) rfl (sdh3 a0 a1 S0 S1' he) (idh3 a0 a1 I0 I1 he) w

end Go.Proofs.Yteajmmmaiahmnaa.PW
