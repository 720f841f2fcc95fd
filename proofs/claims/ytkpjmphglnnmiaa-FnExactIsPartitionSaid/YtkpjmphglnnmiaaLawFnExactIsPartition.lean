/- The row of laws.FnExactIsPartition, of the seat Ytkpjmphglnnmiaa, joined to its walk: plain Lean, checked by Lean. No condition. -/
import Derived.Test.YtkpjmphglnnmiaaRows
import Derived.Test.YtkpjmphglnnmiaaHandIsPLaw
import Derived.WalkKit
import Derived.ProofKit
import Derived.OpenShut
import Derived.ShutString
import Derived.ChangeOld
import Derived.Below
import Derived.SizedLaws
namespace Go.Proofs.Ytkpjmphglnnmiaa.fnExactIsPartition
open Go.ChangeShapes Go.WideShapes Go.ChangeAt Go.RowKit
open Go.ChangeMaps (open_string shut_string)
set_option linter.unusedVariables false
theorem own : ownKnob Try.prog.godebug = none := by kernel_rfl
/-- A partition, opened. -/
theorem open_par {H : Type} {enc : TypeId × Value → H} {w : World} {base : Nat} {sp : Nat → Bool} {held : Bool} {r : Reach} {b0 : Nat} {v : Value} {d : DataW H} {ps : List MemPlace} (hval : Value.okWide Try.prog w r b0 24 v) (hd : DataW.Trod enc Try.prog w base sp held 24 v d ps) :
    ∃ (n x0 x1 x2 x3 x4 x5 x6 x7 : Int), v = .agg #[.int .i64 n, .int .u8 x0, .int .u8 x1, .int .u8 x2, .int .u8 x3, .int .u8 x4, .int .u8 x5, .int .u8 x6, .int .u8 x7] ∧ d = .agg [.lit (.int .i64 n), .agg [.lit (.int .u8 x0), .lit (.int .u8 x1), .lit (.int .u8 x2), .lit (.int .u8 x3), .lit (.int .u8 x4), .lit (.int .u8 x5), .lit (.int .u8 x6), .lit (.int .u8 x7)]] ∧ ps = [] ∧ (Lit.int .i64 n).wf = true ∧ (∀ x ∈ [x0, x1, x2, x3, x4, x5, x6, x7], (Lit.int .u8 x).wf = true) := by
  have hc24 : Try.prog.cellsOf 24 = 9 := by kernel_rfl
  have hc22 : Try.prog.cellsOf 22 = 8 := by kernel_rfl
  have hc2 : Try.prog.cellsOf 2 = 1 := by kernel_rfl
  have hc5 : Try.prog.cellsOf 5 = 1 := by kernel_rfl
  obtain ⟨cs, rfl, hsz⟩ := okWide_struct Try.underlying24 hval
  rw [hc24] at hsz
  obtain ⟨fuel, hf⟩ := hd
  obtain ⟨l⟩ := cs
  match l, hsz with
  | [c, c0, c1, c2, c3, c4, c5, c6, c7], _ =>
    obtain ⟨ys, m, _, hx, hl, hlen, hfs⟩ := DataW.trod_struct Try.underlying24 hf
    match ys, hlen with
    | [y0, y1], _ =>
      have h0 := hfs 0 _ rfl
      have h1 := hfs 1 _ rfl
      simp [Value.cells, hc2, hc22] at h0 h1
      obtain ⟨n, en, rfl, sn⟩ := DataW.trod_int Try.underlying2 h0
      obtain ⟨zs, m1, _, rfl, _, hl1, hf1⟩ := DataW.trod_array Try.underlying22 h1
      match zs, hl1 with
      | [z0, z1, z2, z3, z4, z5, z6, z7], _ =>
        have k0 := hf1 0 (by omega)
        have k1 := hf1 1 (by omega)
        have k2 := hf1 2 (by omega)
        have k3 := hf1 3 (by omega)
        have k4 := hf1 4 (by omega)
        have k5 := hf1 5 (by omega)
        have k6 := hf1 6 (by omega)
        have k7 := hf1 7 (by omega)
        simp [hc5] at k0 k1 k2 k3 k4 k5 k6 k7
        obtain ⟨x0, e0, rfl, s0⟩ := DataW.trod_int Try.underlying5 k0
        obtain ⟨x1, e1, rfl, s1⟩ := DataW.trod_int Try.underlying5 k1
        obtain ⟨x2, e2, rfl, s2⟩ := DataW.trod_int Try.underlying5 k2
        obtain ⟨x3, e3, rfl, s3⟩ := DataW.trod_int Try.underlying5 k3
        obtain ⟨x4, e4, rfl, s4⟩ := DataW.trod_int Try.underlying5 k4
        obtain ⟨x5, e5, rfl, s5⟩ := DataW.trod_int Try.underlying5 k5
        obtain ⟨x6, e6, rfl, s6⟩ := DataW.trod_int Try.underlying5 k6
        obtain ⟨x7, e7, rfl, s7⟩ := DataW.trod_int Try.underlying5 k7
        simp at en e0 e1 e2 e3 e4 e5 e6 e7
        subst en e0 e1 e2 e3 e4 e5 e6 e7
        simp only [Prod.mk.injEq, List.map_cons, List.map_nil, List.flatMap_cons, List.flatMap_nil, List.append_nil] at hx
        refine ⟨n, x0, x1, x2, x3, x4, x5, x6, x7, rfl, hx.1, hx.2, sn, ?_⟩
        intro x hx'
        simp only [List.mem_cons, List.not_mem_nil, or_false] at hx'
        rcases hx' with rfl | rfl | rfl | rfl | rfl | rfl | rfl | rfl
        all_goals assumption
/-- A partition, shut. -/
theorem shut_par {H : Type} {enc : TypeId × Value → H} (w : World) (base : Nat) (sp : Nat → Bool) (held : Bool) (n x0 x1 x2 x3 x4 x5 x6 x7 : Int) (hn : (Lit.int .i64 n).wf = true) (hb : ∀ x ∈ [x0, x1, x2, x3, x4, x5, x6, x7], (Lit.int .u8 x).wf = true) :
    DataW.Trod enc Try.prog w base sp held 24 (.agg #[.int .i64 n, .int .u8 x0, .int .u8 x1, .int .u8 x2, .int .u8 x3, .int .u8 x4, .int .u8 x5, .int .u8 x6, .int .u8 x7]) (.agg [.lit (.int .i64 n), .agg [.lit (.int .u8 x0), .lit (.int .u8 x1), .lit (.int .u8 x2), .lit (.int .u8 x3), .lit (.int .u8 x4), .lit (.int .u8 x5), .lit (.int .u8 x6), .lit (.int .u8 x7)]]) [] := by
  have hc24 : Try.prog.cellsOf 24 = 9 := by kernel_rfl
  have hc22 : Try.prog.cellsOf 22 = 8 := by kernel_rfl
  have hc2 : Try.prog.cellsOf 2 = 1 := by kernel_rfl
  have hc5 : Try.prog.cellsOf 5 = 1 := by kernel_rfl
  have h0 := hb x0 (by simp)
  have h1 := hb x1 (by simp)
  have h2 := hb x2 (by simp)
  have h3 := hb x3 (by simp)
  have h4 := hb x4 (by simp)
  have h5 := hb x5 (by simp)
  have h6 := hb x6 (by simp)
  have h7 := hb x7 (by simp)
  exact ⟨3, by simp [DataW.trod, Value.cells, Try.underlying24, Try.underlying22, Try.underlying2, Try.underlying5, hc24, hc22, hc2, hc5, hn, h0, h1, h2, h3, h4, h5, h6, h7, List.range, List.range.loop]⟩
set_option maxRecDepth 100000 in
theorem lifted (os : Os) (started : os.Started) (H : Type) (enc : TypeId × Value → H) :
    ReturnsInHanded {} Try.checked os 3 .any (Rows.fnExactIsPartitionSpec.pre6 enc Try.prog Try.f3 Rows.fnExactIsPartitionRow.domain false) (Rows.fnExactIsPartitionSpec.post enc Try.prog Try.f3 false true false false) := by
  refine returnsInHanded_of_change_sized (C := Try.checked) own started (by kernel_rfl) Try.func3
    (ChangeSpec.witness6 (enc := enc) (C := Try.checked) false ⟨#[], #[.agg #[.int .i64 0, .int .u8 0, .int .u8 0, .int .u8 0, .int .u8 0, .int .u8 0, .int .u8 0, .int .u8 0, .int .u8 0]], []⟩ 8 (by kernel_rfl) (by kernel_rfl) (by kernel_rfl) (by kernel_rfl)) ?_
  intro W base args ds gs before hval0 hW hcnd hsz0 _
  have hsz : (DataW.weightsEach Try.prog (Try.f3.params.toList ++ Rows.fnExactIsPartitionSpec.plain.varTypes Try.prog) (ds ++ gs)).all (· ≤ reachBytes) = true := hsz0
  have hval : ∀ (j : Nat) t v, Try.f3.params[j]? = some t → args[j]? = some v → Value.okWide Try.prog W .any base t v := hval0
  have hW' := hW
  obtain ⟨p, q, hA0, hV, rfl, hfz, hnd⟩ := hW
  have hA : DataW.TrodAll enc Try.prog W 0 (fun _ => true) true Try.f3.params.toList args.toList ds p := hA0
  rw [Try.params3] at hA hval hsz
  obtain ⟨v0, vs0, d0, ds0, p0, q0, hargs, rfl, rfl, h0, r0⟩ := trodAll_cons hA
  obtain ⟨rfl, rfl, rfl⟩ := trodAll_nil r0
  obtain rfl : args = #[v0] := by cases args; simp_all
  obtain ⟨rfl, rfl⟩ := trodVars_none hV
  obtain ⟨a0, x0, x1, x2, x3, x4, x5, x6, x7, rfl, rfl, rfl, w0, wb⟩ := open_par (hval 0 24 v0 rfl rfl) h0
  clear hA0 hval0 hsz0 hsz
  refine (Hand.lawIsP_walk a0 x0 x1 x2 x3 x4 x5 x6 x7 (fun x hx => bounds_u8 (wb x hx)) W).mono fun e W' ⟨he, bel⟩ => ?_
  subst he
  exact ⟨_, rfl, _, _, _, [], _, [], hW', trodAll_mk1 (shut_bool Try.underlying4 _), (trodAll_cons_mk (shut_par _ _ _ _ a0 x0 x1 x2 x3 x4 x5 x6 x7 w0 wb) trodAll_mk0), rfl, bel.frame _, fun h => by cases h⟩
theorem over : Rows.fnExactIsPartitionRow.holds Try.pinned (OpenSpec.ofChange Rows.fnExactIsPartitionSpec) :=
  OpenClaim.holds_of_wide 3 Try.f3 rfl rfl rfl rfl rfl rfl rfl ⟨rfl, rfl, rfl, rfl, rfl⟩ rfl rfl rfl rfl rfl (by kernel_rfl) Try.func3 (by kernel_rfl)
    (of_decide_eq_true (by kernel_rfl)) (by unfold Func.isWrapper; first | (rw [if_pos (by decide +kernel)]; kernel_rfl) | (rw [if_neg (by decide +kernel)]; exact ⟨rfl, rfl⟩))
    (fun os started H enc _ => lifted os started H enc)
theorem proved : Rows.FnExactIsPartitionSaid := over
#print axioms proved
end Go.Proofs.Ytkpjmphglnnmiaa.fnExactIsPartition
namespace Go.Proofs.Ytkpjmphglnnmiaa
/-- The row, under a short name, for the claim. -/
theorem fnExactIsPartition_holds : Rows.FnExactIsPartitionSaid := fnExactIsPartition.proved
end Go.Proofs.Ytkpjmphglnnmiaa
