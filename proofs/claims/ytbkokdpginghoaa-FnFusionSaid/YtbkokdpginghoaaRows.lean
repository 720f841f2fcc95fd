/-
  No cell of these rows narrows 'for every input' (looked for: loops, veiled, ifaces, maps, wideKeys, modest, calm, conditions, laid).
  DERIVED. THE GIVEN ROWS OF THIS SEAT. 6 by the template 'for every input the law returns true; each argument reads behind the call as it read before'; 0 by the template 'total and deterministic' (their statements: YtbkokdpginghoaaTotals.lean).
  GIVEN WITH THE SEED: the statements are not yours to turn. If you find one false, say at which input.
  Laid BY PROGRAM, IN A SANDBOX (cutbox-rows.mjs): the forced cells as the released guide's own fill.sh prints them over the translation 85c1b82f1ed917f4… (all of the seat's roots in one cut). By AI agents, Wed Nov 11 2026. No macro, syntax, notation, axiom, sorry.
-/
import Derived.Test.YtbkokdpginghoaaChecked
import GoSem.Claim
import GoSem.ClaimJoined
import GoSem.ClaimMapViews
import Derived.JoinedTies
import Derived.KernelRfl
namespace Go.Proofs.Ytbkokdpginghoaa
/- THE CELL 'sum', in the pinned program and in every row, IS THE sha256 OF THE DUMP (.gsa) THAT YtbkokdpginghoaaProg.lean LOADS. Nothing in Lean hashes anything: it is a label: what it is worth is what the hold of that sum in a sandbox is worth. -/
noncomputable def Try.pinned : Pinned := { name := "ytbkokdpginghoaa", sum := "85c1b82f1ed917f4fcc365e6a70914c38a5de33d4b3ed6398d3086aac5603743", checked := Try.checked }
namespace Rows
def none {H : Type} : Left H := { results := [], args := [] }

/-- 'laws.FnExactFirstZero': WHATEVER THE INPUT: true; the input reads as it did. -/
def fnExactFirstZeroSpec : ChangeSpec := { name := "fnExactFirstZero", fn := fun _ => fun
  | [d1, d2] => { results := [.lit (.bool true)], args := [d1, d2] }
  | _ => none }
def fnExactFirstZeroRow : OpenClaim := { program := "ytbkokdpginghoaa", sum := "85c1b82f1ed917f4fcc365e6a70914c38a5de33d4b3ed6398d3086aac5603743", func := "loop.example/g01251/laws.FnExactFirstZero", spec := "fnExactFirstZero", apart := false }
def FnExactFirstZeroSaid : Prop := fnExactFirstZeroRow.holds Try.pinned (OpenSpec.ofChange fnExactFirstZeroSpec)

/-- ITS FALSE NEIGHBOUR: 'it returns false'. Refute it at one input. -/
def fnExactFirstZeroWrong : ChangeSpec := { name := "fnExactFirstZero", fn := fun _ => fun
  | [d1, d2] => { results := [.lit (.bool false)], args := [d1, d2] }
  | _ => none }
def FnExactFirstZeroWrongFalsely : Prop := fnExactFirstZeroRow.holds Try.pinned (OpenSpec.ofChange fnExactFirstZeroWrong)

/-- 'laws.FnExactProjectionExists': WHATEVER THE INPUT: true; the input reads as it did. -/
def fnExactProjectionExistsSpec : ChangeSpec := { name := "fnExactProjectionExists", fn := fun _ => fun
  | [d1, d2, d3] => { results := [.lit (.bool true)], args := [d1, d2, d3] }
  | _ => none }
def fnExactProjectionExistsRow : OpenClaim := { program := "ytbkokdpginghoaa", sum := "85c1b82f1ed917f4fcc365e6a70914c38a5de33d4b3ed6398d3086aac5603743", func := "loop.example/g01251/laws.FnExactProjectionExists", spec := "fnExactProjectionExists", apart := false }
def FnExactProjectionExistsSaid : Prop := fnExactProjectionExistsRow.holds Try.pinned (OpenSpec.ofChange fnExactProjectionExistsSpec)

/-- ITS FALSE NEIGHBOUR: 'it returns false'. Refute it at one input. -/
def fnExactProjectionExistsWrong : ChangeSpec := { name := "fnExactProjectionExists", fn := fun _ => fun
  | [d1, d2, d3] => { results := [.lit (.bool false)], args := [d1, d2, d3] }
  | _ => none }
def FnExactProjectionExistsWrongFalsely : Prop := fnExactProjectionExistsRow.holds Try.pinned (OpenSpec.ofChange fnExactProjectionExistsWrong)

/-- 'laws.FnExactIsAdmissible': WHATEVER THE INPUT: true; the input reads as it did. -/
def fnExactIsAdmissibleSpec : ChangeSpec := { name := "fnExactIsAdmissible", fn := fun _ => fun
  | [d1, d2, d3, d4, d5] => { results := [.lit (.bool true)], args := [d1, d2, d3, d4, d5] }
  | _ => none }
def fnExactIsAdmissibleRow : OpenClaim := { program := "ytbkokdpginghoaa", sum := "85c1b82f1ed917f4fcc365e6a70914c38a5de33d4b3ed6398d3086aac5603743", func := "loop.example/g01251/laws.FnExactIsAdmissible", spec := "fnExactIsAdmissible", apart := false }
def FnExactIsAdmissibleSaid : Prop := fnExactIsAdmissibleRow.holds Try.pinned (OpenSpec.ofChange fnExactIsAdmissibleSpec)

/-- ITS FALSE NEIGHBOUR: 'it returns false'. Refute it at one input. -/
def fnExactIsAdmissibleWrong : ChangeSpec := { name := "fnExactIsAdmissible", fn := fun _ => fun
  | [d1, d2, d3, d4, d5] => { results := [.lit (.bool false)], args := [d1, d2, d3, d4, d5] }
  | _ => none }
def FnExactIsAdmissibleWrongFalsely : Prop := fnExactIsAdmissibleRow.holds Try.pinned (OpenSpec.ofChange fnExactIsAdmissibleWrong)

/-- 'laws.FnExactFusionOf': WHATEVER THE INPUT: true; the input reads as it did. -/
def fnExactFusionOfSpec : ChangeSpec := { name := "fnExactFusionOf", fn := fun _ => fun
  | [d1, d2, d3, d4] => { results := [.lit (.bool true)], args := [d1, d2, d3, d4] }
  | _ => none }
def fnExactFusionOfRow : OpenClaim := { program := "ytbkokdpginghoaa", sum := "85c1b82f1ed917f4fcc365e6a70914c38a5de33d4b3ed6398d3086aac5603743", func := "loop.example/g01251/laws.FnExactFusionOf", spec := "fnExactFusionOf", apart := false }
def FnExactFusionOfSaid : Prop := fnExactFusionOfRow.holds Try.pinned (OpenSpec.ofChange fnExactFusionOfSpec)

/-- ITS FALSE NEIGHBOUR: 'it returns false'. Refute it at one input. -/
def fnExactFusionOfWrong : ChangeSpec := { name := "fnExactFusionOf", fn := fun _ => fun
  | [d1, d2, d3, d4] => { results := [.lit (.bool false)], args := [d1, d2, d3, d4] }
  | _ => none }
def FnExactFusionOfWrongFalsely : Prop := fnExactFusionOfRow.holds Try.pinned (OpenSpec.ofChange fnExactFusionOfWrong)

/-- 'laws.FnExactThetaNumber': WHATEVER THE INPUT: true; the input reads as it did. -/
def fnExactThetaNumberSpec : ChangeSpec := { name := "fnExactThetaNumber", fn := fun _ => fun
  | [d1, d2, d3, d4, d5] => { results := [.lit (.bool true)], args := [d1, d2, d3, d4, d5] }
  | _ => none }
def fnExactThetaNumberRow : OpenClaim := { program := "ytbkokdpginghoaa", sum := "85c1b82f1ed917f4fcc365e6a70914c38a5de33d4b3ed6398d3086aac5603743", func := "loop.example/g01251/laws.FnExactThetaNumber", spec := "fnExactThetaNumber", unfollowed := true, recurses := true, apart := false }
def FnExactThetaNumberSaid : Prop := fnExactThetaNumberRow.holds Try.pinned (OpenSpec.ofChange fnExactThetaNumberSpec)

/-- ITS FALSE NEIGHBOUR: 'it returns false'. Refute it at one input. -/
def fnExactThetaNumberWrong : ChangeSpec := { name := "fnExactThetaNumber", fn := fun _ => fun
  | [d1, d2, d3, d4, d5] => { results := [.lit (.bool false)], args := [d1, d2, d3, d4, d5] }
  | _ => none }
def FnExactThetaNumberWrongFalsely : Prop := fnExactThetaNumberRow.holds Try.pinned (OpenSpec.ofChange fnExactThetaNumberWrong)

/-- 'laws.FnFusion': WHATEVER THE INPUT: true; the input reads as it did. -/
def fnFusionSpec : ChangeSpec := { name := "fnFusion", fn := fun _ => fun
  | [d] => { results := [.lit (.bool true)], args := [d] }
  | _ => none }
def fnFusionRow : OpenClaim := { program := "ytbkokdpginghoaa", sum := "85c1b82f1ed917f4fcc365e6a70914c38a5de33d4b3ed6398d3086aac5603743", func := "loop.example/g01251/laws.FnFusion", spec := "fnFusion", unfollowed := true, recurses := true, apart := false }
def FnFusionSaid : Prop := fnFusionRow.holds Try.pinned (OpenSpec.ofChange fnFusionSpec)

/-- ITS FALSE NEIGHBOUR: 'it returns false'. Refute it at one input. -/
def fnFusionWrong : ChangeSpec := { name := "fnFusion", fn := fun _ => fun
  | [d] => { results := [.lit (.bool false)], args := [d] }
  | _ => none }
def FnFusionWrongFalsely : Prop := fnFusionRow.holds Try.pinned (OpenSpec.ofChange fnFusionWrong)

/- THE SECOND FORM. 'bulk': how many values and letters a reading holds, each counted each time it is reached (what is shared counts as often as it is met; a slice's spare places count too). A statement '..UptoSaid' is the law's where the arguments, and the package variables that the reading takes, are together of bulk at most 1048576: NARROWER than '..Said'. Prove '..Said' where nothing that the law and all that it calls make is longer than what came in: it says more and counts as full. Else prove '..UptoSaid'. A law counts once. -/
mutual
def uptoBulk {H : Type} : DataW H → Nat
  | .lit (.string bytes) => bytes.length + 1
  | .lit _ => 1
  | .nil => 1
  | .ptr d => uptoBulk d + 1
  | .slice elems spare => uptoBulkAll elems + uptoBulkAll spare + 1
  | .agg parts => uptoBulkAll parts + 1
  | .iface _ d => uptoBulk d + 1
  | .map entries => uptoBulkEntries entries + 1
  | .held _ => 1
def uptoBulkAll {H : Type} : List (DataW H) → Nat
  | [] => 0
  | d :: r => uptoBulk d + uptoBulkAll r
def uptoBulkEntries {H : Type} : List (Lit × DataW H) → Nat
  | [] => 0
  | x :: r => uptoBulkEntry x + uptoBulkEntries r
def uptoBulkEntry {H : Type} : Lit × DataW H → Nat
  | (.string bytes, d) => bytes.length + uptoBulk d + 1
  | (_, d) => uptoBulk d + 1
 end
def uptoSmall : (H : Type) → List (DataW H) → Bool := fun _ ds => decide (uptoBulkAll ds ≤ 1048576)
def OpenSpec.upto (s : _root_.Go.ChangeSpec) : _root_.Go.OpenSpec := { _root_.Go.OpenSpec.ofChange s with cond := some uptoSmall }

/-- 'laws.FnExactFirstZero', WHERE WHAT IT READS IS OF BULK AT MOST 1048576: true; the input reads as it did. -/
def fnExactFirstZeroUptoRow : OpenClaim := { program := "ytbkokdpginghoaa", sum := "85c1b82f1ed917f4fcc365e6a70914c38a5de33d4b3ed6398d3086aac5603743", func := "loop.example/g01251/laws.FnExactFirstZero", spec := "fnExactFirstZero", apart := false, narrowed := true }
def FnExactFirstZeroUptoSaid : Prop := fnExactFirstZeroUptoRow.holds Try.pinned (OpenSpec.upto fnExactFirstZeroSpec)

/-- 'laws.FnExactProjectionExists', WHERE WHAT IT READS IS OF BULK AT MOST 1048576: true; the input reads as it did. -/
def fnExactProjectionExistsUptoRow : OpenClaim := { program := "ytbkokdpginghoaa", sum := "85c1b82f1ed917f4fcc365e6a70914c38a5de33d4b3ed6398d3086aac5603743", func := "loop.example/g01251/laws.FnExactProjectionExists", spec := "fnExactProjectionExists", apart := false, narrowed := true }
def FnExactProjectionExistsUptoSaid : Prop := fnExactProjectionExistsUptoRow.holds Try.pinned (OpenSpec.upto fnExactProjectionExistsSpec)

/-- 'laws.FnExactIsAdmissible', WHERE WHAT IT READS IS OF BULK AT MOST 1048576: true; the input reads as it did. -/
def fnExactIsAdmissibleUptoRow : OpenClaim := { program := "ytbkokdpginghoaa", sum := "85c1b82f1ed917f4fcc365e6a70914c38a5de33d4b3ed6398d3086aac5603743", func := "loop.example/g01251/laws.FnExactIsAdmissible", spec := "fnExactIsAdmissible", apart := false, narrowed := true }
def FnExactIsAdmissibleUptoSaid : Prop := fnExactIsAdmissibleUptoRow.holds Try.pinned (OpenSpec.upto fnExactIsAdmissibleSpec)

/-- 'laws.FnExactFusionOf', WHERE WHAT IT READS IS OF BULK AT MOST 1048576: true; the input reads as it did. -/
def fnExactFusionOfUptoRow : OpenClaim := { program := "ytbkokdpginghoaa", sum := "85c1b82f1ed917f4fcc365e6a70914c38a5de33d4b3ed6398d3086aac5603743", func := "loop.example/g01251/laws.FnExactFusionOf", spec := "fnExactFusionOf", apart := false, narrowed := true }
def FnExactFusionOfUptoSaid : Prop := fnExactFusionOfUptoRow.holds Try.pinned (OpenSpec.upto fnExactFusionOfSpec)

/-- 'laws.FnExactThetaNumber', WHERE WHAT IT READS IS OF BULK AT MOST 1048576: true; the input reads as it did. -/
def fnExactThetaNumberUptoRow : OpenClaim := { program := "ytbkokdpginghoaa", sum := "85c1b82f1ed917f4fcc365e6a70914c38a5de33d4b3ed6398d3086aac5603743", func := "loop.example/g01251/laws.FnExactThetaNumber", spec := "fnExactThetaNumber", unfollowed := true, recurses := true, apart := false, narrowed := true }
def FnExactThetaNumberUptoSaid : Prop := fnExactThetaNumberUptoRow.holds Try.pinned (OpenSpec.upto fnExactThetaNumberSpec)

/-- 'laws.FnFusion', WHERE WHAT IT READS IS OF BULK AT MOST 1048576: true; the input reads as it did. -/
def fnFusionUptoRow : OpenClaim := { program := "ytbkokdpginghoaa", sum := "85c1b82f1ed917f4fcc365e6a70914c38a5de33d4b3ed6398d3086aac5603743", func := "loop.example/g01251/laws.FnFusion", spec := "fnFusion", unfollowed := true, recurses := true, apart := false, narrowed := true }
def FnFusionUptoSaid : Prop := fnFusionUptoRow.holds Try.pinned (OpenSpec.upto fnFusionSpec)

end Rows
end Go.Proofs.Ytbkokdpginghoaa
