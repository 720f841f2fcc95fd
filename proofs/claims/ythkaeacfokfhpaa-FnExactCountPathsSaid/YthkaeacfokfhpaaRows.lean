/-
  No cell of these rows narrows 'for every input' (looked for: loops, veiled, ifaces, maps, wideKeys, modest, calm, conditions, laid).
  DERIVED. THE GIVEN ROWS OF THIS SEAT. 12 by the template 'for every input the law returns true; each argument reads behind the call as it read before'; 0 by the template 'total and deterministic' (their statements: YthkaeacfokfhpaaTotals.lean).
  GIVEN WITH THE SEED: the statements are not yours to turn. If you find one false, say at which input.
  Laid BY PROGRAM, IN A SANDBOX (cutbox-rows.mjs): the forced cells as the released guide's own fill.sh prints them over the translation 3df31d28f24ddc75… (all of the seat's roots in one cut). By AI agents, Wed Nov 11 2026. No macro, syntax, notation, axiom, sorry.
-/
import Derived.Test.YthkaeacfokfhpaaChecked
import GoSem.Claim
import GoSem.ClaimJoined
import GoSem.ClaimMapViews
import Derived.JoinedTies
import Derived.KernelRfl
namespace Go.Proofs.Ythkaeacfokfhpaa
/- THE CELL 'sum', in the pinned program and in every row, IS THE sha256 OF THE DUMP (.gsa) THAT YthkaeacfokfhpaaProg.lean LOADS. Nothing in Lean hashes anything: it is a label: what it is worth is what the hold of that sum in a sandbox is worth. -/
noncomputable def Try.pinned : Pinned := { name := "ythkaeacfokfhpaa", sum := "3df31d28f24ddc7540095cf59caaa9089c6ef908dcb5ad28916cc06b9da67f09", checked := Try.checked }
namespace Rows
def none {H : Type} : Left H := { results := [], args := [] }

/-- 'laws.FnExactConstants': WHATEVER THE INPUT: true; the input reads as it did. -/
def fnExactConstantsSpec : ChangeSpec := { name := "fnExactConstants", fn := fun _ => fun
  | [] => { results := [.lit (.bool true)], args := [] }
  | _ => none }
def fnExactConstantsRow : OpenClaim := { program := "ythkaeacfokfhpaa", sum := "3df31d28f24ddc7540095cf59caaa9089c6ef908dcb5ad28916cc06b9da67f09", func := "loop.example/g01251/laws.FnExactConstants", spec := "fnExactConstants", apart := false }
def FnExactConstantsSaid : Prop := fnExactConstantsRow.holds Try.pinned (OpenSpec.ofChange fnExactConstantsSpec)

/-- ITS FALSE NEIGHBOUR: 'it returns false'. Refute it at one input. -/
def fnExactConstantsWrong : ChangeSpec := { name := "fnExactConstants", fn := fun _ => fun
  | [] => { results := [.lit (.bool false)], args := [] }
  | _ => none }
def FnExactConstantsWrongFalsely : Prop := fnExactConstantsRow.holds Try.pinned (OpenSpec.ofChange fnExactConstantsWrong)

/-- 'laws.FnExactCountBlobbed': WHATEVER THE INPUT: true; the input reads as it did. -/
def fnExactCountBlobbedSpec : ChangeSpec := { name := "fnExactCountBlobbed", fn := fun _ => fun
  | [d] => { results := [.lit (.bool true)], args := [d] }
  | _ => none }
def fnExactCountBlobbedRow : OpenClaim := { program := "ythkaeacfokfhpaa", sum := "3df31d28f24ddc7540095cf59caaa9089c6ef908dcb5ad28916cc06b9da67f09", func := "loop.example/g01251/laws.FnExactCountBlobbed", spec := "fnExactCountBlobbed", apart := false }
def FnExactCountBlobbedSaid : Prop := fnExactCountBlobbedRow.holds Try.pinned (OpenSpec.ofChange fnExactCountBlobbedSpec)

/-- ITS FALSE NEIGHBOUR: 'it returns false'. Refute it at one input. -/
def fnExactCountBlobbedWrong : ChangeSpec := { name := "fnExactCountBlobbed", fn := fun _ => fun
  | [d] => { results := [.lit (.bool false)], args := [d] }
  | _ => none }
def FnExactCountBlobbedWrongFalsely : Prop := fnExactCountBlobbedRow.holds Try.pinned (OpenSpec.ofChange fnExactCountBlobbedWrong)

/-- 'laws.FnExactCountPaths': WHATEVER THE INPUT: true; the input reads as it did. -/
def fnExactCountPathsSpec : ChangeSpec := { name := "fnExactCountPaths", fn := fun _ => fun
  | [d1, d2, d3] => { results := [.lit (.bool true)], args := [d1, d2, d3] }
  | _ => none }
def fnExactCountPathsRow : OpenClaim := { program := "ythkaeacfokfhpaa", sum := "3df31d28f24ddc7540095cf59caaa9089c6ef908dcb5ad28916cc06b9da67f09", func := "loop.example/g01251/laws.FnExactCountPaths", spec := "fnExactCountPaths", apart := false }
def FnExactCountPathsSaid : Prop := fnExactCountPathsRow.holds Try.pinned (OpenSpec.ofChange fnExactCountPathsSpec)

/-- ITS FALSE NEIGHBOUR: 'it returns false'. Refute it at one input. -/
def fnExactCountPathsWrong : ChangeSpec := { name := "fnExactCountPaths", fn := fun _ => fun
  | [d1, d2, d3] => { results := [.lit (.bool false)], args := [d1, d2, d3] }
  | _ => none }
def FnExactCountPathsWrongFalsely : Prop := fnExactCountPathsRow.holds Try.pinned (OpenSpec.ofChange fnExactCountPathsWrong)

/-- 'laws.FnExactIsSystem': WHATEVER THE INPUT: true; the input reads as it did. -/
def fnExactIsSystemSpec : ChangeSpec := { name := "fnExactIsSystem", fn := fun _ => fun
  | [d] => { results := [.lit (.bool true)], args := [d] }
  | _ => none }
def fnExactIsSystemRow : OpenClaim := { program := "ythkaeacfokfhpaa", sum := "3df31d28f24ddc7540095cf59caaa9089c6ef908dcb5ad28916cc06b9da67f09", func := "loop.example/g01251/laws.FnExactIsSystem", spec := "fnExactIsSystem", apart := false }
def FnExactIsSystemSaid : Prop := fnExactIsSystemRow.holds Try.pinned (OpenSpec.ofChange fnExactIsSystemSpec)

/-- ITS FALSE NEIGHBOUR: 'it returns false'. Refute it at one input. -/
def fnExactIsSystemWrong : ChangeSpec := { name := "fnExactIsSystem", fn := fun _ => fun
  | [d] => { results := [.lit (.bool false)], args := [d] }
  | _ => none }
def FnExactIsSystemWrongFalsely : Prop := fnExactIsSystemRow.holds Try.pinned (OpenSpec.ofChange fnExactIsSystemWrong)

/-- 'laws.FnExactCountHalves': WHATEVER THE INPUT: true; the input reads as it did. -/
def fnExactCountHalvesSpec : ChangeSpec := { name := "fnExactCountHalves", fn := fun _ => fun
  | [d1, d2] => { results := [.lit (.bool true)], args := [d1, d2] }
  | _ => none }
def fnExactCountHalvesRow : OpenClaim := { program := "ythkaeacfokfhpaa", sum := "3df31d28f24ddc7540095cf59caaa9089c6ef908dcb5ad28916cc06b9da67f09", func := "loop.example/g01251/laws.FnExactCountHalves", spec := "fnExactCountHalves", unfollowed := true, recurses := true, apart := false }
def FnExactCountHalvesSaid : Prop := fnExactCountHalvesRow.holds Try.pinned (OpenSpec.ofChange fnExactCountHalvesSpec)

/-- ITS FALSE NEIGHBOUR: 'it returns false'. Refute it at one input. -/
def fnExactCountHalvesWrong : ChangeSpec := { name := "fnExactCountHalves", fn := fun _ => fun
  | [d1, d2] => { results := [.lit (.bool false)], args := [d1, d2] }
  | _ => none }
def FnExactCountHalvesWrongFalsely : Prop := fnExactCountHalvesRow.holds Try.pinned (OpenSpec.ofChange fnExactCountHalvesWrong)

/-- 'laws.FnExactIsPartition': WHATEVER THE INPUT: true; the input reads as it did. -/
def fnExactIsPartitionSpec : ChangeSpec := { name := "fnExactIsPartition", fn := fun _ => fun
  | [d] => { results := [.lit (.bool true)], args := [d] }
  | _ => none }
def fnExactIsPartitionRow : OpenClaim := { program := "ythkaeacfokfhpaa", sum := "3df31d28f24ddc7540095cf59caaa9089c6ef908dcb5ad28916cc06b9da67f09", func := "loop.example/g01251/laws.FnExactIsPartition", spec := "fnExactIsPartition", unfollowed := true, recurses := true, apart := false }
def FnExactIsPartitionSaid : Prop := fnExactIsPartitionRow.holds Try.pinned (OpenSpec.ofChange fnExactIsPartitionSpec)

/-- ITS FALSE NEIGHBOUR: 'it returns false'. Refute it at one input. -/
def fnExactIsPartitionWrong : ChangeSpec := { name := "fnExactIsPartition", fn := fun _ => fun
  | [d] => { results := [.lit (.bool false)], args := [d] }
  | _ => none }
def FnExactIsPartitionWrongFalsely : Prop := fnExactIsPartitionRow.holds Try.pinned (OpenSpec.ofChange fnExactIsPartitionWrong)

/-- 'laws.FnExactUnitDiagram': WHATEVER THE INPUT: true; the input reads as it did. -/
def fnExactUnitDiagramSpec : ChangeSpec := { name := "fnExactUnitDiagram", fn := fun _ => fun
  | [d] => { results := [.lit (.bool true)], args := [d] }
  | _ => none }
def fnExactUnitDiagramRow : OpenClaim := { program := "ythkaeacfokfhpaa", sum := "3df31d28f24ddc7540095cf59caaa9089c6ef908dcb5ad28916cc06b9da67f09", func := "loop.example/g01251/laws.FnExactUnitDiagram", spec := "fnExactUnitDiagram", apart := false }
def FnExactUnitDiagramSaid : Prop := fnExactUnitDiagramRow.holds Try.pinned (OpenSpec.ofChange fnExactUnitDiagramSpec)

/-- ITS FALSE NEIGHBOUR: 'it returns false'. Refute it at one input. -/
def fnExactUnitDiagramWrong : ChangeSpec := { name := "fnExactUnitDiagram", fn := fun _ => fun
  | [d] => { results := [.lit (.bool false)], args := [d] }
  | _ => none }
def FnExactUnitDiagramWrongFalsely : Prop := fnExactUnitDiagramRow.holds Try.pinned (OpenSpec.ofChange fnExactUnitDiagramWrong)

/-- 'laws.FnExactIsHalf': WHATEVER THE INPUT: true; the input reads as it did. -/
def fnExactIsHalfSpec : ChangeSpec := { name := "fnExactIsHalf", fn := fun _ => fun
  | [d] => { results := [.lit (.bool true)], args := [d] }
  | _ => none }
def fnExactIsHalfRow : OpenClaim := { program := "ythkaeacfokfhpaa", sum := "3df31d28f24ddc7540095cf59caaa9089c6ef908dcb5ad28916cc06b9da67f09", func := "loop.example/g01251/laws.FnExactIsHalf", spec := "fnExactIsHalf", apart := false }
def FnExactIsHalfSaid : Prop := fnExactIsHalfRow.holds Try.pinned (OpenSpec.ofChange fnExactIsHalfSpec)

/-- ITS FALSE NEIGHBOUR: 'it returns false'. Refute it at one input. -/
def fnExactIsHalfWrong : ChangeSpec := { name := "fnExactIsHalf", fn := fun _ => fun
  | [d] => { results := [.lit (.bool false)], args := [d] }
  | _ => none }
def FnExactIsHalfWrongFalsely : Prop := fnExactIsHalfRow.holds Try.pinned (OpenSpec.ofChange fnExactIsHalfWrong)

/-- 'laws.FnExactGeneratorDiagram': WHATEVER THE INPUT: true; the input reads as it did. -/
def fnExactGeneratorDiagramSpec : ChangeSpec := { name := "fnExactGeneratorDiagram", fn := fun _ => fun
  | [d1, d2] => { results := [.lit (.bool true)], args := [d1, d2] }
  | _ => none }
def fnExactGeneratorDiagramRow : OpenClaim := { program := "ythkaeacfokfhpaa", sum := "3df31d28f24ddc7540095cf59caaa9089c6ef908dcb5ad28916cc06b9da67f09", func := "loop.example/g01251/laws.FnExactGeneratorDiagram", spec := "fnExactGeneratorDiagram", apart := false }
def FnExactGeneratorDiagramSaid : Prop := fnExactGeneratorDiagramRow.holds Try.pinned (OpenSpec.ofChange fnExactGeneratorDiagramSpec)

/-- ITS FALSE NEIGHBOUR: 'it returns false'. Refute it at one input. -/
def fnExactGeneratorDiagramWrong : ChangeSpec := { name := "fnExactGeneratorDiagram", fn := fun _ => fun
  | [d1, d2] => { results := [.lit (.bool false)], args := [d1, d2] }
  | _ => none }
def FnExactGeneratorDiagramWrongFalsely : Prop := fnExactGeneratorDiagramRow.holds Try.pinned (OpenSpec.ofChange fnExactGeneratorDiagramWrong)

/-- 'laws.FnExactLoopValue': WHATEVER THE INPUT: true; the input reads as it did. -/
def fnExactLoopValueSpec : ChangeSpec := { name := "fnExactLoopValue", fn := fun _ => fun
  | [d1, d2] => { results := [.lit (.bool true)], args := [d1, d2] }
  | _ => none }
def fnExactLoopValueRow : OpenClaim := { program := "ythkaeacfokfhpaa", sum := "3df31d28f24ddc7540095cf59caaa9089c6ef908dcb5ad28916cc06b9da67f09", func := "loop.example/g01251/laws.FnExactLoopValue", spec := "fnExactLoopValue", apart := false }
def FnExactLoopValueSaid : Prop := fnExactLoopValueRow.holds Try.pinned (OpenSpec.ofChange fnExactLoopValueSpec)

/-- ITS FALSE NEIGHBOUR: 'it returns false'. Refute it at one input. -/
def fnExactLoopValueWrong : ChangeSpec := { name := "fnExactLoopValue", fn := fun _ => fun
  | [d1, d2] => { results := [.lit (.bool false)], args := [d1, d2] }
  | _ => none }
def FnExactLoopValueWrongFalsely : Prop := fnExactLoopValueRow.holds Try.pinned (OpenSpec.ofChange fnExactLoopValueWrong)

/-- 'laws.FnExactChebyshevNumber': WHATEVER THE INPUT: true; the input reads as it did. -/
def fnExactChebyshevNumberSpec : ChangeSpec := { name := "fnExactChebyshevNumber", fn := fun _ => fun
  | [d1, d2, d3] => { results := [.lit (.bool true)], args := [d1, d2, d3] }
  | _ => none }
def fnExactChebyshevNumberRow : OpenClaim := { program := "ythkaeacfokfhpaa", sum := "3df31d28f24ddc7540095cf59caaa9089c6ef908dcb5ad28916cc06b9da67f09", func := "loop.example/g01251/laws.FnExactChebyshevNumber", spec := "fnExactChebyshevNumber", apart := false }
def FnExactChebyshevNumberSaid : Prop := fnExactChebyshevNumberRow.holds Try.pinned (OpenSpec.ofChange fnExactChebyshevNumberSpec)

/-- ITS FALSE NEIGHBOUR: 'it returns false'. Refute it at one input. -/
def fnExactChebyshevNumberWrong : ChangeSpec := { name := "fnExactChebyshevNumber", fn := fun _ => fun
  | [d1, d2, d3] => { results := [.lit (.bool false)], args := [d1, d2, d3] }
  | _ => none }
def FnExactChebyshevNumberWrongFalsely : Prop := fnExactChebyshevNumberRow.holds Try.pinned (OpenSpec.ofChange fnExactChebyshevNumberWrong)

/-- 'laws.FnExactSpinLoop': WHATEVER THE INPUT: true; the input reads as it did. -/
def fnExactSpinLoopSpec : ChangeSpec := { name := "fnExactSpinLoop", fn := fun _ => fun
  | [d1, d2] => { results := [.lit (.bool true)], args := [d1, d2] }
  | _ => none }
def fnExactSpinLoopRow : OpenClaim := { program := "ythkaeacfokfhpaa", sum := "3df31d28f24ddc7540095cf59caaa9089c6ef908dcb5ad28916cc06b9da67f09", func := "loop.example/g01251/laws.FnExactSpinLoop", spec := "fnExactSpinLoop", apart := false }
def FnExactSpinLoopSaid : Prop := fnExactSpinLoopRow.holds Try.pinned (OpenSpec.ofChange fnExactSpinLoopSpec)

/-- ITS FALSE NEIGHBOUR: 'it returns false'. Refute it at one input. -/
def fnExactSpinLoopWrong : ChangeSpec := { name := "fnExactSpinLoop", fn := fun _ => fun
  | [d1, d2] => { results := [.lit (.bool false)], args := [d1, d2] }
  | _ => none }
def FnExactSpinLoopWrongFalsely : Prop := fnExactSpinLoopRow.holds Try.pinned (OpenSpec.ofChange fnExactSpinLoopWrong)

/- THE SECOND FORM. 'bulk': how many values and letters a reading holds, each counted each time it is reached (what is shared counts as often as it is met; a slice's spare places count too). A statement '..UptoSaid' is the law's where the arguments, and the package variables that the reading takes, are together of bulk at most 1048576: NARROWER than '..Said'. Prove '..Said' where nothing that the law and all that it calls make is longer than what came in: it says more and counts as full. Else prove '..UptoSaid'. A law counts once. -/
mutual
def uptoBulk {H : Type} : DataW H → Nat
  | .lit (.string bytes) => bytes.length + 1
  | .lit _ => 1
  | .nil => 1
  | .ptr d => uptoBulk d + 1
  | .slice elems spare => uptoBulkAll elems + uptoBulkAll spare + 1
  | .agg parts => uptoBulkAll parts + 1
  | .iface _ d => uptoBulk d + 1
  | .map entries => uptoBulkEntries entries + 1
  | .held _ => 1
def uptoBulkAll {H : Type} : List (DataW H) → Nat
  | [] => 0
  | d :: r => uptoBulk d + uptoBulkAll r
def uptoBulkEntries {H : Type} : List (Lit × DataW H) → Nat
  | [] => 0
  | x :: r => uptoBulkEntry x + uptoBulkEntries r
def uptoBulkEntry {H : Type} : Lit × DataW H → Nat
  | (.string bytes, d) => bytes.length + uptoBulk d + 1
  | (_, d) => uptoBulk d + 1
 end
def uptoSmall : (H : Type) → List (DataW H) → Bool := fun _ ds => decide (uptoBulkAll ds ≤ 1048576)
def OpenSpec.upto (s : _root_.Go.ChangeSpec) : _root_.Go.OpenSpec := { _root_.Go.OpenSpec.ofChange s with cond := some uptoSmall }

/-- 'laws.FnExactConstants', WHERE WHAT IT READS IS OF BULK AT MOST 1048576: true; the input reads as it did. -/
def fnExactConstantsUptoRow : OpenClaim := { program := "ythkaeacfokfhpaa", sum := "3df31d28f24ddc7540095cf59caaa9089c6ef908dcb5ad28916cc06b9da67f09", func := "loop.example/g01251/laws.FnExactConstants", spec := "fnExactConstants", apart := false, narrowed := true }
def FnExactConstantsUptoSaid : Prop := fnExactConstantsUptoRow.holds Try.pinned (OpenSpec.upto fnExactConstantsSpec)

/-- 'laws.FnExactCountBlobbed', WHERE WHAT IT READS IS OF BULK AT MOST 1048576: true; the input reads as it did. -/
def fnExactCountBlobbedUptoRow : OpenClaim := { program := "ythkaeacfokfhpaa", sum := "3df31d28f24ddc7540095cf59caaa9089c6ef908dcb5ad28916cc06b9da67f09", func := "loop.example/g01251/laws.FnExactCountBlobbed", spec := "fnExactCountBlobbed", apart := false, narrowed := true }
def FnExactCountBlobbedUptoSaid : Prop := fnExactCountBlobbedUptoRow.holds Try.pinned (OpenSpec.upto fnExactCountBlobbedSpec)

/-- 'laws.FnExactCountPaths', WHERE WHAT IT READS IS OF BULK AT MOST 1048576: true; the input reads as it did. -/
def fnExactCountPathsUptoRow : OpenClaim := { program := "ythkaeacfokfhpaa", sum := "3df31d28f24ddc7540095cf59caaa9089c6ef908dcb5ad28916cc06b9da67f09", func := "loop.example/g01251/laws.FnExactCountPaths", spec := "fnExactCountPaths", apart := false, narrowed := true }
def FnExactCountPathsUptoSaid : Prop := fnExactCountPathsUptoRow.holds Try.pinned (OpenSpec.upto fnExactCountPathsSpec)

/-- 'laws.FnExactIsSystem', WHERE WHAT IT READS IS OF BULK AT MOST 1048576: true; the input reads as it did. -/
def fnExactIsSystemUptoRow : OpenClaim := { program := "ythkaeacfokfhpaa", sum := "3df31d28f24ddc7540095cf59caaa9089c6ef908dcb5ad28916cc06b9da67f09", func := "loop.example/g01251/laws.FnExactIsSystem", spec := "fnExactIsSystem", apart := false, narrowed := true }
def FnExactIsSystemUptoSaid : Prop := fnExactIsSystemUptoRow.holds Try.pinned (OpenSpec.upto fnExactIsSystemSpec)

/-- 'laws.FnExactCountHalves', WHERE WHAT IT READS IS OF BULK AT MOST 1048576: true; the input reads as it did. -/
def fnExactCountHalvesUptoRow : OpenClaim := { program := "ythkaeacfokfhpaa", sum := "3df31d28f24ddc7540095cf59caaa9089c6ef908dcb5ad28916cc06b9da67f09", func := "loop.example/g01251/laws.FnExactCountHalves", spec := "fnExactCountHalves", unfollowed := true, recurses := true, apart := false, narrowed := true }
def FnExactCountHalvesUptoSaid : Prop := fnExactCountHalvesUptoRow.holds Try.pinned (OpenSpec.upto fnExactCountHalvesSpec)

/-- 'laws.FnExactIsPartition', WHERE WHAT IT READS IS OF BULK AT MOST 1048576: true; the input reads as it did. -/
def fnExactIsPartitionUptoRow : OpenClaim := { program := "ythkaeacfokfhpaa", sum := "3df31d28f24ddc7540095cf59caaa9089c6ef908dcb5ad28916cc06b9da67f09", func := "loop.example/g01251/laws.FnExactIsPartition", spec := "fnExactIsPartition", unfollowed := true, recurses := true, apart := false, narrowed := true }
def FnExactIsPartitionUptoSaid : Prop := fnExactIsPartitionUptoRow.holds Try.pinned (OpenSpec.upto fnExactIsPartitionSpec)

/-- 'laws.FnExactUnitDiagram', WHERE WHAT IT READS IS OF BULK AT MOST 1048576: true; the input reads as it did. -/
def fnExactUnitDiagramUptoRow : OpenClaim := { program := "ythkaeacfokfhpaa", sum := "3df31d28f24ddc7540095cf59caaa9089c6ef908dcb5ad28916cc06b9da67f09", func := "loop.example/g01251/laws.FnExactUnitDiagram", spec := "fnExactUnitDiagram", apart := false, narrowed := true }
def FnExactUnitDiagramUptoSaid : Prop := fnExactUnitDiagramUptoRow.holds Try.pinned (OpenSpec.upto fnExactUnitDiagramSpec)

/-- 'laws.FnExactIsHalf', WHERE WHAT IT READS IS OF BULK AT MOST 1048576: true; the input reads as it did. -/
def fnExactIsHalfUptoRow : OpenClaim := { program := "ythkaeacfokfhpaa", sum := "3df31d28f24ddc7540095cf59caaa9089c6ef908dcb5ad28916cc06b9da67f09", func := "loop.example/g01251/laws.FnExactIsHalf", spec := "fnExactIsHalf", apart := false, narrowed := true }
def FnExactIsHalfUptoSaid : Prop := fnExactIsHalfUptoRow.holds Try.pinned (OpenSpec.upto fnExactIsHalfSpec)

/-- 'laws.FnExactGeneratorDiagram', WHERE WHAT IT READS IS OF BULK AT MOST 1048576: true; the input reads as it did. -/
def fnExactGeneratorDiagramUptoRow : OpenClaim := { program := "ythkaeacfokfhpaa", sum := "3df31d28f24ddc7540095cf59caaa9089c6ef908dcb5ad28916cc06b9da67f09", func := "loop.example/g01251/laws.FnExactGeneratorDiagram", spec := "fnExactGeneratorDiagram", apart := false, narrowed := true }
def FnExactGeneratorDiagramUptoSaid : Prop := fnExactGeneratorDiagramUptoRow.holds Try.pinned (OpenSpec.upto fnExactGeneratorDiagramSpec)

/-- 'laws.FnExactLoopValue', WHERE WHAT IT READS IS OF BULK AT MOST 1048576: true; the input reads as it did. -/
def fnExactLoopValueUptoRow : OpenClaim := { program := "ythkaeacfokfhpaa", sum := "3df31d28f24ddc7540095cf59caaa9089c6ef908dcb5ad28916cc06b9da67f09", func := "loop.example/g01251/laws.FnExactLoopValue", spec := "fnExactLoopValue", apart := false, narrowed := true }
def FnExactLoopValueUptoSaid : Prop := fnExactLoopValueUptoRow.holds Try.pinned (OpenSpec.upto fnExactLoopValueSpec)

/-- 'laws.FnExactChebyshevNumber', WHERE WHAT IT READS IS OF BULK AT MOST 1048576: true; the input reads as it did. -/
def fnExactChebyshevNumberUptoRow : OpenClaim := { program := "ythkaeacfokfhpaa", sum := "3df31d28f24ddc7540095cf59caaa9089c6ef908dcb5ad28916cc06b9da67f09", func := "loop.example/g01251/laws.FnExactChebyshevNumber", spec := "fnExactChebyshevNumber", apart := false, narrowed := true }
def FnExactChebyshevNumberUptoSaid : Prop := fnExactChebyshevNumberUptoRow.holds Try.pinned (OpenSpec.upto fnExactChebyshevNumberSpec)

/-- 'laws.FnExactSpinLoop', WHERE WHAT IT READS IS OF BULK AT MOST 1048576: true; the input reads as it did. -/
def fnExactSpinLoopUptoRow : OpenClaim := { program := "ythkaeacfokfhpaa", sum := "3df31d28f24ddc7540095cf59caaa9089c6ef908dcb5ad28916cc06b9da67f09", func := "loop.example/g01251/laws.FnExactSpinLoop", spec := "fnExactSpinLoop", apart := false, narrowed := true }
def FnExactSpinLoopUptoSaid : Prop := fnExactSpinLoopUptoRow.holds Try.pinned (OpenSpec.upto fnExactSpinLoopSpec)

end Rows
end Go.Proofs.Ythkaeacfokfhpaa
