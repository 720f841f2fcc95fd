/-
  No cell of these rows narrows 'for every input' (looked for: loops, veiled, ifaces, maps, wideKeys, modest, calm, conditions, laid).
  DERIVED. THE GIVEN ROWS OF THIS SEAT. 14 by the template 'for every input the law returns true; each argument reads behind the call as it read before'; 0 by the template 'total and deterministic' (their statements: YtkaokemnmaddkaaTotals.lean).
  GIVEN WITH THE SEED: the statements are not yours to turn. If you find one false, say at which input.
  Laid BY PROGRAM, IN A SANDBOX (cutbox-rows.mjs): the forced cells as the released guide's own fill.sh prints them over the translation 00b60eba63fbf8b6… (all of the seat's roots in one cut). By AI agents, Wed Nov 11 2026. No macro, syntax, notation, axiom, sorry.
-/
import Derived.Test.YtkaokemnmaddkaaChecked
import GoSem.Claim
import GoSem.ClaimJoined
import GoSem.ClaimMapViews
import Derived.JoinedTies
import Derived.KernelRfl
namespace Go.Proofs.Ytkaokemnmaddkaa
/- THE CELL 'sum', in the pinned program and in every row, IS THE sha256 OF THE DUMP (.gsa) THAT YtkaokemnmaddkaaProg.lean LOADS. Nothing in Lean hashes anything: it is a label: what it is worth is what the hold of that sum in a sandbox is worth. -/
noncomputable def Try.pinned : Pinned := { name := "ytkaokemnmaddkaa", sum := "00b60eba63fbf8b6139fa636323d0890c651b4e17b30c8c02613e1e09803f471", checked := Try.checked }
namespace Rows
def none {H : Type} : Left H := { results := [], args := [] }

/-- 'laws.FnExactIsSystem': WHATEVER THE INPUT: true; the input reads as it did. -/
def fnExactIsSystemSpec : ChangeSpec := { name := "fnExactIsSystem", fn := fun _ => fun
  | [d] => { results := [.lit (.bool true)], args := [d] }
  | _ => none }
def fnExactIsSystemRow : OpenClaim := { program := "ytkaokemnmaddkaa", sum := "00b60eba63fbf8b6139fa636323d0890c651b4e17b30c8c02613e1e09803f471", func := "loop.example/g01251/laws.FnExactIsSystem", spec := "fnExactIsSystem", apart := false }
def FnExactIsSystemSaid : Prop := fnExactIsSystemRow.holds Try.pinned (OpenSpec.ofChange fnExactIsSystemSpec)

/-- ITS FALSE NEIGHBOUR: 'it returns false'. Refute it at one input. -/
def fnExactIsSystemWrong : ChangeSpec := { name := "fnExactIsSystem", fn := fun _ => fun
  | [d] => { results := [.lit (.bool false)], args := [d] }
  | _ => none }
def FnExactIsSystemWrongFalsely : Prop := fnExactIsSystemRow.holds Try.pinned (OpenSpec.ofChange fnExactIsSystemWrong)

/-- 'laws.FnExactSystemsOf': WHATEVER THE INPUT: true; the input reads as it did. -/
def fnExactSystemsOfSpec : ChangeSpec := { name := "fnExactSystemsOf", fn := fun _ => fun
  | [d] => { results := [.lit (.bool true)], args := [d] }
  | _ => none }
def fnExactSystemsOfRow : OpenClaim := { program := "ytkaokemnmaddkaa", sum := "00b60eba63fbf8b6139fa636323d0890c651b4e17b30c8c02613e1e09803f471", func := "loop.example/g01251/laws.FnExactSystemsOf", spec := "fnExactSystemsOf", unfollowed := true, recurses := true, apart := false }
def FnExactSystemsOfSaid : Prop := fnExactSystemsOfRow.holds Try.pinned (OpenSpec.ofChange fnExactSystemsOfSpec)

/-- ITS FALSE NEIGHBOUR: 'it returns false'. Refute it at one input. -/
def fnExactSystemsOfWrong : ChangeSpec := { name := "fnExactSystemsOf", fn := fun _ => fun
  | [d] => { results := [.lit (.bool false)], args := [d] }
  | _ => none }
def FnExactSystemsOfWrongFalsely : Prop := fnExactSystemsOfRow.holds Try.pinned (OpenSpec.ofChange fnExactSystemsOfWrong)

/-- 'laws.FnExactRainbowOf': WHATEVER THE INPUT: true; the input reads as it did. -/
def fnExactRainbowOfSpec : ChangeSpec := { name := "fnExactRainbowOf", fn := fun _ => fun
  | [d] => { results := [.lit (.bool true)], args := [d] }
  | _ => none }
def fnExactRainbowOfRow : OpenClaim := { program := "ytkaokemnmaddkaa", sum := "00b60eba63fbf8b6139fa636323d0890c651b4e17b30c8c02613e1e09803f471", func := "loop.example/g01251/laws.FnExactRainbowOf", spec := "fnExactRainbowOf", apart := false }
def FnExactRainbowOfSaid : Prop := fnExactRainbowOfRow.holds Try.pinned (OpenSpec.ofChange fnExactRainbowOfSpec)

/-- ITS FALSE NEIGHBOUR: 'it returns false'. Refute it at one input. -/
def fnExactRainbowOfWrong : ChangeSpec := { name := "fnExactRainbowOf", fn := fun _ => fun
  | [d] => { results := [.lit (.bool false)], args := [d] }
  | _ => none }
def FnExactRainbowOfWrongFalsely : Prop := fnExactRainbowOfRow.holds Try.pinned (OpenSpec.ofChange fnExactRainbowOfWrong)

/-- 'laws.FnExactTurnSystem': WHATEVER THE INPUT: true; the input reads as it did. -/
def fnExactTurnSystemSpec : ChangeSpec := { name := "fnExactTurnSystem", fn := fun _ => fun
  | [d] => { results := [.lit (.bool true)], args := [d] }
  | _ => none }
def fnExactTurnSystemRow : OpenClaim := { program := "ytkaokemnmaddkaa", sum := "00b60eba63fbf8b6139fa636323d0890c651b4e17b30c8c02613e1e09803f471", func := "loop.example/g01251/laws.FnExactTurnSystem", spec := "fnExactTurnSystem", apart := false }
def FnExactTurnSystemSaid : Prop := fnExactTurnSystemRow.holds Try.pinned (OpenSpec.ofChange fnExactTurnSystemSpec)

/-- ITS FALSE NEIGHBOUR: 'it returns false'. Refute it at one input. -/
def fnExactTurnSystemWrong : ChangeSpec := { name := "fnExactTurnSystem", fn := fun _ => fun
  | [d] => { results := [.lit (.bool false)], args := [d] }
  | _ => none }
def FnExactTurnSystemWrongFalsely : Prop := fnExactTurnSystemRow.holds Try.pinned (OpenSpec.ofChange fnExactTurnSystemWrong)

/-- 'laws.FnExactIsIrreduciblePair': WHATEVER THE INPUT: true; the input reads as it did. -/
def fnExactIsIrreduciblePairSpec : ChangeSpec := { name := "fnExactIsIrreduciblePair", fn := fun _ => fun
  | [d1, d2] => { results := [.lit (.bool true)], args := [d1, d2] }
  | _ => none }
def fnExactIsIrreduciblePairRow : OpenClaim := { program := "ytkaokemnmaddkaa", sum := "00b60eba63fbf8b6139fa636323d0890c651b4e17b30c8c02613e1e09803f471", func := "loop.example/g01251/laws.FnExactIsIrreduciblePair", spec := "fnExactIsIrreduciblePair", unfollowed := true, recurses := true, apart := false }
def FnExactIsIrreduciblePairSaid : Prop := fnExactIsIrreduciblePairRow.holds Try.pinned (OpenSpec.ofChange fnExactIsIrreduciblePairSpec)

/-- ITS FALSE NEIGHBOUR: 'it returns false'. Refute it at one input. -/
def fnExactIsIrreduciblePairWrong : ChangeSpec := { name := "fnExactIsIrreduciblePair", fn := fun _ => fun
  | [d1, d2] => { results := [.lit (.bool false)], args := [d1, d2] }
  | _ => none }
def FnExactIsIrreduciblePairWrongFalsely : Prop := fnExactIsIrreduciblePairRow.holds Try.pinned (OpenSpec.ofChange fnExactIsIrreduciblePairWrong)

/-- 'laws.FnExactComponentsOfPair': WHATEVER THE INPUT: true; the input reads as it did. -/
def fnExactComponentsOfPairSpec : ChangeSpec := { name := "fnExactComponentsOfPair", fn := fun _ => fun
  | [d1, d2] => { results := [.lit (.bool true)], args := [d1, d2] }
  | _ => none }
def fnExactComponentsOfPairRow : OpenClaim := { program := "ytkaokemnmaddkaa", sum := "00b60eba63fbf8b6139fa636323d0890c651b4e17b30c8c02613e1e09803f471", func := "loop.example/g01251/laws.FnExactComponentsOfPair", spec := "fnExactComponentsOfPair", apart := false }
def FnExactComponentsOfPairSaid : Prop := fnExactComponentsOfPairRow.holds Try.pinned (OpenSpec.ofChange fnExactComponentsOfPairSpec)

/-- ITS FALSE NEIGHBOUR: 'it returns false'. Refute it at one input. -/
def fnExactComponentsOfPairWrong : ChangeSpec := { name := "fnExactComponentsOfPair", fn := fun _ => fun
  | [d1, d2] => { results := [.lit (.bool false)], args := [d1, d2] }
  | _ => none }
def FnExactComponentsOfPairWrongFalsely : Prop := fnExactComponentsOfPairRow.holds Try.pinned (OpenSpec.ofChange fnExactComponentsOfPairWrong)

/-- 'laws.FnExactOrderOfMeander': WHATEVER THE INPUT: true; the input reads as it did. -/
def fnExactOrderOfMeanderSpec : ChangeSpec := { name := "fnExactOrderOfMeander", fn := fun _ => fun
  | [d1, d2] => { results := [.lit (.bool true)], args := [d1, d2] }
  | _ => none }
def fnExactOrderOfMeanderRow : OpenClaim := { program := "ytkaokemnmaddkaa", sum := "00b60eba63fbf8b6139fa636323d0890c651b4e17b30c8c02613e1e09803f471", func := "loop.example/g01251/laws.FnExactOrderOfMeander", spec := "fnExactOrderOfMeander", apart := false }
def FnExactOrderOfMeanderSaid : Prop := fnExactOrderOfMeanderRow.holds Try.pinned (OpenSpec.ofChange fnExactOrderOfMeanderSpec)

/-- ITS FALSE NEIGHBOUR: 'it returns false'. Refute it at one input. -/
def fnExactOrderOfMeanderWrong : ChangeSpec := { name := "fnExactOrderOfMeander", fn := fun _ => fun
  | [d1, d2] => { results := [.lit (.bool false)], args := [d1, d2] }
  | _ => none }
def FnExactOrderOfMeanderWrongFalsely : Prop := fnExactOrderOfMeanderRow.holds Try.pinned (OpenSpec.ofChange fnExactOrderOfMeanderWrong)

/-- 'laws.FnExactCountByComponents': WHATEVER THE INPUT: true; the input reads as it did. -/
def fnExactCountByComponentsSpec : ChangeSpec := { name := "fnExactCountByComponents", fn := fun _ => fun
  | [d] => { results := [.lit (.bool true)], args := [d] }
  | _ => none }
def fnExactCountByComponentsRow : OpenClaim := { program := "ytkaokemnmaddkaa", sum := "00b60eba63fbf8b6139fa636323d0890c651b4e17b30c8c02613e1e09803f471", func := "loop.example/g01251/laws.FnExactCountByComponents", spec := "fnExactCountByComponents", unfollowed := true, recurses := true, apart := false }
def FnExactCountByComponentsSaid : Prop := fnExactCountByComponentsRow.holds Try.pinned (OpenSpec.ofChange fnExactCountByComponentsSpec)

/-- ITS FALSE NEIGHBOUR: 'it returns false'. Refute it at one input. -/
def fnExactCountByComponentsWrong : ChangeSpec := { name := "fnExactCountByComponents", fn := fun _ => fun
  | [d] => { results := [.lit (.bool false)], args := [d] }
  | _ => none }
def FnExactCountByComponentsWrongFalsely : Prop := fnExactCountByComponentsRow.holds Try.pinned (OpenSpec.ofChange fnExactCountByComponentsWrong)

/-- 'laws.FnExactComponentTable': WHATEVER THE INPUT: true; the input reads as it did. -/
def fnExactComponentTableSpec : ChangeSpec := { name := "fnExactComponentTable", fn := fun _ => fun
  | [d] => { results := [.lit (.bool true)], args := [d] }
  | _ => none }
def fnExactComponentTableRow : OpenClaim := { program := "ytkaokemnmaddkaa", sum := "00b60eba63fbf8b6139fa636323d0890c651b4e17b30c8c02613e1e09803f471", func := "loop.example/g01251/laws.FnExactComponentTable", spec := "fnExactComponentTable", unfollowed := true, recurses := true, apart := false }
def FnExactComponentTableSaid : Prop := fnExactComponentTableRow.holds Try.pinned (OpenSpec.ofChange fnExactComponentTableSpec)

/-- ITS FALSE NEIGHBOUR: 'it returns false'. Refute it at one input. -/
def fnExactComponentTableWrong : ChangeSpec := { name := "fnExactComponentTable", fn := fun _ => fun
  | [d] => { results := [.lit (.bool false)], args := [d] }
  | _ => none }
def FnExactComponentTableWrongFalsely : Prop := fnExactComponentTableRow.holds Try.pinned (OpenSpec.ofChange fnExactComponentTableWrong)

/-- 'laws.FnExactCountWithRainbow': WHATEVER THE INPUT: true; the input reads as it did. -/
def fnExactCountWithRainbowSpec : ChangeSpec := { name := "fnExactCountWithRainbow", fn := fun _ => fun
  | [d] => { results := [.lit (.bool true)], args := [d] }
  | _ => none }
def fnExactCountWithRainbowRow : OpenClaim := { program := "ytkaokemnmaddkaa", sum := "00b60eba63fbf8b6139fa636323d0890c651b4e17b30c8c02613e1e09803f471", func := "loop.example/g01251/laws.FnExactCountWithRainbow", spec := "fnExactCountWithRainbow", unfollowed := true, recurses := true, apart := false }
def FnExactCountWithRainbowSaid : Prop := fnExactCountWithRainbowRow.holds Try.pinned (OpenSpec.ofChange fnExactCountWithRainbowSpec)

/-- ITS FALSE NEIGHBOUR: 'it returns false'. Refute it at one input. -/
def fnExactCountWithRainbowWrong : ChangeSpec := { name := "fnExactCountWithRainbow", fn := fun _ => fun
  | [d] => { results := [.lit (.bool false)], args := [d] }
  | _ => none }
def FnExactCountWithRainbowWrongFalsely : Prop := fnExactCountWithRainbowRow.holds Try.pinned (OpenSpec.ofChange fnExactCountWithRainbowWrong)

/-- 'laws.FnExactComponentDeterminant': WHATEVER THE INPUT: true; the input reads as it did. -/
def fnExactComponentDeterminantSpec : ChangeSpec := { name := "fnExactComponentDeterminant", fn := fun _ => fun
  | [d1, d2, d3] => { results := [.lit (.bool true)], args := [d1, d2, d3] }
  | _ => none }
def fnExactComponentDeterminantRow : OpenClaim := { program := "ytkaokemnmaddkaa", sum := "00b60eba63fbf8b6139fa636323d0890c651b4e17b30c8c02613e1e09803f471", func := "loop.example/g01251/laws.FnExactComponentDeterminant", spec := "fnExactComponentDeterminant", unfollowed := true, recurses := true, apart := false }
def FnExactComponentDeterminantSaid : Prop := fnExactComponentDeterminantRow.holds Try.pinned (OpenSpec.ofChange fnExactComponentDeterminantSpec)

/-- ITS FALSE NEIGHBOUR: 'it returns false'. Refute it at one input. -/
def fnExactComponentDeterminantWrong : ChangeSpec := { name := "fnExactComponentDeterminant", fn := fun _ => fun
  | [d1, d2, d3] => { results := [.lit (.bool false)], args := [d1, d2, d3] }
  | _ => none }
def FnExactComponentDeterminantWrongFalsely : Prop := fnExactComponentDeterminantRow.holds Try.pinned (OpenSpec.ofChange fnExactComponentDeterminantWrong)

/-- 'laws.FnExactMeanderOfOrder': WHATEVER THE INPUT: true; the input reads as it did. -/
def fnExactMeanderOfOrderSpec : ChangeSpec := { name := "fnExactMeanderOfOrder", fn := fun _ => fun
  | [d] => { results := [.lit (.bool true)], args := [d] }
  | _ => none }
def fnExactMeanderOfOrderRow : OpenClaim := { program := "ytkaokemnmaddkaa", sum := "00b60eba63fbf8b6139fa636323d0890c651b4e17b30c8c02613e1e09803f471", func := "loop.example/g01251/laws.FnExactMeanderOfOrder", spec := "fnExactMeanderOfOrder", unfollowed := true, recurses := true, apart := false }
def FnExactMeanderOfOrderSaid : Prop := fnExactMeanderOfOrderRow.holds Try.pinned (OpenSpec.ofChange fnExactMeanderOfOrderSpec)

/-- ITS FALSE NEIGHBOUR: 'it returns false'. Refute it at one input. -/
def fnExactMeanderOfOrderWrong : ChangeSpec := { name := "fnExactMeanderOfOrder", fn := fun _ => fun
  | [d] => { results := [.lit (.bool false)], args := [d] }
  | _ => none }
def FnExactMeanderOfOrderWrongFalsely : Prop := fnExactMeanderOfOrderRow.holds Try.pinned (OpenSpec.ofChange fnExactMeanderOfOrderWrong)

/-- 'laws.FnMeanders': WHATEVER THE INPUT: true; the input reads as it did. -/
def fnMeandersSpec : ChangeSpec := { name := "fnMeanders", fn := fun _ => fun
  | [d] => { results := [.lit (.bool true)], args := [d] }
  | _ => none }
def fnMeandersRow : OpenClaim := { program := "ytkaokemnmaddkaa", sum := "00b60eba63fbf8b6139fa636323d0890c651b4e17b30c8c02613e1e09803f471", func := "loop.example/g01251/laws.FnMeanders", spec := "fnMeanders", unfollowed := true, recurses := true, apart := false }
def FnMeandersSaid : Prop := fnMeandersRow.holds Try.pinned (OpenSpec.ofChange fnMeandersSpec)

/-- ITS FALSE NEIGHBOUR: 'it returns false'. Refute it at one input. -/
def fnMeandersWrong : ChangeSpec := { name := "fnMeanders", fn := fun _ => fun
  | [d] => { results := [.lit (.bool false)], args := [d] }
  | _ => none }
def FnMeandersWrongFalsely : Prop := fnMeandersRow.holds Try.pinned (OpenSpec.ofChange fnMeandersWrong)

/-- 'laws.FnMeanderCounts': WHATEVER THE INPUT: true; the input reads as it did. -/
def fnMeanderCountsSpec : ChangeSpec := { name := "fnMeanderCounts", fn := fun _ => fun
  | [d] => { results := [.lit (.bool true)], args := [d] }
  | _ => none }
def fnMeanderCountsRow : OpenClaim := { program := "ytkaokemnmaddkaa", sum := "00b60eba63fbf8b6139fa636323d0890c651b4e17b30c8c02613e1e09803f471", func := "loop.example/g01251/laws.FnMeanderCounts", spec := "fnMeanderCounts", unfollowed := true, recurses := true, apart := false }
def FnMeanderCountsSaid : Prop := fnMeanderCountsRow.holds Try.pinned (OpenSpec.ofChange fnMeanderCountsSpec)

/-- ITS FALSE NEIGHBOUR: 'it returns false'. Refute it at one input. -/
def fnMeanderCountsWrong : ChangeSpec := { name := "fnMeanderCounts", fn := fun _ => fun
  | [d] => { results := [.lit (.bool false)], args := [d] }
  | _ => none }
def FnMeanderCountsWrongFalsely : Prop := fnMeanderCountsRow.holds Try.pinned (OpenSpec.ofChange fnMeanderCountsWrong)

/- THE SECOND FORM. 'bulk': how many values and letters a reading holds, each counted each time it is reached (what is shared counts as often as it is met; a slice's spare places count too). A statement '..UptoSaid' is the law's where the arguments, and the package variables that the reading takes, are together of bulk at most 1048576: NARROWER than '..Said'. Prove '..Said' where nothing that the law and all that it calls make is longer than what came in: it says more and counts as full. Else prove '..UptoSaid'. A law counts once. -/
mutual
def uptoBulk {H : Type} : DataW H → Nat
  | .lit (.string bytes) => bytes.length + 1
  | .lit _ => 1
  | .nil => 1
  | .ptr d => uptoBulk d + 1
  | .slice elems spare => uptoBulkAll elems + uptoBulkAll spare + 1
  | .agg parts => uptoBulkAll parts + 1
  | .iface _ d => uptoBulk d + 1
  | .map entries => uptoBulkEntries entries + 1
  | .held _ => 1
def uptoBulkAll {H : Type} : List (DataW H) → Nat
  | [] => 0
  | d :: r => uptoBulk d + uptoBulkAll r
def uptoBulkEntries {H : Type} : List (Lit × DataW H) → Nat
  | [] => 0
  | x :: r => uptoBulkEntry x + uptoBulkEntries r
def uptoBulkEntry {H : Type} : Lit × DataW H → Nat
  | (.string bytes, d) => bytes.length + uptoBulk d + 1
  | (_, d) => uptoBulk d + 1
 end
def uptoSmall : (H : Type) → List (DataW H) → Bool := fun _ ds => decide (uptoBulkAll ds ≤ 1048576)
def OpenSpec.upto (s : _root_.Go.ChangeSpec) : _root_.Go.OpenSpec := { _root_.Go.OpenSpec.ofChange s with cond := some uptoSmall }

/-- 'laws.FnExactIsSystem', WHERE WHAT IT READS IS OF BULK AT MOST 1048576: true; the input reads as it did. -/
def fnExactIsSystemUptoRow : OpenClaim := { program := "ytkaokemnmaddkaa", sum := "00b60eba63fbf8b6139fa636323d0890c651b4e17b30c8c02613e1e09803f471", func := "loop.example/g01251/laws.FnExactIsSystem", spec := "fnExactIsSystem", apart := false, narrowed := true }
def FnExactIsSystemUptoSaid : Prop := fnExactIsSystemUptoRow.holds Try.pinned (OpenSpec.upto fnExactIsSystemSpec)

/-- 'laws.FnExactSystemsOf', WHERE WHAT IT READS IS OF BULK AT MOST 1048576: true; the input reads as it did. -/
def fnExactSystemsOfUptoRow : OpenClaim := { program := "ytkaokemnmaddkaa", sum := "00b60eba63fbf8b6139fa636323d0890c651b4e17b30c8c02613e1e09803f471", func := "loop.example/g01251/laws.FnExactSystemsOf", spec := "fnExactSystemsOf", unfollowed := true, recurses := true, apart := false, narrowed := true }
def FnExactSystemsOfUptoSaid : Prop := fnExactSystemsOfUptoRow.holds Try.pinned (OpenSpec.upto fnExactSystemsOfSpec)

/-- 'laws.FnExactRainbowOf', WHERE WHAT IT READS IS OF BULK AT MOST 1048576: true; the input reads as it did. -/
def fnExactRainbowOfUptoRow : OpenClaim := { program := "ytkaokemnmaddkaa", sum := "00b60eba63fbf8b6139fa636323d0890c651b4e17b30c8c02613e1e09803f471", func := "loop.example/g01251/laws.FnExactRainbowOf", spec := "fnExactRainbowOf", apart := false, narrowed := true }
def FnExactRainbowOfUptoSaid : Prop := fnExactRainbowOfUptoRow.holds Try.pinned (OpenSpec.upto fnExactRainbowOfSpec)

/-- 'laws.FnExactTurnSystem', WHERE WHAT IT READS IS OF BULK AT MOST 1048576: true; the input reads as it did. -/
def fnExactTurnSystemUptoRow : OpenClaim := { program := "ytkaokemnmaddkaa", sum := "00b60eba63fbf8b6139fa636323d0890c651b4e17b30c8c02613e1e09803f471", func := "loop.example/g01251/laws.FnExactTurnSystem", spec := "fnExactTurnSystem", apart := false, narrowed := true }
def FnExactTurnSystemUptoSaid : Prop := fnExactTurnSystemUptoRow.holds Try.pinned (OpenSpec.upto fnExactTurnSystemSpec)

/-- 'laws.FnExactIsIrreduciblePair', WHERE WHAT IT READS IS OF BULK AT MOST 1048576: true; the input reads as it did. -/
def fnExactIsIrreduciblePairUptoRow : OpenClaim := { program := "ytkaokemnmaddkaa", sum := "00b60eba63fbf8b6139fa636323d0890c651b4e17b30c8c02613e1e09803f471", func := "loop.example/g01251/laws.FnExactIsIrreduciblePair", spec := "fnExactIsIrreduciblePair", unfollowed := true, recurses := true, apart := false, narrowed := true }
def FnExactIsIrreduciblePairUptoSaid : Prop := fnExactIsIrreduciblePairUptoRow.holds Try.pinned (OpenSpec.upto fnExactIsIrreduciblePairSpec)

/-- 'laws.FnExactComponentsOfPair', WHERE WHAT IT READS IS OF BULK AT MOST 1048576: true; the input reads as it did. -/
def fnExactComponentsOfPairUptoRow : OpenClaim := { program := "ytkaokemnmaddkaa", sum := "00b60eba63fbf8b6139fa636323d0890c651b4e17b30c8c02613e1e09803f471", func := "loop.example/g01251/laws.FnExactComponentsOfPair", spec := "fnExactComponentsOfPair", apart := false, narrowed := true }
def FnExactComponentsOfPairUptoSaid : Prop := fnExactComponentsOfPairUptoRow.holds Try.pinned (OpenSpec.upto fnExactComponentsOfPairSpec)

/-- 'laws.FnExactOrderOfMeander', WHERE WHAT IT READS IS OF BULK AT MOST 1048576: true; the input reads as it did. -/
def fnExactOrderOfMeanderUptoRow : OpenClaim := { program := "ytkaokemnmaddkaa", sum := "00b60eba63fbf8b6139fa636323d0890c651b4e17b30c8c02613e1e09803f471", func := "loop.example/g01251/laws.FnExactOrderOfMeander", spec := "fnExactOrderOfMeander", apart := false, narrowed := true }
def FnExactOrderOfMeanderUptoSaid : Prop := fnExactOrderOfMeanderUptoRow.holds Try.pinned (OpenSpec.upto fnExactOrderOfMeanderSpec)

/-- 'laws.FnExactCountByComponents', WHERE WHAT IT READS IS OF BULK AT MOST 1048576: true; the input reads as it did. -/
def fnExactCountByComponentsUptoRow : OpenClaim := { program := "ytkaokemnmaddkaa", sum := "00b60eba63fbf8b6139fa636323d0890c651b4e17b30c8c02613e1e09803f471", func := "loop.example/g01251/laws.FnExactCountByComponents", spec := "fnExactCountByComponents", unfollowed := true, recurses := true, apart := false, narrowed := true }
def FnExactCountByComponentsUptoSaid : Prop := fnExactCountByComponentsUptoRow.holds Try.pinned (OpenSpec.upto fnExactCountByComponentsSpec)

/-- 'laws.FnExactComponentTable', WHERE WHAT IT READS IS OF BULK AT MOST 1048576: true; the input reads as it did. -/
def fnExactComponentTableUptoRow : OpenClaim := { program := "ytkaokemnmaddkaa", sum := "00b60eba63fbf8b6139fa636323d0890c651b4e17b30c8c02613e1e09803f471", func := "loop.example/g01251/laws.FnExactComponentTable", spec := "fnExactComponentTable", unfollowed := true, recurses := true, apart := false, narrowed := true }
def FnExactComponentTableUptoSaid : Prop := fnExactComponentTableUptoRow.holds Try.pinned (OpenSpec.upto fnExactComponentTableSpec)

/-- 'laws.FnExactCountWithRainbow', WHERE WHAT IT READS IS OF BULK AT MOST 1048576: true; the input reads as it did. -/
def fnExactCountWithRainbowUptoRow : OpenClaim := { program := "ytkaokemnmaddkaa", sum := "00b60eba63fbf8b6139fa636323d0890c651b4e17b30c8c02613e1e09803f471", func := "loop.example/g01251/laws.FnExactCountWithRainbow", spec := "fnExactCountWithRainbow", unfollowed := true, recurses := true, apart := false, narrowed := true }
def FnExactCountWithRainbowUptoSaid : Prop := fnExactCountWithRainbowUptoRow.holds Try.pinned (OpenSpec.upto fnExactCountWithRainbowSpec)

/-- 'laws.FnExactComponentDeterminant', WHERE WHAT IT READS IS OF BULK AT MOST 1048576: true; the input reads as it did. -/
def fnExactComponentDeterminantUptoRow : OpenClaim := { program := "ytkaokemnmaddkaa", sum := "00b60eba63fbf8b6139fa636323d0890c651b4e17b30c8c02613e1e09803f471", func := "loop.example/g01251/laws.FnExactComponentDeterminant", spec := "fnExactComponentDeterminant", unfollowed := true, recurses := true, apart := false, narrowed := true }
def FnExactComponentDeterminantUptoSaid : Prop := fnExactComponentDeterminantUptoRow.holds Try.pinned (OpenSpec.upto fnExactComponentDeterminantSpec)

/-- 'laws.FnExactMeanderOfOrder', WHERE WHAT IT READS IS OF BULK AT MOST 1048576: true; the input reads as it did. -/
def fnExactMeanderOfOrderUptoRow : OpenClaim := { program := "ytkaokemnmaddkaa", sum := "00b60eba63fbf8b6139fa636323d0890c651b4e17b30c8c02613e1e09803f471", func := "loop.example/g01251/laws.FnExactMeanderOfOrder", spec := "fnExactMeanderOfOrder", unfollowed := true, recurses := true, apart := false, narrowed := true }
def FnExactMeanderOfOrderUptoSaid : Prop := fnExactMeanderOfOrderUptoRow.holds Try.pinned (OpenSpec.upto fnExactMeanderOfOrderSpec)

/-- 'laws.FnMeanders', WHERE WHAT IT READS IS OF BULK AT MOST 1048576: true; the input reads as it did. -/
def fnMeandersUptoRow : OpenClaim := { program := "ytkaokemnmaddkaa", sum := "00b60eba63fbf8b6139fa636323d0890c651b4e17b30c8c02613e1e09803f471", func := "loop.example/g01251/laws.FnMeanders", spec := "fnMeanders", unfollowed := true, recurses := true, apart := false, narrowed := true }
def FnMeandersUptoSaid : Prop := fnMeandersUptoRow.holds Try.pinned (OpenSpec.upto fnMeandersSpec)

/-- 'laws.FnMeanderCounts', WHERE WHAT IT READS IS OF BULK AT MOST 1048576: true; the input reads as it did. -/
def fnMeanderCountsUptoRow : OpenClaim := { program := "ytkaokemnmaddkaa", sum := "00b60eba63fbf8b6139fa636323d0890c651b4e17b30c8c02613e1e09803f471", func := "loop.example/g01251/laws.FnMeanderCounts", spec := "fnMeanderCounts", unfollowed := true, recurses := true, apart := false, narrowed := true }
def FnMeanderCountsUptoSaid : Prop := fnMeanderCountsUptoRow.holds Try.pinned (OpenSpec.upto fnMeanderCountsSpec)

end Rows
end Go.Proofs.Ytkaokemnmaddkaa
