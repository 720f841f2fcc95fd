/-
  No cell of these rows narrows 'for every input' (looked for: loops, veiled, ifaces, maps, wideKeys, modest, calm, conditions, laid).
  DERIVED. THE GIVEN ROWS OF THIS SEAT. 7 by the template 'for every input the law returns true; each argument reads behind the call as it read before'; 0 by the template 'total and deterministic' (their statements: YtenignpfelipgaaTotals.lean).
  GIVEN WITH THE SEED: the statements are not yours to turn. If you find one false, say at which input.
  Laid BY PROGRAM, IN A SANDBOX (cutbox-rows.mjs): the forced cells as the released guide's own fill.sh prints them over the translation 2a7cad47f71904dd… (all of the seat's roots in one cut). By AI agents, Wed Nov 11 2026. No macro, syntax, notation, axiom, sorry.
-/
import Derived.Test.YtenignpfelipgaaChecked
import GoSem.Claim
import GoSem.ClaimJoined
import GoSem.ClaimMapViews
import Derived.JoinedTies
import Derived.KernelRfl
namespace Go.Proofs.Ytenignpfelipgaa
/- THE CELL 'sum', in the pinned program and in every row, IS THE sha256 OF THE DUMP (.gsa) THAT YtenignpfelipgaaProg.lean LOADS. Nothing in Lean hashes anything: it is a label: what it is worth is what the hold of that sum in a sandbox is worth. -/
noncomputable def Try.pinned : Pinned := { name := "ytenignpfelipgaa", sum := "2a7cad47f71904dd718955ed8db9de2382f41d776de916369101946ef31b94aa", checked := Try.checked }
namespace Rows
def none {H : Type} : Left H := { results := [], args := [] }

/-- 'laws.FnExactIsSystem': WHATEVER THE INPUT: true; the input reads as it did. -/
def fnExactIsSystemSpec : ChangeSpec := { name := "fnExactIsSystem", fn := fun _ => fun
  | [d] => { results := [.lit (.bool true)], args := [d] }
  | _ => none }
def fnExactIsSystemRow : OpenClaim := { program := "ytenignpfelipgaa", sum := "2a7cad47f71904dd718955ed8db9de2382f41d776de916369101946ef31b94aa", func := "loop.example/g01251/laws.FnExactIsSystem", spec := "fnExactIsSystem", apart := false }
def FnExactIsSystemSaid : Prop := fnExactIsSystemRow.holds Try.pinned (OpenSpec.ofChange fnExactIsSystemSpec)

/-- ITS FALSE NEIGHBOUR: 'it returns false'. Refute it at one input. -/
def fnExactIsSystemWrong : ChangeSpec := { name := "fnExactIsSystem", fn := fun _ => fun
  | [d] => { results := [.lit (.bool false)], args := [d] }
  | _ => none }
def FnExactIsSystemWrongFalsely : Prop := fnExactIsSystemRow.holds Try.pinned (OpenSpec.ofChange fnExactIsSystemWrong)

/-- 'laws.FnExactSystemsOf': WHATEVER THE INPUT: true; the input reads as it did. -/
def fnExactSystemsOfSpec : ChangeSpec := { name := "fnExactSystemsOf", fn := fun _ => fun
  | [d] => { results := [.lit (.bool true)], args := [d] }
  | _ => none }
def fnExactSystemsOfRow : OpenClaim := { program := "ytenignpfelipgaa", sum := "2a7cad47f71904dd718955ed8db9de2382f41d776de916369101946ef31b94aa", func := "loop.example/g01251/laws.FnExactSystemsOf", spec := "fnExactSystemsOf", unfollowed := true, recurses := true, apart := false }
def FnExactSystemsOfSaid : Prop := fnExactSystemsOfRow.holds Try.pinned (OpenSpec.ofChange fnExactSystemsOfSpec)

/-- ITS FALSE NEIGHBOUR: 'it returns false'. Refute it at one input. -/
def fnExactSystemsOfWrong : ChangeSpec := { name := "fnExactSystemsOf", fn := fun _ => fun
  | [d] => { results := [.lit (.bool false)], args := [d] }
  | _ => none }
def FnExactSystemsOfWrongFalsely : Prop := fnExactSystemsOfRow.holds Try.pinned (OpenSpec.ofChange fnExactSystemsOfWrong)

/-- 'laws.FnExactRainbowOf': WHATEVER THE INPUT: true; the input reads as it did. -/
def fnExactRainbowOfSpec : ChangeSpec := { name := "fnExactRainbowOf", fn := fun _ => fun
  | [d] => { results := [.lit (.bool true)], args := [d] }
  | _ => none }
def fnExactRainbowOfRow : OpenClaim := { program := "ytenignpfelipgaa", sum := "2a7cad47f71904dd718955ed8db9de2382f41d776de916369101946ef31b94aa", func := "loop.example/g01251/laws.FnExactRainbowOf", spec := "fnExactRainbowOf", apart := false }
def FnExactRainbowOfSaid : Prop := fnExactRainbowOfRow.holds Try.pinned (OpenSpec.ofChange fnExactRainbowOfSpec)

/-- ITS FALSE NEIGHBOUR: 'it returns false'. Refute it at one input. -/
def fnExactRainbowOfWrong : ChangeSpec := { name := "fnExactRainbowOf", fn := fun _ => fun
  | [d] => { results := [.lit (.bool false)], args := [d] }
  | _ => none }
def FnExactRainbowOfWrongFalsely : Prop := fnExactRainbowOfRow.holds Try.pinned (OpenSpec.ofChange fnExactRainbowOfWrong)

/-- 'laws.FnExactTurnSystem': WHATEVER THE INPUT: true; the input reads as it did. -/
def fnExactTurnSystemSpec : ChangeSpec := { name := "fnExactTurnSystem", fn := fun _ => fun
  | [d] => { results := [.lit (.bool true)], args := [d] }
  | _ => none }
def fnExactTurnSystemRow : OpenClaim := { program := "ytenignpfelipgaa", sum := "2a7cad47f71904dd718955ed8db9de2382f41d776de916369101946ef31b94aa", func := "loop.example/g01251/laws.FnExactTurnSystem", spec := "fnExactTurnSystem", apart := false }
def FnExactTurnSystemSaid : Prop := fnExactTurnSystemRow.holds Try.pinned (OpenSpec.ofChange fnExactTurnSystemSpec)

/-- ITS FALSE NEIGHBOUR: 'it returns false'. Refute it at one input. -/
def fnExactTurnSystemWrong : ChangeSpec := { name := "fnExactTurnSystem", fn := fun _ => fun
  | [d] => { results := [.lit (.bool false)], args := [d] }
  | _ => none }
def FnExactTurnSystemWrongFalsely : Prop := fnExactTurnSystemRow.holds Try.pinned (OpenSpec.ofChange fnExactTurnSystemWrong)

/-- 'laws.FnExactIsIrreduciblePair': WHATEVER THE INPUT: true; the input reads as it did. -/
def fnExactIsIrreduciblePairSpec : ChangeSpec := { name := "fnExactIsIrreduciblePair", fn := fun _ => fun
  | [d1, d2] => { results := [.lit (.bool true)], args := [d1, d2] }
  | _ => none }
def fnExactIsIrreduciblePairRow : OpenClaim := { program := "ytenignpfelipgaa", sum := "2a7cad47f71904dd718955ed8db9de2382f41d776de916369101946ef31b94aa", func := "loop.example/g01251/laws.FnExactIsIrreduciblePair", spec := "fnExactIsIrreduciblePair", unfollowed := true, recurses := true, apart := false }
def FnExactIsIrreduciblePairSaid : Prop := fnExactIsIrreduciblePairRow.holds Try.pinned (OpenSpec.ofChange fnExactIsIrreduciblePairSpec)

/-- ITS FALSE NEIGHBOUR: 'it returns false'. Refute it at one input. -/
def fnExactIsIrreduciblePairWrong : ChangeSpec := { name := "fnExactIsIrreduciblePair", fn := fun _ => fun
  | [d1, d2] => { results := [.lit (.bool false)], args := [d1, d2] }
  | _ => none }
def FnExactIsIrreduciblePairWrongFalsely : Prop := fnExactIsIrreduciblePairRow.holds Try.pinned (OpenSpec.ofChange fnExactIsIrreduciblePairWrong)

/-- 'laws.FnExactComponentsOfPair': WHATEVER THE INPUT: true; the input reads as it did. -/
def fnExactComponentsOfPairSpec : ChangeSpec := { name := "fnExactComponentsOfPair", fn := fun _ => fun
  | [d1, d2] => { results := [.lit (.bool true)], args := [d1, d2] }
  | _ => none }
def fnExactComponentsOfPairRow : OpenClaim := { program := "ytenignpfelipgaa", sum := "2a7cad47f71904dd718955ed8db9de2382f41d776de916369101946ef31b94aa", func := "loop.example/g01251/laws.FnExactComponentsOfPair", spec := "fnExactComponentsOfPair", apart := false }
def FnExactComponentsOfPairSaid : Prop := fnExactComponentsOfPairRow.holds Try.pinned (OpenSpec.ofChange fnExactComponentsOfPairSpec)

/-- ITS FALSE NEIGHBOUR: 'it returns false'. Refute it at one input. -/
def fnExactComponentsOfPairWrong : ChangeSpec := { name := "fnExactComponentsOfPair", fn := fun _ => fun
  | [d1, d2] => { results := [.lit (.bool false)], args := [d1, d2] }
  | _ => none }
def FnExactComponentsOfPairWrongFalsely : Prop := fnExactComponentsOfPairRow.holds Try.pinned (OpenSpec.ofChange fnExactComponentsOfPairWrong)

/-- 'laws.FnExactOrderOfMeander': WHATEVER THE INPUT: true; the input reads as it did. -/
def fnExactOrderOfMeanderSpec : ChangeSpec := { name := "fnExactOrderOfMeander", fn := fun _ => fun
  | [d1, d2] => { results := [.lit (.bool true)], args := [d1, d2] }
  | _ => none }
def fnExactOrderOfMeanderRow : OpenClaim := { program := "ytenignpfelipgaa", sum := "2a7cad47f71904dd718955ed8db9de2382f41d776de916369101946ef31b94aa", func := "loop.example/g01251/laws.FnExactOrderOfMeander", spec := "fnExactOrderOfMeander", apart := false }
def FnExactOrderOfMeanderSaid : Prop := fnExactOrderOfMeanderRow.holds Try.pinned (OpenSpec.ofChange fnExactOrderOfMeanderSpec)

/-- ITS FALSE NEIGHBOUR: 'it returns false'. Refute it at one input. -/
def fnExactOrderOfMeanderWrong : ChangeSpec := { name := "fnExactOrderOfMeander", fn := fun _ => fun
  | [d1, d2] => { results := [.lit (.bool false)], args := [d1, d2] }
  | _ => none }
def FnExactOrderOfMeanderWrongFalsely : Prop := fnExactOrderOfMeanderRow.holds Try.pinned (OpenSpec.ofChange fnExactOrderOfMeanderWrong)

/- THE SECOND FORM. 'bulk': how many values and letters a reading holds, each counted each time it is reached (what is shared counts as often as it is met; a slice's spare places count too). A statement '..UptoSaid' is the law's where the arguments, and the package variables that the reading takes, are together of bulk at most 1048576: NARROWER than '..Said'. Prove '..Said' where nothing that the law and all that it calls make is longer than what came in: it says more and counts as full. Else prove '..UptoSaid'. A law counts once. -/
mutual
def uptoBulk {H : Type} : DataW H → Nat
  | .lit (.string bytes) => bytes.length + 1
  | .lit _ => 1
  | .nil => 1
  | .ptr d => uptoBulk d + 1
  | .slice elems spare => uptoBulkAll elems + uptoBulkAll spare + 1
  | .agg parts => uptoBulkAll parts + 1
  | .iface _ d => uptoBulk d + 1
  | .map entries => uptoBulkEntries entries + 1
  | .held _ => 1
def uptoBulkAll {H : Type} : List (DataW H) → Nat
  | [] => 0
  | d :: r => uptoBulk d + uptoBulkAll r
def uptoBulkEntries {H : Type} : List (Lit × DataW H) → Nat
  | [] => 0
  | x :: r => uptoBulkEntry x + uptoBulkEntries r
def uptoBulkEntry {H : Type} : Lit × DataW H → Nat
  | (.string bytes, d) => bytes.length + uptoBulk d + 1
  | (_, d) => uptoBulk d + 1
 end
def uptoSmall : (H : Type) → List (DataW H) → Bool := fun _ ds => decide (uptoBulkAll ds ≤ 1048576)
def OpenSpec.upto (s : _root_.Go.ChangeSpec) : _root_.Go.OpenSpec := { _root_.Go.OpenSpec.ofChange s with cond := some uptoSmall }

/-- 'laws.FnExactIsSystem', WHERE WHAT IT READS IS OF BULK AT MOST 1048576: true; the input reads as it did. -/
def fnExactIsSystemUptoRow : OpenClaim := { program := "ytenignpfelipgaa", sum := "2a7cad47f71904dd718955ed8db9de2382f41d776de916369101946ef31b94aa", func := "loop.example/g01251/laws.FnExactIsSystem", spec := "fnExactIsSystem", apart := false, narrowed := true }
def FnExactIsSystemUptoSaid : Prop := fnExactIsSystemUptoRow.holds Try.pinned (OpenSpec.upto fnExactIsSystemSpec)

/-- 'laws.FnExactSystemsOf', WHERE WHAT IT READS IS OF BULK AT MOST 1048576: true; the input reads as it did. -/
def fnExactSystemsOfUptoRow : OpenClaim := { program := "ytenignpfelipgaa", sum := "2a7cad47f71904dd718955ed8db9de2382f41d776de916369101946ef31b94aa", func := "loop.example/g01251/laws.FnExactSystemsOf", spec := "fnExactSystemsOf", unfollowed := true, recurses := true, apart := false, narrowed := true }
def FnExactSystemsOfUptoSaid : Prop := fnExactSystemsOfUptoRow.holds Try.pinned (OpenSpec.upto fnExactSystemsOfSpec)

/-- 'laws.FnExactRainbowOf', WHERE WHAT IT READS IS OF BULK AT MOST 1048576: true; the input reads as it did. -/
def fnExactRainbowOfUptoRow : OpenClaim := { program := "ytenignpfelipgaa", sum := "2a7cad47f71904dd718955ed8db9de2382f41d776de916369101946ef31b94aa", func := "loop.example/g01251/laws.FnExactRainbowOf", spec := "fnExactRainbowOf", apart := false, narrowed := true }
def FnExactRainbowOfUptoSaid : Prop := fnExactRainbowOfUptoRow.holds Try.pinned (OpenSpec.upto fnExactRainbowOfSpec)

/-- 'laws.FnExactTurnSystem', WHERE WHAT IT READS IS OF BULK AT MOST 1048576: true; the input reads as it did. -/
def fnExactTurnSystemUptoRow : OpenClaim := { program := "ytenignpfelipgaa", sum := "2a7cad47f71904dd718955ed8db9de2382f41d776de916369101946ef31b94aa", func := "loop.example/g01251/laws.FnExactTurnSystem", spec := "fnExactTurnSystem", apart := false, narrowed := true }
def FnExactTurnSystemUptoSaid : Prop := fnExactTurnSystemUptoRow.holds Try.pinned (OpenSpec.upto fnExactTurnSystemSpec)

/-- 'laws.FnExactIsIrreduciblePair', WHERE WHAT IT READS IS OF BULK AT MOST 1048576: true; the input reads as it did. -/
def fnExactIsIrreduciblePairUptoRow : OpenClaim := { program := "ytenignpfelipgaa", sum := "2a7cad47f71904dd718955ed8db9de2382f41d776de916369101946ef31b94aa", func := "loop.example/g01251/laws.FnExactIsIrreduciblePair", spec := "fnExactIsIrreduciblePair", unfollowed := true, recurses := true, apart := false, narrowed := true }
def FnExactIsIrreduciblePairUptoSaid : Prop := fnExactIsIrreduciblePairUptoRow.holds Try.pinned (OpenSpec.upto fnExactIsIrreduciblePairSpec)

/-- 'laws.FnExactComponentsOfPair', WHERE WHAT IT READS IS OF BULK AT MOST 1048576: true; the input reads as it did. -/
def fnExactComponentsOfPairUptoRow : OpenClaim := { program := "ytenignpfelipgaa", sum := "2a7cad47f71904dd718955ed8db9de2382f41d776de916369101946ef31b94aa", func := "loop.example/g01251/laws.FnExactComponentsOfPair", spec := "fnExactComponentsOfPair", apart := false, narrowed := true }
def FnExactComponentsOfPairUptoSaid : Prop := fnExactComponentsOfPairUptoRow.holds Try.pinned (OpenSpec.upto fnExactComponentsOfPairSpec)

/-- 'laws.FnExactOrderOfMeander', WHERE WHAT IT READS IS OF BULK AT MOST 1048576: true; the input reads as it did. -/
def fnExactOrderOfMeanderUptoRow : OpenClaim := { program := "ytenignpfelipgaa", sum := "2a7cad47f71904dd718955ed8db9de2382f41d776de916369101946ef31b94aa", func := "loop.example/g01251/laws.FnExactOrderOfMeander", spec := "fnExactOrderOfMeander", apart := false, narrowed := true }
def FnExactOrderOfMeanderUptoSaid : Prop := fnExactOrderOfMeanderUptoRow.holds Try.pinned (OpenSpec.upto fnExactOrderOfMeanderSpec)

end Rows
end Go.Proofs.Ytenignpfelipgaa
