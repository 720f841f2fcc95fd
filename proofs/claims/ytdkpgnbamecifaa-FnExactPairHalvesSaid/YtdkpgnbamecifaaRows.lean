/-
  No cell of these rows narrows 'for every input' (looked for: loops, veiled, ifaces, maps, wideKeys, modest, calm, conditions, laid).
  DERIVED. THE GIVEN ROWS OF THIS SEAT. 5 by the template 'for every input the law returns true; each argument reads behind the call as it read before'; 0 by the template 'total and deterministic' (their statements: YtdkpgnbamecifaaTotals.lean).
  GIVEN WITH THE SEED: the statements are not yours to turn. If you find one false, say at which input.
  Laid BY PROGRAM, IN A SANDBOX (cutbox-rows.mjs): the forced cells as the released guide's own fill.sh prints them over the translation b8edfb24c1179ef4… (all of the seat's roots in one cut). By AI agents, Wed Nov 11 2026. No macro, syntax, notation, axiom, sorry.
-/
import Derived.Test.YtdkpgnbamecifaaChecked
import GoSem.Claim
import GoSem.ClaimJoined
import GoSem.ClaimMapViews
import Derived.JoinedTies
import Derived.KernelRfl
namespace Go.Proofs.Ytdkpgnbamecifaa
/- THE CELL 'sum', in the pinned program and in every row, IS THE sha256 OF THE DUMP (.gsa) THAT YtdkpgnbamecifaaProg.lean LOADS. Nothing in Lean hashes anything: it is a label: what it is worth is what the hold of that sum in a sandbox is worth. -/
noncomputable def Try.pinned : Pinned := { name := "ytdkpgnbamecifaa", sum := "b8edfb24c1179ef48d9874f453947de7b7050960aac6f04cdd73c674ff9d8235", checked := Try.checked }
namespace Rows
def none {H : Type} : Left H := { results := [], args := [] }

/-- 'laws.FnExactIsHalf': WHATEVER THE INPUT: true; the input reads as it did. -/
def fnExactIsHalfSpec : ChangeSpec := { name := "fnExactIsHalf", fn := fun _ => fun
  | [d] => { results := [.lit (.bool true)], args := [d] }
  | _ => none }
def fnExactIsHalfRow : OpenClaim := { program := "ytdkpgnbamecifaa", sum := "b8edfb24c1179ef48d9874f453947de7b7050960aac6f04cdd73c674ff9d8235", func := "loop.example/g01251/laws.FnExactIsHalf", spec := "fnExactIsHalf", apart := false }
def FnExactIsHalfSaid : Prop := fnExactIsHalfRow.holds Try.pinned (OpenSpec.ofChange fnExactIsHalfSpec)

/-- ITS FALSE NEIGHBOUR: 'it returns false'. Refute it at one input. -/
def fnExactIsHalfWrong : ChangeSpec := { name := "fnExactIsHalf", fn := fun _ => fun
  | [d] => { results := [.lit (.bool false)], args := [d] }
  | _ => none }
def FnExactIsHalfWrongFalsely : Prop := fnExactIsHalfRow.holds Try.pinned (OpenSpec.ofChange fnExactIsHalfWrong)

/-- 'laws.FnExactCountHalves': WHATEVER THE INPUT: true; the input reads as it did. -/
def fnExactCountHalvesSpec : ChangeSpec := { name := "fnExactCountHalves", fn := fun _ => fun
  | [d1, d2] => { results := [.lit (.bool true)], args := [d1, d2] }
  | _ => none }
def fnExactCountHalvesRow : OpenClaim := { program := "ytdkpgnbamecifaa", sum := "b8edfb24c1179ef48d9874f453947de7b7050960aac6f04cdd73c674ff9d8235", func := "loop.example/g01251/laws.FnExactCountHalves", spec := "fnExactCountHalves", unfollowed := true, recurses := true, apart := false }
def FnExactCountHalvesSaid : Prop := fnExactCountHalvesRow.holds Try.pinned (OpenSpec.ofChange fnExactCountHalvesSpec)

/-- ITS FALSE NEIGHBOUR: 'it returns false'. Refute it at one input. -/
def fnExactCountHalvesWrong : ChangeSpec := { name := "fnExactCountHalves", fn := fun _ => fun
  | [d1, d2] => { results := [.lit (.bool false)], args := [d1, d2] }
  | _ => none }
def FnExactCountHalvesWrongFalsely : Prop := fnExactCountHalvesRow.holds Try.pinned (OpenSpec.ofChange fnExactCountHalvesWrong)

/-- 'laws.FnExactHalvesOf': WHATEVER THE INPUT: true; the input reads as it did. -/
def fnExactHalvesOfSpec : ChangeSpec := { name := "fnExactHalvesOf", fn := fun _ => fun
  | [d1, d2] => { results := [.lit (.bool true)], args := [d1, d2] }
  | _ => none }
def fnExactHalvesOfRow : OpenClaim := { program := "ytdkpgnbamecifaa", sum := "b8edfb24c1179ef48d9874f453947de7b7050960aac6f04cdd73c674ff9d8235", func := "loop.example/g01251/laws.FnExactHalvesOf", spec := "fnExactHalvesOf", unfollowed := true, recurses := true, apart := false }
def FnExactHalvesOfSaid : Prop := fnExactHalvesOfRow.holds Try.pinned (OpenSpec.ofChange fnExactHalvesOfSpec)

/-- ITS FALSE NEIGHBOUR: 'it returns false'. Refute it at one input. -/
def fnExactHalvesOfWrong : ChangeSpec := { name := "fnExactHalvesOf", fn := fun _ => fun
  | [d1, d2] => { results := [.lit (.bool false)], args := [d1, d2] }
  | _ => none }
def FnExactHalvesOfWrongFalsely : Prop := fnExactHalvesOfRow.holds Try.pinned (OpenSpec.ofChange fnExactHalvesOfWrong)

/-- 'laws.FnExactDiagramOfHalves': WHATEVER THE INPUT: true; the input reads as it did. -/
def fnExactDiagramOfHalvesSpec : ChangeSpec := { name := "fnExactDiagramOfHalves", fn := fun _ => fun
  | [d1, d2] => { results := [.lit (.bool true)], args := [d1, d2] }
  | _ => none }
def fnExactDiagramOfHalvesRow : OpenClaim := { program := "ytdkpgnbamecifaa", sum := "b8edfb24c1179ef48d9874f453947de7b7050960aac6f04cdd73c674ff9d8235", func := "loop.example/g01251/laws.FnExactDiagramOfHalves", spec := "fnExactDiagramOfHalves", apart := false }
def FnExactDiagramOfHalvesSaid : Prop := fnExactDiagramOfHalvesRow.holds Try.pinned (OpenSpec.ofChange fnExactDiagramOfHalvesSpec)

/-- ITS FALSE NEIGHBOUR: 'it returns false'. Refute it at one input. -/
def fnExactDiagramOfHalvesWrong : ChangeSpec := { name := "fnExactDiagramOfHalves", fn := fun _ => fun
  | [d1, d2] => { results := [.lit (.bool false)], args := [d1, d2] }
  | _ => none }
def FnExactDiagramOfHalvesWrongFalsely : Prop := fnExactDiagramOfHalvesRow.holds Try.pinned (OpenSpec.ofChange fnExactDiagramOfHalvesWrong)

/-- 'laws.FnExactPairHalves': WHATEVER THE INPUT: true; the input reads as it did. -/
def fnExactPairHalvesSpec : ChangeSpec := { name := "fnExactPairHalves", fn := fun _ => fun
  | [d1, d2] => { results := [.lit (.bool true)], args := [d1, d2] }
  | _ => none }
def fnExactPairHalvesRow : OpenClaim := { program := "ytdkpgnbamecifaa", sum := "b8edfb24c1179ef48d9874f453947de7b7050960aac6f04cdd73c674ff9d8235", func := "loop.example/g01251/laws.FnExactPairHalves", spec := "fnExactPairHalves", apart := false }
def FnExactPairHalvesSaid : Prop := fnExactPairHalvesRow.holds Try.pinned (OpenSpec.ofChange fnExactPairHalvesSpec)

/-- ITS FALSE NEIGHBOUR: 'it returns false'. Refute it at one input. -/
def fnExactPairHalvesWrong : ChangeSpec := { name := "fnExactPairHalves", fn := fun _ => fun
  | [d1, d2] => { results := [.lit (.bool false)], args := [d1, d2] }
  | _ => none }
def FnExactPairHalvesWrongFalsely : Prop := fnExactPairHalvesRow.holds Try.pinned (OpenSpec.ofChange fnExactPairHalvesWrong)

/- THE SECOND FORM. 'bulk': how many values and letters a reading holds, each counted each time it is reached (what is shared counts as often as it is met; a slice's spare places count too). A statement '..UptoSaid' is the law's where the arguments, and the package variables that the reading takes, are together of bulk at most 1048576: NARROWER than '..Said'. Prove '..Said' where nothing that the law and all that it calls make is longer than what came in: it says more and counts as full. Else prove '..UptoSaid'. A law counts once. -/
mutual
def uptoBulk {H : Type} : DataW H → Nat
  | .lit (.string bytes) => bytes.length + 1
  | .lit _ => 1
  | .nil => 1
  | .ptr d => uptoBulk d + 1
  | .slice elems spare => uptoBulkAll elems + uptoBulkAll spare + 1
  | .agg parts => uptoBulkAll parts + 1
  | .iface _ d => uptoBulk d + 1
  | .map entries => uptoBulkEntries entries + 1
  | .held _ => 1
def uptoBulkAll {H : Type} : List (DataW H) → Nat
  | [] => 0
  | d :: r => uptoBulk d + uptoBulkAll r
def uptoBulkEntries {H : Type} : List (Lit × DataW H) → Nat
  | [] => 0
  | x :: r => uptoBulkEntry x + uptoBulkEntries r
def uptoBulkEntry {H : Type} : Lit × DataW H → Nat
  | (.string bytes, d) => bytes.length + uptoBulk d + 1
  | (_, d) => uptoBulk d + 1
 end
def uptoSmall : (H : Type) → List (DataW H) → Bool := fun _ ds => decide (uptoBulkAll ds ≤ 1048576)
def OpenSpec.upto (s : _root_.Go.ChangeSpec) : _root_.Go.OpenSpec := { _root_.Go.OpenSpec.ofChange s with cond := some uptoSmall }

/-- 'laws.FnExactIsHalf', WHERE WHAT IT READS IS OF BULK AT MOST 1048576: true; the input reads as it did. -/
def fnExactIsHalfUptoRow : OpenClaim := { program := "ytdkpgnbamecifaa", sum := "b8edfb24c1179ef48d9874f453947de7b7050960aac6f04cdd73c674ff9d8235", func := "loop.example/g01251/laws.FnExactIsHalf", spec := "fnExactIsHalf", apart := false, narrowed := true }
def FnExactIsHalfUptoSaid : Prop := fnExactIsHalfUptoRow.holds Try.pinned (OpenSpec.upto fnExactIsHalfSpec)

/-- 'laws.FnExactCountHalves', WHERE WHAT IT READS IS OF BULK AT MOST 1048576: true; the input reads as it did. -/
def fnExactCountHalvesUptoRow : OpenClaim := { program := "ytdkpgnbamecifaa", sum := "b8edfb24c1179ef48d9874f453947de7b7050960aac6f04cdd73c674ff9d8235", func := "loop.example/g01251/laws.FnExactCountHalves", spec := "fnExactCountHalves", unfollowed := true, recurses := true, apart := false, narrowed := true }
def FnExactCountHalvesUptoSaid : Prop := fnExactCountHalvesUptoRow.holds Try.pinned (OpenSpec.upto fnExactCountHalvesSpec)

/-- 'laws.FnExactHalvesOf', WHERE WHAT IT READS IS OF BULK AT MOST 1048576: true; the input reads as it did. -/
def fnExactHalvesOfUptoRow : OpenClaim := { program := "ytdkpgnbamecifaa", sum := "b8edfb24c1179ef48d9874f453947de7b7050960aac6f04cdd73c674ff9d8235", func := "loop.example/g01251/laws.FnExactHalvesOf", spec := "fnExactHalvesOf", unfollowed := true, recurses := true, apart := false, narrowed := true }
def FnExactHalvesOfUptoSaid : Prop := fnExactHalvesOfUptoRow.holds Try.pinned (OpenSpec.upto fnExactHalvesOfSpec)

/-- 'laws.FnExactDiagramOfHalves', WHERE WHAT IT READS IS OF BULK AT MOST 1048576: true; the input reads as it did. -/
def fnExactDiagramOfHalvesUptoRow : OpenClaim := { program := "ytdkpgnbamecifaa", sum := "b8edfb24c1179ef48d9874f453947de7b7050960aac6f04cdd73c674ff9d8235", func := "loop.example/g01251/laws.FnExactDiagramOfHalves", spec := "fnExactDiagramOfHalves", apart := false, narrowed := true }
def FnExactDiagramOfHalvesUptoSaid : Prop := fnExactDiagramOfHalvesUptoRow.holds Try.pinned (OpenSpec.upto fnExactDiagramOfHalvesSpec)

/-- 'laws.FnExactPairHalves', WHERE WHAT IT READS IS OF BULK AT MOST 1048576: true; the input reads as it did. -/
def fnExactPairHalvesUptoRow : OpenClaim := { program := "ytdkpgnbamecifaa", sum := "b8edfb24c1179ef48d9874f453947de7b7050960aac6f04cdd73c674ff9d8235", func := "loop.example/g01251/laws.FnExactPairHalves", spec := "fnExactPairHalves", apart := false, narrowed := true }
def FnExactPairHalvesUptoSaid : Prop := fnExactPairHalvesUptoRow.holds Try.pinned (OpenSpec.upto fnExactPairHalvesSpec)

end Rows
end Go.Proofs.Ytdkpgnbamecifaa
