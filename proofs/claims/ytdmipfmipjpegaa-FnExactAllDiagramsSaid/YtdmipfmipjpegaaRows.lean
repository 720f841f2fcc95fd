/-
  No cell of these rows narrows 'for every input' (looked for: loops, veiled, ifaces, maps, wideKeys, modest, calm, conditions, laid).
  DERIVED. THE GIVEN ROWS OF THIS SEAT. 6 by the template 'for every input the law returns true; each argument reads behind the call as it read before'; 0 by the template 'total and deterministic' (their statements: YtdmipfmipjpegaaTotals.lean).
  GIVEN WITH THE SEED: the statements are not yours to turn. If you find one false, say at which input.
  Laid BY PROGRAM, IN A SANDBOX (cutbox-rows.mjs): the forced cells as the released guide's own fill.sh prints them over the translation f017c33027586386… (all of the seat's roots in one cut). By AI agents, Wed Nov 11 2026. No macro, syntax, notation, axiom, sorry.
-/
import Derived.Test.YtdmipfmipjpegaaChecked
import GoSem.Claim
import GoSem.ClaimJoined
import GoSem.ClaimMapViews
import Derived.JoinedTies
import Derived.KernelRfl
namespace Go.Proofs.Ytdmipfmipjpegaa
/- THE CELL 'sum', in the pinned program and in every row, IS THE sha256 OF THE DUMP (.gsa) THAT YtdmipfmipjpegaaProg.lean LOADS. Nothing in Lean hashes anything: it is a label: what it is worth is what the hold of that sum in a sandbox is worth. -/
noncomputable def Try.pinned : Pinned := { name := "ytdmipfmipjpegaa", sum := "f017c33027586386e5134ab33fab54a85cda89b4a2eb63f588fc3b948b56b6f5", checked := Try.checked }
namespace Rows
def none {H : Type} : Left H := { results := [], args := [] }

/-- 'laws.FnExactUnitDiagram': WHATEVER THE INPUT: true; the input reads as it did. -/
def fnExactUnitDiagramSpec : ChangeSpec := { name := "fnExactUnitDiagram", fn := fun _ => fun
  | [d] => { results := [.lit (.bool true)], args := [d] }
  | _ => none }
def fnExactUnitDiagramRow : OpenClaim := { program := "ytdmipfmipjpegaa", sum := "f017c33027586386e5134ab33fab54a85cda89b4a2eb63f588fc3b948b56b6f5", func := "loop.example/g01251/laws.FnExactUnitDiagram", spec := "fnExactUnitDiagram", apart := false }
def FnExactUnitDiagramSaid : Prop := fnExactUnitDiagramRow.holds Try.pinned (OpenSpec.ofChange fnExactUnitDiagramSpec)

/-- ITS FALSE NEIGHBOUR: 'it returns false'. Refute it at one input. -/
def fnExactUnitDiagramWrong : ChangeSpec := { name := "fnExactUnitDiagram", fn := fun _ => fun
  | [d] => { results := [.lit (.bool false)], args := [d] }
  | _ => none }
def FnExactUnitDiagramWrongFalsely : Prop := fnExactUnitDiagramRow.holds Try.pinned (OpenSpec.ofChange fnExactUnitDiagramWrong)

/-- 'laws.FnExactGeneratorDiagram': WHATEVER THE INPUT: true; the input reads as it did. -/
def fnExactGeneratorDiagramSpec : ChangeSpec := { name := "fnExactGeneratorDiagram", fn := fun _ => fun
  | [d1, d2] => { results := [.lit (.bool true)], args := [d1, d2] }
  | _ => none }
def fnExactGeneratorDiagramRow : OpenClaim := { program := "ytdmipfmipjpegaa", sum := "f017c33027586386e5134ab33fab54a85cda89b4a2eb63f588fc3b948b56b6f5", func := "loop.example/g01251/laws.FnExactGeneratorDiagram", spec := "fnExactGeneratorDiagram", apart := false }
def FnExactGeneratorDiagramSaid : Prop := fnExactGeneratorDiagramRow.holds Try.pinned (OpenSpec.ofChange fnExactGeneratorDiagramSpec)

/-- ITS FALSE NEIGHBOUR: 'it returns false'. Refute it at one input. -/
def fnExactGeneratorDiagramWrong : ChangeSpec := { name := "fnExactGeneratorDiagram", fn := fun _ => fun
  | [d1, d2] => { results := [.lit (.bool false)], args := [d1, d2] }
  | _ => none }
def FnExactGeneratorDiagramWrongFalsely : Prop := fnExactGeneratorDiagramRow.holds Try.pinned (OpenSpec.ofChange fnExactGeneratorDiagramWrong)

/-- 'laws.FnExactBlobOf': WHATEVER THE INPUT: true; the input reads as it did. -/
def fnExactBlobOfSpec : ChangeSpec := { name := "fnExactBlobOf", fn := fun _ => fun
  | [d] => { results := [.lit (.bool true)], args := [d] }
  | _ => none }
def fnExactBlobOfRow : OpenClaim := { program := "ytdmipfmipjpegaa", sum := "f017c33027586386e5134ab33fab54a85cda89b4a2eb63f588fc3b948b56b6f5", func := "loop.example/g01251/laws.FnExactBlobOf", spec := "fnExactBlobOf", apart := false }
def FnExactBlobOfSaid : Prop := fnExactBlobOfRow.holds Try.pinned (OpenSpec.ofChange fnExactBlobOfSpec)

/-- ITS FALSE NEIGHBOUR: 'it returns false'. Refute it at one input. -/
def fnExactBlobOfWrong : ChangeSpec := { name := "fnExactBlobOf", fn := fun _ => fun
  | [d] => { results := [.lit (.bool false)], args := [d] }
  | _ => none }
def FnExactBlobOfWrongFalsely : Prop := fnExactBlobOfRow.holds Try.pinned (OpenSpec.ofChange fnExactBlobOfWrong)

/-- 'laws.FnExactParseDiagram': WHATEVER THE INPUT: true; the input reads as it did. -/
def fnExactParseDiagramSpec : ChangeSpec := { name := "fnExactParseDiagram", fn := fun _ => fun
  | [d] => { results := [.lit (.bool true)], args := [d] }
  | _ => none }
def fnExactParseDiagramRow : OpenClaim := { program := "ytdmipfmipjpegaa", sum := "f017c33027586386e5134ab33fab54a85cda89b4a2eb63f588fc3b948b56b6f5", func := "loop.example/g01251/laws.FnExactParseDiagram", spec := "fnExactParseDiagram", apart := false }
def FnExactParseDiagramSaid : Prop := fnExactParseDiagramRow.holds Try.pinned (OpenSpec.ofChange fnExactParseDiagramSpec)

/-- ITS FALSE NEIGHBOUR: 'it returns false'. Refute it at one input. -/
def fnExactParseDiagramWrong : ChangeSpec := { name := "fnExactParseDiagram", fn := fun _ => fun
  | [d] => { results := [.lit (.bool false)], args := [d] }
  | _ => none }
def FnExactParseDiagramWrongFalsely : Prop := fnExactParseDiagramRow.holds Try.pinned (OpenSpec.ofChange fnExactParseDiagramWrong)

/-- 'laws.FnExactDiagramOfNumber': WHATEVER THE INPUT: true; the input reads as it did. -/
def fnExactDiagramOfNumberSpec : ChangeSpec := { name := "fnExactDiagramOfNumber", fn := fun _ => fun
  | [d1, d2] => { results := [.lit (.bool true)], args := [d1, d2] }
  | _ => none }
def fnExactDiagramOfNumberRow : OpenClaim := { program := "ytdmipfmipjpegaa", sum := "f017c33027586386e5134ab33fab54a85cda89b4a2eb63f588fc3b948b56b6f5", func := "loop.example/g01251/laws.FnExactDiagramOfNumber", spec := "fnExactDiagramOfNumber", unfollowed := true, recurses := true, apart := false }
def FnExactDiagramOfNumberSaid : Prop := fnExactDiagramOfNumberRow.holds Try.pinned (OpenSpec.ofChange fnExactDiagramOfNumberSpec)

/-- ITS FALSE NEIGHBOUR: 'it returns false'. Refute it at one input. -/
def fnExactDiagramOfNumberWrong : ChangeSpec := { name := "fnExactDiagramOfNumber", fn := fun _ => fun
  | [d1, d2] => { results := [.lit (.bool false)], args := [d1, d2] }
  | _ => none }
def FnExactDiagramOfNumberWrongFalsely : Prop := fnExactDiagramOfNumberRow.holds Try.pinned (OpenSpec.ofChange fnExactDiagramOfNumberWrong)

/-- 'laws.FnExactAllDiagrams': WHATEVER THE INPUT: true; the input reads as it did. -/
def fnExactAllDiagramsSpec : ChangeSpec := { name := "fnExactAllDiagrams", fn := fun _ => fun
  | [d] => { results := [.lit (.bool true)], args := [d] }
  | _ => none }
def fnExactAllDiagramsRow : OpenClaim := { program := "ytdmipfmipjpegaa", sum := "f017c33027586386e5134ab33fab54a85cda89b4a2eb63f588fc3b948b56b6f5", func := "loop.example/g01251/laws.FnExactAllDiagrams", spec := "fnExactAllDiagrams", unfollowed := true, recurses := true, apart := false }
def FnExactAllDiagramsSaid : Prop := fnExactAllDiagramsRow.holds Try.pinned (OpenSpec.ofChange fnExactAllDiagramsSpec)

/-- ITS FALSE NEIGHBOUR: 'it returns false'. Refute it at one input. -/
def fnExactAllDiagramsWrong : ChangeSpec := { name := "fnExactAllDiagrams", fn := fun _ => fun
  | [d] => { results := [.lit (.bool false)], args := [d] }
  | _ => none }
def FnExactAllDiagramsWrongFalsely : Prop := fnExactAllDiagramsRow.holds Try.pinned (OpenSpec.ofChange fnExactAllDiagramsWrong)

/- THE SECOND FORM. 'bulk': how many values and letters a reading holds, each counted each time it is reached (what is shared counts as often as it is met; a slice's spare places count too). A statement '..UptoSaid' is the law's where the arguments, and the package variables that the reading takes, are together of bulk at most 1048576: NARROWER than '..Said'. Prove '..Said' where nothing that the law and all that it calls make is longer than what came in: it says more and counts as full. Else prove '..UptoSaid'. A law counts once. -/
mutual
def uptoBulk {H : Type} : DataW H → Nat
  | .lit (.string bytes) => bytes.length + 1
  | .lit _ => 1
  | .nil => 1
  | .ptr d => uptoBulk d + 1
  | .slice elems spare => uptoBulkAll elems + uptoBulkAll spare + 1
  | .agg parts => uptoBulkAll parts + 1
  | .iface _ d => uptoBulk d + 1
  | .map entries => uptoBulkEntries entries + 1
  | .held _ => 1
def uptoBulkAll {H : Type} : List (DataW H) → Nat
  | [] => 0
  | d :: r => uptoBulk d + uptoBulkAll r
def uptoBulkEntries {H : Type} : List (Lit × DataW H) → Nat
  | [] => 0
  | x :: r => uptoBulkEntry x + uptoBulkEntries r
def uptoBulkEntry {H : Type} : Lit × DataW H → Nat
  | (.string bytes, d) => bytes.length + uptoBulk d + 1
  | (_, d) => uptoBulk d + 1
 end
def uptoSmall : (H : Type) → List (DataW H) → Bool := fun _ ds => decide (uptoBulkAll ds ≤ 1048576)
def OpenSpec.upto (s : _root_.Go.ChangeSpec) : _root_.Go.OpenSpec := { _root_.Go.OpenSpec.ofChange s with cond := some uptoSmall }

/-- 'laws.FnExactUnitDiagram', WHERE WHAT IT READS IS OF BULK AT MOST 1048576: true; the input reads as it did. -/
def fnExactUnitDiagramUptoRow : OpenClaim := { program := "ytdmipfmipjpegaa", sum := "f017c33027586386e5134ab33fab54a85cda89b4a2eb63f588fc3b948b56b6f5", func := "loop.example/g01251/laws.FnExactUnitDiagram", spec := "fnExactUnitDiagram", apart := false, narrowed := true }
def FnExactUnitDiagramUptoSaid : Prop := fnExactUnitDiagramUptoRow.holds Try.pinned (OpenSpec.upto fnExactUnitDiagramSpec)

/-- 'laws.FnExactGeneratorDiagram', WHERE WHAT IT READS IS OF BULK AT MOST 1048576: true; the input reads as it did. -/
def fnExactGeneratorDiagramUptoRow : OpenClaim := { program := "ytdmipfmipjpegaa", sum := "f017c33027586386e5134ab33fab54a85cda89b4a2eb63f588fc3b948b56b6f5", func := "loop.example/g01251/laws.FnExactGeneratorDiagram", spec := "fnExactGeneratorDiagram", apart := false, narrowed := true }
def FnExactGeneratorDiagramUptoSaid : Prop := fnExactGeneratorDiagramUptoRow.holds Try.pinned (OpenSpec.upto fnExactGeneratorDiagramSpec)

/-- 'laws.FnExactBlobOf', WHERE WHAT IT READS IS OF BULK AT MOST 1048576: true; the input reads as it did. -/
def fnExactBlobOfUptoRow : OpenClaim := { program := "ytdmipfmipjpegaa", sum := "f017c33027586386e5134ab33fab54a85cda89b4a2eb63f588fc3b948b56b6f5", func := "loop.example/g01251/laws.FnExactBlobOf", spec := "fnExactBlobOf", apart := false, narrowed := true }
def FnExactBlobOfUptoSaid : Prop := fnExactBlobOfUptoRow.holds Try.pinned (OpenSpec.upto fnExactBlobOfSpec)

/-- 'laws.FnExactParseDiagram', WHERE WHAT IT READS IS OF BULK AT MOST 1048576: true; the input reads as it did. -/
def fnExactParseDiagramUptoRow : OpenClaim := { program := "ytdmipfmipjpegaa", sum := "f017c33027586386e5134ab33fab54a85cda89b4a2eb63f588fc3b948b56b6f5", func := "loop.example/g01251/laws.FnExactParseDiagram", spec := "fnExactParseDiagram", apart := false, narrowed := true }
def FnExactParseDiagramUptoSaid : Prop := fnExactParseDiagramUptoRow.holds Try.pinned (OpenSpec.upto fnExactParseDiagramSpec)

/-- 'laws.FnExactDiagramOfNumber', WHERE WHAT IT READS IS OF BULK AT MOST 1048576: true; the input reads as it did. -/
def fnExactDiagramOfNumberUptoRow : OpenClaim := { program := "ytdmipfmipjpegaa", sum := "f017c33027586386e5134ab33fab54a85cda89b4a2eb63f588fc3b948b56b6f5", func := "loop.example/g01251/laws.FnExactDiagramOfNumber", spec := "fnExactDiagramOfNumber", unfollowed := true, recurses := true, apart := false, narrowed := true }
def FnExactDiagramOfNumberUptoSaid : Prop := fnExactDiagramOfNumberUptoRow.holds Try.pinned (OpenSpec.upto fnExactDiagramOfNumberSpec)

/-- 'laws.FnExactAllDiagrams', WHERE WHAT IT READS IS OF BULK AT MOST 1048576: true; the input reads as it did. -/
def fnExactAllDiagramsUptoRow : OpenClaim := { program := "ytdmipfmipjpegaa", sum := "f017c33027586386e5134ab33fab54a85cda89b4a2eb63f588fc3b948b56b6f5", func := "loop.example/g01251/laws.FnExactAllDiagrams", spec := "fnExactAllDiagrams", unfollowed := true, recurses := true, apart := false, narrowed := true }
def FnExactAllDiagramsUptoSaid : Prop := fnExactAllDiagramsUptoRow.holds Try.pinned (OpenSpec.upto fnExactAllDiagramsSpec)

end Rows
end Go.Proofs.Ytdmipfmipjpegaa
