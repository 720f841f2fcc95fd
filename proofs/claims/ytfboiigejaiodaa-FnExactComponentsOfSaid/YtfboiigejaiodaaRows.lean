/-
  No cell of these rows narrows 'for every input' (looked for: loops, veiled, ifaces, maps, wideKeys, modest, calm, conditions, laid).
  DERIVED. THE GIVEN ROWS OF THIS SEAT. 8 by the template 'for every input the law returns true; each argument reads behind the call as it read before'; 0 by the template 'total and deterministic' (their statements: YtfboiigejaiodaaTotals.lean).
  GIVEN WITH THE SEED: the statements are not yours to turn. If you find one false, say at which input.
  Laid BY PROGRAM, IN A SANDBOX (cutbox-rows.mjs): the forced cells as the released guide's own fill.sh prints them over the translation 628ac4bf5ba00cf5… (all of the seat's roots in one cut). By AI agents, Wed Nov 11 2026. No macro, syntax, notation, axiom, sorry.
-/
import Derived.Test.YtfboiigejaiodaaChecked
import GoSem.Claim
import GoSem.ClaimJoined
import GoSem.ClaimMapViews
import Derived.JoinedTies
import Derived.KernelRfl
namespace Go.Proofs.Ytfboiigejaiodaa
/- THE CELL 'sum', in the pinned program and in every row, IS THE sha256 OF THE DUMP (.gsa) THAT YtfboiigejaiodaaProg.lean LOADS. Nothing in Lean hashes anything: it is a label: what it is worth is what the hold of that sum in a sandbox is worth. -/
noncomputable def Try.pinned : Pinned := { name := "ytfboiigejaiodaa", sum := "628ac4bf5ba00cf5c9fcabc34fd91597da9ef31a9e8c6cf53debf88812eebb75", checked := Try.checked }
namespace Rows
def none {H : Type} : Left H := { results := [], args := [] }

/-- 'laws.FnExactWritheOf': WHATEVER THE INPUT: true; the input reads as it did. -/
def fnExactWritheOfSpec : ChangeSpec := { name := "fnExactWritheOf", fn := fun _ => fun
  | [d1, d2] => { results := [.lit (.bool true)], args := [d1, d2] }
  | _ => none }
def fnExactWritheOfRow : OpenClaim := { program := "ytfboiigejaiodaa", sum := "628ac4bf5ba00cf5c9fcabc34fd91597da9ef31a9e8c6cf53debf88812eebb75", func := "loop.example/g01251/laws.FnExactWritheOf", spec := "fnExactWritheOf", unfollowed := true, recurses := true, apart := false }
def FnExactWritheOfSaid : Prop := fnExactWritheOfRow.holds Try.pinned (OpenSpec.ofChange fnExactWritheOfSpec)

/-- ITS FALSE NEIGHBOUR: 'it returns false'. Refute it at one input. -/
def fnExactWritheOfWrong : ChangeSpec := { name := "fnExactWritheOf", fn := fun _ => fun
  | [d1, d2] => { results := [.lit (.bool false)], args := [d1, d2] }
  | _ => none }
def FnExactWritheOfWrongFalsely : Prop := fnExactWritheOfRow.holds Try.pinned (OpenSpec.ofChange fnExactWritheOfWrong)

/-- 'laws.FnExactMirrorWord': WHATEVER THE INPUT: true; the input reads as it did. -/
def fnExactMirrorWordSpec : ChangeSpec := { name := "fnExactMirrorWord", fn := fun _ => fun
  | [d1, d2] => { results := [.lit (.bool true)], args := [d1, d2] }
  | _ => none }
def fnExactMirrorWordRow : OpenClaim := { program := "ytfboiigejaiodaa", sum := "628ac4bf5ba00cf5c9fcabc34fd91597da9ef31a9e8c6cf53debf88812eebb75", func := "loop.example/g01251/laws.FnExactMirrorWord", spec := "fnExactMirrorWord", unfollowed := true, recurses := true, apart := false }
def FnExactMirrorWordSaid : Prop := fnExactMirrorWordRow.holds Try.pinned (OpenSpec.ofChange fnExactMirrorWordSpec)

/-- ITS FALSE NEIGHBOUR: 'it returns false'. Refute it at one input. -/
def fnExactMirrorWordWrong : ChangeSpec := { name := "fnExactMirrorWord", fn := fun _ => fun
  | [d1, d2] => { results := [.lit (.bool false)], args := [d1, d2] }
  | _ => none }
def FnExactMirrorWordWrongFalsely : Prop := fnExactMirrorWordRow.holds Try.pinned (OpenSpec.ofChange fnExactMirrorWordWrong)

/-- 'laws.FnExactParseWord': WHATEVER THE INPUT: true; the input reads as it did. -/
def fnExactParseWordSpec : ChangeSpec := { name := "fnExactParseWord", fn := fun _ => fun
  | [d1, d2] => { results := [.lit (.bool true)], args := [d1, d2] }
  | _ => none }
def fnExactParseWordRow : OpenClaim := { program := "ytfboiigejaiodaa", sum := "628ac4bf5ba00cf5c9fcabc34fd91597da9ef31a9e8c6cf53debf88812eebb75", func := "loop.example/g01251/laws.FnExactParseWord", spec := "fnExactParseWord", unfollowed := true, recurses := true, apart := false }
def FnExactParseWordSaid : Prop := fnExactParseWordRow.holds Try.pinned (OpenSpec.ofChange fnExactParseWordSpec)

/-- ITS FALSE NEIGHBOUR: 'it returns false'. Refute it at one input. -/
def fnExactParseWordWrong : ChangeSpec := { name := "fnExactParseWord", fn := fun _ => fun
  | [d1, d2] => { results := [.lit (.bool false)], args := [d1, d2] }
  | _ => none }
def FnExactParseWordWrongFalsely : Prop := fnExactParseWordRow.holds Try.pinned (OpenSpec.ofChange fnExactParseWordWrong)

/-- 'laws.FnExactStabilizeWord': WHATEVER THE INPUT: true; the input reads as it did. -/
def fnExactStabilizeWordSpec : ChangeSpec := { name := "fnExactStabilizeWord", fn := fun _ => fun
  | [d1, d2, d3] => { results := [.lit (.bool true)], args := [d1, d2, d3] }
  | _ => none }
def fnExactStabilizeWordRow : OpenClaim := { program := "ytfboiigejaiodaa", sum := "628ac4bf5ba00cf5c9fcabc34fd91597da9ef31a9e8c6cf53debf88812eebb75", func := "loop.example/g01251/laws.FnExactStabilizeWord", spec := "fnExactStabilizeWord", unfollowed := true, recurses := true, apart := false }
def FnExactStabilizeWordSaid : Prop := fnExactStabilizeWordRow.holds Try.pinned (OpenSpec.ofChange fnExactStabilizeWordSpec)

/-- ITS FALSE NEIGHBOUR: 'it returns false'. Refute it at one input. -/
def fnExactStabilizeWordWrong : ChangeSpec := { name := "fnExactStabilizeWord", fn := fun _ => fun
  | [d1, d2, d3] => { results := [.lit (.bool false)], args := [d1, d2, d3] }
  | _ => none }
def FnExactStabilizeWordWrongFalsely : Prop := fnExactStabilizeWordRow.holds Try.pinned (OpenSpec.ofChange fnExactStabilizeWordWrong)

/-- 'laws.FnExactBraidPermutation': WHATEVER THE INPUT: true; the input reads as it did. -/
def fnExactBraidPermutationSpec : ChangeSpec := { name := "fnExactBraidPermutation", fn := fun _ => fun
  | [d1, d2] => { results := [.lit (.bool true)], args := [d1, d2] }
  | _ => none }
def fnExactBraidPermutationRow : OpenClaim := { program := "ytfboiigejaiodaa", sum := "628ac4bf5ba00cf5c9fcabc34fd91597da9ef31a9e8c6cf53debf88812eebb75", func := "loop.example/g01251/laws.FnExactBraidPermutation", spec := "fnExactBraidPermutation", unfollowed := true, recurses := true, apart := false }
def FnExactBraidPermutationSaid : Prop := fnExactBraidPermutationRow.holds Try.pinned (OpenSpec.ofChange fnExactBraidPermutationSpec)

/-- ITS FALSE NEIGHBOUR: 'it returns false'. Refute it at one input. -/
def fnExactBraidPermutationWrong : ChangeSpec := { name := "fnExactBraidPermutation", fn := fun _ => fun
  | [d1, d2] => { results := [.lit (.bool false)], args := [d1, d2] }
  | _ => none }
def FnExactBraidPermutationWrongFalsely : Prop := fnExactBraidPermutationRow.holds Try.pinned (OpenSpec.ofChange fnExactBraidPermutationWrong)

/-- 'laws.FnExactConjugateWord': WHATEVER THE INPUT: true; the input reads as it did. -/
def fnExactConjugateWordSpec : ChangeSpec := { name := "fnExactConjugateWord", fn := fun _ => fun
  | [d1, d2, d3] => { results := [.lit (.bool true)], args := [d1, d2, d3] }
  | _ => none }
def fnExactConjugateWordRow : OpenClaim := { program := "ytfboiigejaiodaa", sum := "628ac4bf5ba00cf5c9fcabc34fd91597da9ef31a9e8c6cf53debf88812eebb75", func := "loop.example/g01251/laws.FnExactConjugateWord", spec := "fnExactConjugateWord", unfollowed := true, recurses := true, apart := false }
def FnExactConjugateWordSaid : Prop := fnExactConjugateWordRow.holds Try.pinned (OpenSpec.ofChange fnExactConjugateWordSpec)

/-- ITS FALSE NEIGHBOUR: 'it returns false'. Refute it at one input. -/
def fnExactConjugateWordWrong : ChangeSpec := { name := "fnExactConjugateWord", fn := fun _ => fun
  | [d1, d2, d3] => { results := [.lit (.bool false)], args := [d1, d2, d3] }
  | _ => none }
def FnExactConjugateWordWrongFalsely : Prop := fnExactConjugateWordRow.holds Try.pinned (OpenSpec.ofChange fnExactConjugateWordWrong)

/-- 'laws.FnExactComponentsOf': WHATEVER THE INPUT: true; the input reads as it did. -/
def fnExactComponentsOfSpec : ChangeSpec := { name := "fnExactComponentsOf", fn := fun _ => fun
  | [d1, d2] => { results := [.lit (.bool true)], args := [d1, d2] }
  | _ => none }
def fnExactComponentsOfRow : OpenClaim := { program := "ytfboiigejaiodaa", sum := "628ac4bf5ba00cf5c9fcabc34fd91597da9ef31a9e8c6cf53debf88812eebb75", func := "loop.example/g01251/laws.FnExactComponentsOf", spec := "fnExactComponentsOf", unfollowed := true, recurses := true, apart := false }
def FnExactComponentsOfSaid : Prop := fnExactComponentsOfRow.holds Try.pinned (OpenSpec.ofChange fnExactComponentsOfSpec)

/-- ITS FALSE NEIGHBOUR: 'it returns false'. Refute it at one input. -/
def fnExactComponentsOfWrong : ChangeSpec := { name := "fnExactComponentsOf", fn := fun _ => fun
  | [d1, d2] => { results := [.lit (.bool false)], args := [d1, d2] }
  | _ => none }
def FnExactComponentsOfWrongFalsely : Prop := fnExactComponentsOfRow.holds Try.pinned (OpenSpec.ofChange fnExactComponentsOfWrong)

/-- 'laws.FnExactIsShort': WHATEVER THE INPUT: true; the input reads as it did. -/
def fnExactIsShortSpec : ChangeSpec := { name := "fnExactIsShort", fn := fun _ => fun
  | [d] => { results := [.lit (.bool true)], args := [d] }
  | _ => none }
def fnExactIsShortRow : OpenClaim := { program := "ytfboiigejaiodaa", sum := "628ac4bf5ba00cf5c9fcabc34fd91597da9ef31a9e8c6cf53debf88812eebb75", func := "loop.example/g01251/laws.FnExactIsShort", spec := "fnExactIsShort", unfollowed := true, recurses := true, apart := false }
def FnExactIsShortSaid : Prop := fnExactIsShortRow.holds Try.pinned (OpenSpec.ofChange fnExactIsShortSpec)

/-- ITS FALSE NEIGHBOUR: 'it returns false'. Refute it at one input. -/
def fnExactIsShortWrong : ChangeSpec := { name := "fnExactIsShort", fn := fun _ => fun
  | [d] => { results := [.lit (.bool false)], args := [d] }
  | _ => none }
def FnExactIsShortWrongFalsely : Prop := fnExactIsShortRow.holds Try.pinned (OpenSpec.ofChange fnExactIsShortWrong)

/- THE SECOND FORM. 'bulk': how many values and letters a reading holds, each counted each time it is reached (what is shared counts as often as it is met; a slice's spare places count too). A statement '..UptoSaid' is the law's where the arguments, and the package variables that the reading takes, are together of bulk at most 1048576: NARROWER than '..Said'. Prove '..Said' where nothing that the law and all that it calls make is longer than what came in: it says more and counts as full. Else prove '..UptoSaid'. A law counts once. -/
mutual
def uptoBulk {H : Type} : DataW H → Nat
  | .lit (.string bytes) => bytes.length + 1
  | .lit _ => 1
  | .nil => 1
  | .ptr d => uptoBulk d + 1
  | .slice elems spare => uptoBulkAll elems + uptoBulkAll spare + 1
  | .agg parts => uptoBulkAll parts + 1
  | .iface _ d => uptoBulk d + 1
  | .map entries => uptoBulkEntries entries + 1
  | .held _ => 1
def uptoBulkAll {H : Type} : List (DataW H) → Nat
  | [] => 0
  | d :: r => uptoBulk d + uptoBulkAll r
def uptoBulkEntries {H : Type} : List (Lit × DataW H) → Nat
  | [] => 0
  | x :: r => uptoBulkEntry x + uptoBulkEntries r
def uptoBulkEntry {H : Type} : Lit × DataW H → Nat
  | (.string bytes, d) => bytes.length + uptoBulk d + 1
  | (_, d) => uptoBulk d + 1
 end
def uptoSmall : (H : Type) → List (DataW H) → Bool := fun _ ds => decide (uptoBulkAll ds ≤ 1048576)
def OpenSpec.upto (s : _root_.Go.ChangeSpec) : _root_.Go.OpenSpec := { _root_.Go.OpenSpec.ofChange s with cond := some uptoSmall }

/-- 'laws.FnExactWritheOf', WHERE WHAT IT READS IS OF BULK AT MOST 1048576: true; the input reads as it did. -/
def fnExactWritheOfUptoRow : OpenClaim := { program := "ytfboiigejaiodaa", sum := "628ac4bf5ba00cf5c9fcabc34fd91597da9ef31a9e8c6cf53debf88812eebb75", func := "loop.example/g01251/laws.FnExactWritheOf", spec := "fnExactWritheOf", unfollowed := true, recurses := true, apart := false, narrowed := true }
def FnExactWritheOfUptoSaid : Prop := fnExactWritheOfUptoRow.holds Try.pinned (OpenSpec.upto fnExactWritheOfSpec)

/-- 'laws.FnExactMirrorWord', WHERE WHAT IT READS IS OF BULK AT MOST 1048576: true; the input reads as it did. -/
def fnExactMirrorWordUptoRow : OpenClaim := { program := "ytfboiigejaiodaa", sum := "628ac4bf5ba00cf5c9fcabc34fd91597da9ef31a9e8c6cf53debf88812eebb75", func := "loop.example/g01251/laws.FnExactMirrorWord", spec := "fnExactMirrorWord", unfollowed := true, recurses := true, apart := false, narrowed := true }
def FnExactMirrorWordUptoSaid : Prop := fnExactMirrorWordUptoRow.holds Try.pinned (OpenSpec.upto fnExactMirrorWordSpec)

/-- 'laws.FnExactParseWord', WHERE WHAT IT READS IS OF BULK AT MOST 1048576: true; the input reads as it did. -/
def fnExactParseWordUptoRow : OpenClaim := { program := "ytfboiigejaiodaa", sum := "628ac4bf5ba00cf5c9fcabc34fd91597da9ef31a9e8c6cf53debf88812eebb75", func := "loop.example/g01251/laws.FnExactParseWord", spec := "fnExactParseWord", unfollowed := true, recurses := true, apart := false, narrowed := true }
def FnExactParseWordUptoSaid : Prop := fnExactParseWordUptoRow.holds Try.pinned (OpenSpec.upto fnExactParseWordSpec)

/-- 'laws.FnExactStabilizeWord', WHERE WHAT IT READS IS OF BULK AT MOST 1048576: true; the input reads as it did. -/
def fnExactStabilizeWordUptoRow : OpenClaim := { program := "ytfboiigejaiodaa", sum := "628ac4bf5ba00cf5c9fcabc34fd91597da9ef31a9e8c6cf53debf88812eebb75", func := "loop.example/g01251/laws.FnExactStabilizeWord", spec := "fnExactStabilizeWord", unfollowed := true, recurses := true, apart := false, narrowed := true }
def FnExactStabilizeWordUptoSaid : Prop := fnExactStabilizeWordUptoRow.holds Try.pinned (OpenSpec.upto fnExactStabilizeWordSpec)

/-- 'laws.FnExactBraidPermutation', WHERE WHAT IT READS IS OF BULK AT MOST 1048576: true; the input reads as it did. -/
def fnExactBraidPermutationUptoRow : OpenClaim := { program := "ytfboiigejaiodaa", sum := "628ac4bf5ba00cf5c9fcabc34fd91597da9ef31a9e8c6cf53debf88812eebb75", func := "loop.example/g01251/laws.FnExactBraidPermutation", spec := "fnExactBraidPermutation", unfollowed := true, recurses := true, apart := false, narrowed := true }
def FnExactBraidPermutationUptoSaid : Prop := fnExactBraidPermutationUptoRow.holds Try.pinned (OpenSpec.upto fnExactBraidPermutationSpec)

/-- 'laws.FnExactConjugateWord', WHERE WHAT IT READS IS OF BULK AT MOST 1048576: true; the input reads as it did. -/
def fnExactConjugateWordUptoRow : OpenClaim := { program := "ytfboiigejaiodaa", sum := "628ac4bf5ba00cf5c9fcabc34fd91597da9ef31a9e8c6cf53debf88812eebb75", func := "loop.example/g01251/laws.FnExactConjugateWord", spec := "fnExactConjugateWord", unfollowed := true, recurses := true, apart := false, narrowed := true }
def FnExactConjugateWordUptoSaid : Prop := fnExactConjugateWordUptoRow.holds Try.pinned (OpenSpec.upto fnExactConjugateWordSpec)

/-- 'laws.FnExactComponentsOf', WHERE WHAT IT READS IS OF BULK AT MOST 1048576: true; the input reads as it did. -/
def fnExactComponentsOfUptoRow : OpenClaim := { program := "ytfboiigejaiodaa", sum := "628ac4bf5ba00cf5c9fcabc34fd91597da9ef31a9e8c6cf53debf88812eebb75", func := "loop.example/g01251/laws.FnExactComponentsOf", spec := "fnExactComponentsOf", unfollowed := true, recurses := true, apart := false, narrowed := true }
def FnExactComponentsOfUptoSaid : Prop := fnExactComponentsOfUptoRow.holds Try.pinned (OpenSpec.upto fnExactComponentsOfSpec)

/-- 'laws.FnExactIsShort', WHERE WHAT IT READS IS OF BULK AT MOST 1048576: true; the input reads as it did. -/
def fnExactIsShortUptoRow : OpenClaim := { program := "ytfboiigejaiodaa", sum := "628ac4bf5ba00cf5c9fcabc34fd91597da9ef31a9e8c6cf53debf88812eebb75", func := "loop.example/g01251/laws.FnExactIsShort", spec := "fnExactIsShort", unfollowed := true, recurses := true, apart := false, narrowed := true }
def FnExactIsShortUptoSaid : Prop := fnExactIsShortUptoRow.holds Try.pinned (OpenSpec.upto fnExactIsShortSpec)

end Rows
end Go.Proofs.Ytfboiigejaiodaa
