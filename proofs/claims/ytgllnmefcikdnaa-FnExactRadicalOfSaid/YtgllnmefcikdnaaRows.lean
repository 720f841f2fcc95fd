/-
  No cell of these rows narrows 'for every input' (looked for: loops, veiled, ifaces, maps, wideKeys, modest, calm, conditions, laid).
  DERIVED. THE GIVEN ROWS OF THIS SEAT. 4 by the template 'for every input the law returns true; each argument reads behind the call as it read before'; 0 by the template 'total and deterministic' (their statements: YtgllnmefcikdnaaTotals.lean).
  GIVEN WITH THE SEED: the statements are not yours to turn. If you find one false, say at which input.
  Laid BY PROGRAM, IN A SANDBOX (cutbox-rows.mjs): the forced cells as the released guide's own fill.sh prints them over the translation 2d553104d20d9afa… (all of the seat's roots in one cut). By AI agents, Wed Nov 11 2026. No macro, syntax, notation, axiom, sorry.
-/
import Derived.Test.YtgllnmefcikdnaaChecked
import GoSem.Claim
import GoSem.ClaimJoined
import GoSem.ClaimMapViews
import Derived.JoinedTies
import Derived.KernelRfl
namespace Go.Proofs.Ytgllnmefcikdnaa
/- THE CELL 'sum', in the pinned program and in every row, IS THE sha256 OF THE DUMP (.gsa) THAT YtgllnmefcikdnaaProg.lean LOADS. Nothing in Lean hashes anything: it is a label: what it is worth is what the hold of that sum in a sandbox is worth. -/
noncomputable def Try.pinned : Pinned := { name := "ytgllnmefcikdnaa", sum := "2d553104d20d9afa3a1188994746ff927a3673c2a980bc542c215d68b9168953", checked := Try.checked }
namespace Rows
def none {H : Type} : Left H := { results := [], args := [] }

/-- 'laws.FnExactGramTable': WHATEVER THE INPUT: true; the input reads as it did. -/
def fnExactGramTableSpec : ChangeSpec := { name := "fnExactGramTable", fn := fun _ => fun
  | [d1, d2, d3, d4] => { results := [.lit (.bool true)], args := [d1, d2, d3, d4] }
  | _ => none }
def fnExactGramTableRow : OpenClaim := { program := "ytgllnmefcikdnaa", sum := "2d553104d20d9afa3a1188994746ff927a3673c2a980bc542c215d68b9168953", func := "loop.example/g01251/laws.FnExactGramTable", spec := "fnExactGramTable", unfollowed := true, recurses := true, apart := false }
def FnExactGramTableSaid : Prop := fnExactGramTableRow.holds Try.pinned (OpenSpec.ofChange fnExactGramTableSpec)

/-- ITS FALSE NEIGHBOUR: 'it returns false'. Refute it at one input. -/
def fnExactGramTableWrong : ChangeSpec := { name := "fnExactGramTable", fn := fun _ => fun
  | [d1, d2, d3, d4] => { results := [.lit (.bool false)], args := [d1, d2, d3, d4] }
  | _ => none }
def FnExactGramTableWrongFalsely : Prop := fnExactGramTableRow.holds Try.pinned (OpenSpec.ofChange fnExactGramTableWrong)

/-- 'laws.FnExactGramDeterminant': WHATEVER THE INPUT: true; the input reads as it did. -/
def fnExactGramDeterminantSpec : ChangeSpec := { name := "fnExactGramDeterminant", fn := fun _ => fun
  | [d1, d2, d3, d4] => { results := [.lit (.bool true)], args := [d1, d2, d3, d4] }
  | _ => none }
def fnExactGramDeterminantRow : OpenClaim := { program := "ytgllnmefcikdnaa", sum := "2d553104d20d9afa3a1188994746ff927a3673c2a980bc542c215d68b9168953", func := "loop.example/g01251/laws.FnExactGramDeterminant", spec := "fnExactGramDeterminant", unfollowed := true, recurses := true, apart := false }
def FnExactGramDeterminantSaid : Prop := fnExactGramDeterminantRow.holds Try.pinned (OpenSpec.ofChange fnExactGramDeterminantSpec)

/-- ITS FALSE NEIGHBOUR: 'it returns false'. Refute it at one input. -/
def fnExactGramDeterminantWrong : ChangeSpec := { name := "fnExactGramDeterminant", fn := fun _ => fun
  | [d1, d2, d3, d4] => { results := [.lit (.bool false)], args := [d1, d2, d3, d4] }
  | _ => none }
def FnExactGramDeterminantWrongFalsely : Prop := fnExactGramDeterminantRow.holds Try.pinned (OpenSpec.ofChange fnExactGramDeterminantWrong)

/-- 'laws.FnExactGramRank': WHATEVER THE INPUT: true; the input reads as it did. -/
def fnExactGramRankSpec : ChangeSpec := { name := "fnExactGramRank", fn := fun _ => fun
  | [d1, d2, d3, d4] => { results := [.lit (.bool true)], args := [d1, d2, d3, d4] }
  | _ => none }
def fnExactGramRankRow : OpenClaim := { program := "ytgllnmefcikdnaa", sum := "2d553104d20d9afa3a1188994746ff927a3673c2a980bc542c215d68b9168953", func := "loop.example/g01251/laws.FnExactGramRank", spec := "fnExactGramRank", unfollowed := true, recurses := true, apart := false }
def FnExactGramRankSaid : Prop := fnExactGramRankRow.holds Try.pinned (OpenSpec.ofChange fnExactGramRankSpec)

/-- ITS FALSE NEIGHBOUR: 'it returns false'. Refute it at one input. -/
def fnExactGramRankWrong : ChangeSpec := { name := "fnExactGramRank", fn := fun _ => fun
  | [d1, d2, d3, d4] => { results := [.lit (.bool false)], args := [d1, d2, d3, d4] }
  | _ => none }
def FnExactGramRankWrongFalsely : Prop := fnExactGramRankRow.holds Try.pinned (OpenSpec.ofChange fnExactGramRankWrong)

/-- 'laws.FnExactRadicalOf': WHATEVER THE INPUT: true; the input reads as it did. -/
def fnExactRadicalOfSpec : ChangeSpec := { name := "fnExactRadicalOf", fn := fun _ => fun
  | [d1, d2, d3, d4] => { results := [.lit (.bool true)], args := [d1, d2, d3, d4] }
  | _ => none }
def fnExactRadicalOfRow : OpenClaim := { program := "ytgllnmefcikdnaa", sum := "2d553104d20d9afa3a1188994746ff927a3673c2a980bc542c215d68b9168953", func := "loop.example/g01251/laws.FnExactRadicalOf", spec := "fnExactRadicalOf", unfollowed := true, recurses := true, apart := false }
def FnExactRadicalOfSaid : Prop := fnExactRadicalOfRow.holds Try.pinned (OpenSpec.ofChange fnExactRadicalOfSpec)

/-- ITS FALSE NEIGHBOUR: 'it returns false'. Refute it at one input. -/
def fnExactRadicalOfWrong : ChangeSpec := { name := "fnExactRadicalOf", fn := fun _ => fun
  | [d1, d2, d3, d4] => { results := [.lit (.bool false)], args := [d1, d2, d3, d4] }
  | _ => none }
def FnExactRadicalOfWrongFalsely : Prop := fnExactRadicalOfRow.holds Try.pinned (OpenSpec.ofChange fnExactRadicalOfWrong)

/- THE SECOND FORM. 'bulk': how many values and letters a reading holds, each counted each time it is reached (what is shared counts as often as it is met; a slice's spare places count too). A statement '..UptoSaid' is the law's where the arguments, and the package variables that the reading takes, are together of bulk at most 1048576: NARROWER than '..Said'. Prove '..Said' where nothing that the law and all that it calls make is longer than what came in: it says more and counts as full. Else prove '..UptoSaid'. A law counts once. -/
mutual
def uptoBulk {H : Type} : DataW H → Nat
  | .lit (.string bytes) => bytes.length + 1
  | .lit _ => 1
  | .nil => 1
  | .ptr d => uptoBulk d + 1
  | .slice elems spare => uptoBulkAll elems + uptoBulkAll spare + 1
  | .agg parts => uptoBulkAll parts + 1
  | .iface _ d => uptoBulk d + 1
  | .map entries => uptoBulkEntries entries + 1
  | .held _ => 1
def uptoBulkAll {H : Type} : List (DataW H) → Nat
  | [] => 0
  | d :: r => uptoBulk d + uptoBulkAll r
def uptoBulkEntries {H : Type} : List (Lit × DataW H) → Nat
  | [] => 0
  | x :: r => uptoBulkEntry x + uptoBulkEntries r
def uptoBulkEntry {H : Type} : Lit × DataW H → Nat
  | (.string bytes, d) => bytes.length + uptoBulk d + 1
  | (_, d) => uptoBulk d + 1
 end
def uptoSmall : (H : Type) → List (DataW H) → Bool := fun _ ds => decide (uptoBulkAll ds ≤ 1048576)
def OpenSpec.upto (s : _root_.Go.ChangeSpec) : _root_.Go.OpenSpec := { _root_.Go.OpenSpec.ofChange s with cond := some uptoSmall }

/-- 'laws.FnExactGramTable', WHERE WHAT IT READS IS OF BULK AT MOST 1048576: true; the input reads as it did. -/
def fnExactGramTableUptoRow : OpenClaim := { program := "ytgllnmefcikdnaa", sum := "2d553104d20d9afa3a1188994746ff927a3673c2a980bc542c215d68b9168953", func := "loop.example/g01251/laws.FnExactGramTable", spec := "fnExactGramTable", unfollowed := true, recurses := true, apart := false, narrowed := true }
def FnExactGramTableUptoSaid : Prop := fnExactGramTableUptoRow.holds Try.pinned (OpenSpec.upto fnExactGramTableSpec)

/-- 'laws.FnExactGramDeterminant', WHERE WHAT IT READS IS OF BULK AT MOST 1048576: true; the input reads as it did. -/
def fnExactGramDeterminantUptoRow : OpenClaim := { program := "ytgllnmefcikdnaa", sum := "2d553104d20d9afa3a1188994746ff927a3673c2a980bc542c215d68b9168953", func := "loop.example/g01251/laws.FnExactGramDeterminant", spec := "fnExactGramDeterminant", unfollowed := true, recurses := true, apart := false, narrowed := true }
def FnExactGramDeterminantUptoSaid : Prop := fnExactGramDeterminantUptoRow.holds Try.pinned (OpenSpec.upto fnExactGramDeterminantSpec)

/-- 'laws.FnExactGramRank', WHERE WHAT IT READS IS OF BULK AT MOST 1048576: true; the input reads as it did. -/
def fnExactGramRankUptoRow : OpenClaim := { program := "ytgllnmefcikdnaa", sum := "2d553104d20d9afa3a1188994746ff927a3673c2a980bc542c215d68b9168953", func := "loop.example/g01251/laws.FnExactGramRank", spec := "fnExactGramRank", unfollowed := true, recurses := true, apart := false, narrowed := true }
def FnExactGramRankUptoSaid : Prop := fnExactGramRankUptoRow.holds Try.pinned (OpenSpec.upto fnExactGramRankSpec)

/-- 'laws.FnExactRadicalOf', WHERE WHAT IT READS IS OF BULK AT MOST 1048576: true; the input reads as it did. -/
def fnExactRadicalOfUptoRow : OpenClaim := { program := "ytgllnmefcikdnaa", sum := "2d553104d20d9afa3a1188994746ff927a3673c2a980bc542c215d68b9168953", func := "loop.example/g01251/laws.FnExactRadicalOf", spec := "fnExactRadicalOf", unfollowed := true, recurses := true, apart := false, narrowed := true }
def FnExactRadicalOfUptoSaid : Prop := fnExactRadicalOfUptoRow.holds Try.pinned (OpenSpec.upto fnExactRadicalOfSpec)

end Rows
end Go.Proofs.Ytgllnmefcikdnaa
