/-
  No cell of these rows narrows 'for every input' (looked for: loops, veiled, ifaces, maps, wideKeys, modest, calm, conditions, laid).
  DERIVED. THE GIVEN ROWS OF THIS SEAT. 12 by the template 'for every input the law returns true; each argument reads behind the call as it read before'; 0 by the template 'total and deterministic' (their statements: YtbogcphbnooboaaTotals.lean).
  GIVEN WITH THE SEED: the statements are not yours to turn. If you find one false, say at which input.
  Laid BY PROGRAM, IN A SANDBOX (cutbox-rows.mjs): the forced cells as the released guide's own fill.sh prints them over the translation 1b6305cad9aa0ff2… (all of the seat's roots in one cut). By AI agents, Wed Nov 11 2026. No macro, syntax, notation, axiom, sorry.
-/
import Derived.Test.YtbogcphbnooboaaChecked
import GoSem.Claim
import GoSem.ClaimJoined
import GoSem.ClaimMapViews
import Derived.JoinedTies
import Derived.KernelRfl
namespace Go.Proofs.Ytbogcphbnooboaa
/- THE CELL 'sum', in the pinned program and in every row, IS THE sha256 OF THE DUMP (.gsa) THAT YtbogcphbnooboaaProg.lean LOADS. Nothing in Lean hashes anything: it is a label: what it is worth is what the hold of that sum in a sandbox is worth. -/
noncomputable def Try.pinned : Pinned := { name := "ytbogcphbnooboaa", sum := "1b6305cad9aa0ff2802ca4ccb8e8ab1657d1cbbd2ac050b25700e97e68f10623", checked := Try.checked }
namespace Rows
def none {H : Type} : Left H := { results := [], args := [] }

/-- 'laws.FnExactIsLinking': WHATEVER THE INPUT: true; the input reads as it did. -/
def fnExactIsLinkingSpec : ChangeSpec := { name := "fnExactIsLinking", fn := fun _ => fun
  | [d] => { results := [.lit (.bool true)], args := [d] }
  | _ => none }
def fnExactIsLinkingRow : OpenClaim := { program := "ytbogcphbnooboaa", sum := "1b6305cad9aa0ff2802ca4ccb8e8ab1657d1cbbd2ac050b25700e97e68f10623", func := "loop.example/g01017/laws.FnExactIsLinking", spec := "fnExactIsLinking", apart := false }
def FnExactIsLinkingSaid : Prop := fnExactIsLinkingRow.holds Try.pinned (OpenSpec.ofChange fnExactIsLinkingSpec)

/-- ITS FALSE NEIGHBOUR: 'it returns false'. Refute it at one input. -/
def fnExactIsLinkingWrong : ChangeSpec := { name := "fnExactIsLinking", fn := fun _ => fun
  | [d] => { results := [.lit (.bool false)], args := [d] }
  | _ => none }
def FnExactIsLinkingWrongFalsely : Prop := fnExactIsLinkingRow.holds Try.pinned (OpenSpec.ofChange fnExactIsLinkingWrong)

/-- 'laws.FnExactLinksOf': WHATEVER THE INPUT: true; the input reads as it did. -/
def fnExactLinksOfSpec : ChangeSpec := { name := "fnExactLinksOf", fn := fun _ => fun
  | [d1, d2] => { results := [.lit (.bool true)], args := [d1, d2] }
  | _ => none }
def fnExactLinksOfRow : OpenClaim := { program := "ytbogcphbnooboaa", sum := "1b6305cad9aa0ff2802ca4ccb8e8ab1657d1cbbd2ac050b25700e97e68f10623", func := "loop.example/g01017/laws.FnExactLinksOf", spec := "fnExactLinksOf", unfollowed := true, recurses := true, apart := false }
def FnExactLinksOfSaid : Prop := fnExactLinksOfRow.holds Try.pinned (OpenSpec.ofChange fnExactLinksOfSpec)

/-- ITS FALSE NEIGHBOUR: 'it returns false'. Refute it at one input. -/
def fnExactLinksOfWrong : ChangeSpec := { name := "fnExactLinksOf", fn := fun _ => fun
  | [d1, d2] => { results := [.lit (.bool false)], args := [d1, d2] }
  | _ => none }
def FnExactLinksOfWrongFalsely : Prop := fnExactLinksOfRow.holds Try.pinned (OpenSpec.ofChange fnExactLinksOfWrong)

/-- 'laws.FnExactClusterNumbers': WHATEVER THE INPUT: true; the input reads as it did. -/
def fnExactClusterNumbersSpec : ChangeSpec := { name := "fnExactClusterNumbers", fn := fun _ => fun
  | [d1, d2] => { results := [.lit (.bool true)], args := [d1, d2] }
  | _ => none }
def fnExactClusterNumbersRow : OpenClaim := { program := "ytbogcphbnooboaa", sum := "1b6305cad9aa0ff2802ca4ccb8e8ab1657d1cbbd2ac050b25700e97e68f10623", func := "loop.example/g01017/laws.FnExactClusterNumbers", spec := "fnExactClusterNumbers", unfollowed := true, recurses := true, apart := false }
def FnExactClusterNumbersSaid : Prop := fnExactClusterNumbersRow.holds Try.pinned (OpenSpec.ofChange fnExactClusterNumbersSpec)

/-- ITS FALSE NEIGHBOUR: 'it returns false'. Refute it at one input. -/
def fnExactClusterNumbersWrong : ChangeSpec := { name := "fnExactClusterNumbers", fn := fun _ => fun
  | [d1, d2] => { results := [.lit (.bool false)], args := [d1, d2] }
  | _ => none }
def FnExactClusterNumbersWrongFalsely : Prop := fnExactClusterNumbersRow.holds Try.pinned (OpenSpec.ofChange fnExactClusterNumbersWrong)

/-- 'laws.FnExactLargerThan': WHATEVER THE INPUT: true; the input reads as it did. -/
def fnExactLargerThanSpec : ChangeSpec := { name := "fnExactLargerThan", fn := fun _ => fun
  | [d1, d2] => { results := [.lit (.bool true)], args := [d1, d2] }
  | _ => none }
def fnExactLargerThanRow : OpenClaim := { program := "ytbogcphbnooboaa", sum := "1b6305cad9aa0ff2802ca4ccb8e8ab1657d1cbbd2ac050b25700e97e68f10623", func := "loop.example/g01017/laws.FnExactLargerThan", spec := "fnExactLargerThan", unfollowed := true, recurses := true, apart := false }
def FnExactLargerThanSaid : Prop := fnExactLargerThanRow.holds Try.pinned (OpenSpec.ofChange fnExactLargerThanSpec)

/-- ITS FALSE NEIGHBOUR: 'it returns false'. Refute it at one input. -/
def fnExactLargerThanWrong : ChangeSpec := { name := "fnExactLargerThan", fn := fun _ => fun
  | [d1, d2] => { results := [.lit (.bool false)], args := [d1, d2] }
  | _ => none }
def FnExactLargerThanWrongFalsely : Prop := fnExactLargerThanRow.holds Try.pinned (OpenSpec.ofChange fnExactLargerThanWrong)

/-- 'laws.FnExactCompleteFrom': WHATEVER THE INPUT: true; the input reads as it did. -/
def fnExactCompleteFromSpec : ChangeSpec := { name := "fnExactCompleteFrom", fn := fun _ => fun
  | [d1, d2] => { results := [.lit (.bool true)], args := [d1, d2] }
  | _ => none }
def fnExactCompleteFromRow : OpenClaim := { program := "ytbogcphbnooboaa", sum := "1b6305cad9aa0ff2802ca4ccb8e8ab1657d1cbbd2ac050b25700e97e68f10623", func := "loop.example/g01017/laws.FnExactCompleteFrom", spec := "fnExactCompleteFrom", unfollowed := true, recurses := true, apart := false }
def FnExactCompleteFromSaid : Prop := fnExactCompleteFromRow.holds Try.pinned (OpenSpec.ofChange fnExactCompleteFromSpec)

/-- ITS FALSE NEIGHBOUR: 'it returns false'. Refute it at one input. -/
def fnExactCompleteFromWrong : ChangeSpec := { name := "fnExactCompleteFrom", fn := fun _ => fun
  | [d1, d2] => { results := [.lit (.bool false)], args := [d1, d2] }
  | _ => none }
def FnExactCompleteFromWrongFalsely : Prop := fnExactCompleteFromRow.holds Try.pinned (OpenSpec.ofChange fnExactCompleteFromWrong)

/-- 'laws.FnExactQuietSpan': WHATEVER THE INPUT: true; the input reads as it did. -/
def fnExactQuietSpanSpec : ChangeSpec := { name := "fnExactQuietSpan", fn := fun _ => fun
  | [d1, d2] => { results := [.lit (.bool true)], args := [d1, d2] }
  | _ => none }
def fnExactQuietSpanRow : OpenClaim := { program := "ytbogcphbnooboaa", sum := "1b6305cad9aa0ff2802ca4ccb8e8ab1657d1cbbd2ac050b25700e97e68f10623", func := "loop.example/g01017/laws.FnExactQuietSpan", spec := "fnExactQuietSpan", unfollowed := true, recurses := true, apart := false }
def FnExactQuietSpanSaid : Prop := fnExactQuietSpanRow.holds Try.pinned (OpenSpec.ofChange fnExactQuietSpanSpec)

/-- ITS FALSE NEIGHBOUR: 'it returns false'. Refute it at one input. -/
def fnExactQuietSpanWrong : ChangeSpec := { name := "fnExactQuietSpan", fn := fun _ => fun
  | [d1, d2] => { results := [.lit (.bool false)], args := [d1, d2] }
  | _ => none }
def FnExactQuietSpanWrongFalsely : Prop := fnExactQuietSpanRow.holds Try.pinned (OpenSpec.ofChange fnExactQuietSpanWrong)

/-- 'laws.FnExactBusiestWindow': WHATEVER THE INPUT: true; the input reads as it did. -/
def fnExactBusiestWindowSpec : ChangeSpec := { name := "fnExactBusiestWindow", fn := fun _ => fun
  | [d1, d2] => { results := [.lit (.bool true)], args := [d1, d2] }
  | _ => none }
def fnExactBusiestWindowRow : OpenClaim := { program := "ytbogcphbnooboaa", sum := "1b6305cad9aa0ff2802ca4ccb8e8ab1657d1cbbd2ac050b25700e97e68f10623", func := "loop.example/g01017/laws.FnExactBusiestWindow", spec := "fnExactBusiestWindow", unfollowed := true, recurses := true, apart := false }
def FnExactBusiestWindowSaid : Prop := fnExactBusiestWindowRow.holds Try.pinned (OpenSpec.ofChange fnExactBusiestWindowSpec)

/-- ITS FALSE NEIGHBOUR: 'it returns false'. Refute it at one input. -/
def fnExactBusiestWindowWrong : ChangeSpec := { name := "fnExactBusiestWindow", fn := fun _ => fun
  | [d1, d2] => { results := [.lit (.bool false)], args := [d1, d2] }
  | _ => none }
def FnExactBusiestWindowWrongFalsely : Prop := fnExactBusiestWindowRow.holds Try.pinned (OpenSpec.ofChange fnExactBusiestWindowWrong)

/-- 'laws.FnExactRateOf': WHATEVER THE INPUT: true; the input reads as it did. -/
def fnExactRateOfSpec : ChangeSpec := { name := "fnExactRateOf", fn := fun _ => fun
  | [d1, d2, d3, d4] => { results := [.lit (.bool true)], args := [d1, d2, d3, d4] }
  | _ => none }
def fnExactRateOfRow : OpenClaim := { program := "ytbogcphbnooboaa", sum := "1b6305cad9aa0ff2802ca4ccb8e8ab1657d1cbbd2ac050b25700e97e68f10623", func := "loop.example/g01017/laws.FnExactRateOf", spec := "fnExactRateOf", unfollowed := true, recurses := true, apart := false }
def FnExactRateOfSaid : Prop := fnExactRateOfRow.holds Try.pinned (OpenSpec.ofChange fnExactRateOfSpec)

/-- ITS FALSE NEIGHBOUR: 'it returns false'. Refute it at one input. -/
def fnExactRateOfWrong : ChangeSpec := { name := "fnExactRateOf", fn := fun _ => fun
  | [d1, d2, d3, d4] => { results := [.lit (.bool false)], args := [d1, d2, d3, d4] }
  | _ => none }
def FnExactRateOfWrongFalsely : Prop := fnExactRateOfRow.holds Try.pinned (OpenSpec.ofChange fnExactRateOfWrong)

/-- 'laws.FnExactMeanSize': WHATEVER THE INPUT: true; the input reads as it did. -/
def fnExactMeanSizeSpec : ChangeSpec := { name := "fnExactMeanSize", fn := fun _ => fun
  | [d1, d2] => { results := [.lit (.bool true)], args := [d1, d2] }
  | _ => none }
def fnExactMeanSizeRow : OpenClaim := { program := "ytbogcphbnooboaa", sum := "1b6305cad9aa0ff2802ca4ccb8e8ab1657d1cbbd2ac050b25700e97e68f10623", func := "loop.example/g01017/laws.FnExactMeanSize", spec := "fnExactMeanSize", unfollowed := true, recurses := true, apart := false }
def FnExactMeanSizeSaid : Prop := fnExactMeanSizeRow.holds Try.pinned (OpenSpec.ofChange fnExactMeanSizeSpec)

/-- ITS FALSE NEIGHBOUR: 'it returns false'. Refute it at one input. -/
def fnExactMeanSizeWrong : ChangeSpec := { name := "fnExactMeanSize", fn := fun _ => fun
  | [d1, d2] => { results := [.lit (.bool false)], args := [d1, d2] }
  | _ => none }
def FnExactMeanSizeWrongFalsely : Prop := fnExactMeanSizeRow.holds Try.pinned (OpenSpec.ofChange fnExactMeanSizeWrong)

/-- 'laws.FnExactHistogramOf': WHATEVER THE INPUT: true; the input reads as it did. -/
def fnExactHistogramOfSpec : ChangeSpec := { name := "fnExactHistogramOf", fn := fun _ => fun
  | [d1, d2] => { results := [.lit (.bool true)], args := [d1, d2] }
  | _ => none }
def fnExactHistogramOfRow : OpenClaim := { program := "ytbogcphbnooboaa", sum := "1b6305cad9aa0ff2802ca4ccb8e8ab1657d1cbbd2ac050b25700e97e68f10623", func := "loop.example/g01017/laws.FnExactHistogramOf", spec := "fnExactHistogramOf", unfollowed := true, recurses := true, apart := false }
def FnExactHistogramOfSaid : Prop := fnExactHistogramOfRow.holds Try.pinned (OpenSpec.ofChange fnExactHistogramOfSpec)

/-- ITS FALSE NEIGHBOUR: 'it returns false'. Refute it at one input. -/
def fnExactHistogramOfWrong : ChangeSpec := { name := "fnExactHistogramOf", fn := fun _ => fun
  | [d1, d2] => { results := [.lit (.bool false)], args := [d1, d2] }
  | _ => none }
def FnExactHistogramOfWrongFalsely : Prop := fnExactHistogramOfRow.holds Try.pinned (OpenSpec.ofChange fnExactHistogramOfWrong)

/-- 'laws.FnExactCountsFrom': WHATEVER THE INPUT: true; the input reads as it did. -/
def fnExactCountsFromSpec : ChangeSpec := { name := "fnExactCountsFrom", fn := fun _ => fun
  | [d1, d2] => { results := [.lit (.bool true)], args := [d1, d2] }
  | _ => none }
def fnExactCountsFromRow : OpenClaim := { program := "ytbogcphbnooboaa", sum := "1b6305cad9aa0ff2802ca4ccb8e8ab1657d1cbbd2ac050b25700e97e68f10623", func := "loop.example/g01017/laws.FnExactCountsFrom", spec := "fnExactCountsFrom", unfollowed := true, recurses := true, apart := false }
def FnExactCountsFromSaid : Prop := fnExactCountsFromRow.holds Try.pinned (OpenSpec.ofChange fnExactCountsFromSpec)

/-- ITS FALSE NEIGHBOUR: 'it returns false'. Refute it at one input. -/
def fnExactCountsFromWrong : ChangeSpec := { name := "fnExactCountsFrom", fn := fun _ => fun
  | [d1, d2] => { results := [.lit (.bool false)], args := [d1, d2] }
  | _ => none }
def FnExactCountsFromWrongFalsely : Prop := fnExactCountsFromRow.holds Try.pinned (OpenSpec.ofChange fnExactCountsFromWrong)

/-- 'laws.FnExactWindowCounts': WHATEVER THE INPUT: true; the input reads as it did. -/
def fnExactWindowCountsSpec : ChangeSpec := { name := "fnExactWindowCounts", fn := fun _ => fun
  | [d1, d2] => { results := [.lit (.bool true)], args := [d1, d2] }
  | _ => none }
def fnExactWindowCountsRow : OpenClaim := { program := "ytbogcphbnooboaa", sum := "1b6305cad9aa0ff2802ca4ccb8e8ab1657d1cbbd2ac050b25700e97e68f10623", func := "loop.example/g01017/laws.FnExactWindowCounts", spec := "fnExactWindowCounts", unfollowed := true, recurses := true, apart := false }
def FnExactWindowCountsSaid : Prop := fnExactWindowCountsRow.holds Try.pinned (OpenSpec.ofChange fnExactWindowCountsSpec)

/-- ITS FALSE NEIGHBOUR: 'it returns false'. Refute it at one input. -/
def fnExactWindowCountsWrong : ChangeSpec := { name := "fnExactWindowCounts", fn := fun _ => fun
  | [d1, d2] => { results := [.lit (.bool false)], args := [d1, d2] }
  | _ => none }
def FnExactWindowCountsWrongFalsely : Prop := fnExactWindowCountsRow.holds Try.pinned (OpenSpec.ofChange fnExactWindowCountsWrong)

/- THE SECOND FORM. 'bulk': how many values and letters a reading holds, each counted each time it is reached (what is shared counts as often as it is met; a slice's spare places count too). A statement '..UptoSaid' is the law's where the arguments, and the package variables that the reading takes, are together of bulk at most 1048576: NARROWER than '..Said'. Prove '..Said' where nothing that the law and all that it calls make is longer than what came in: it says more and counts as full. Else prove '..UptoSaid'. A law counts once. -/
mutual
def uptoBulk {H : Type} : DataW H → Nat
  | .lit (.string bytes) => bytes.length + 1
  | .lit _ => 1
  | .nil => 1
  | .ptr d => uptoBulk d + 1
  | .slice elems spare => uptoBulkAll elems + uptoBulkAll spare + 1
  | .agg parts => uptoBulkAll parts + 1
  | .iface _ d => uptoBulk d + 1
  | .map entries => uptoBulkEntries entries + 1
  | .held _ => 1
def uptoBulkAll {H : Type} : List (DataW H) → Nat
  | [] => 0
  | d :: r => uptoBulk d + uptoBulkAll r
def uptoBulkEntries {H : Type} : List (Lit × DataW H) → Nat
  | [] => 0
  | x :: r => uptoBulkEntry x + uptoBulkEntries r
def uptoBulkEntry {H : Type} : Lit × DataW H → Nat
  | (.string bytes, d) => bytes.length + uptoBulk d + 1
  | (_, d) => uptoBulk d + 1
 end
def uptoSmall : (H : Type) → List (DataW H) → Bool := fun _ ds => decide (uptoBulkAll ds ≤ 1048576)
def OpenSpec.upto (s : _root_.Go.ChangeSpec) : _root_.Go.OpenSpec := { _root_.Go.OpenSpec.ofChange s with cond := some uptoSmall }

/-- 'laws.FnExactIsLinking', WHERE WHAT IT READS IS OF BULK AT MOST 1048576: true; the input reads as it did. -/
def fnExactIsLinkingUptoRow : OpenClaim := { program := "ytbogcphbnooboaa", sum := "1b6305cad9aa0ff2802ca4ccb8e8ab1657d1cbbd2ac050b25700e97e68f10623", func := "loop.example/g01017/laws.FnExactIsLinking", spec := "fnExactIsLinking", apart := false, narrowed := true }
def FnExactIsLinkingUptoSaid : Prop := fnExactIsLinkingUptoRow.holds Try.pinned (OpenSpec.upto fnExactIsLinkingSpec)

/-- 'laws.FnExactLinksOf', WHERE WHAT IT READS IS OF BULK AT MOST 1048576: true; the input reads as it did. -/
def fnExactLinksOfUptoRow : OpenClaim := { program := "ytbogcphbnooboaa", sum := "1b6305cad9aa0ff2802ca4ccb8e8ab1657d1cbbd2ac050b25700e97e68f10623", func := "loop.example/g01017/laws.FnExactLinksOf", spec := "fnExactLinksOf", unfollowed := true, recurses := true, apart := false, narrowed := true }
def FnExactLinksOfUptoSaid : Prop := fnExactLinksOfUptoRow.holds Try.pinned (OpenSpec.upto fnExactLinksOfSpec)

/-- 'laws.FnExactClusterNumbers', WHERE WHAT IT READS IS OF BULK AT MOST 1048576: true; the input reads as it did. -/
def fnExactClusterNumbersUptoRow : OpenClaim := { program := "ytbogcphbnooboaa", sum := "1b6305cad9aa0ff2802ca4ccb8e8ab1657d1cbbd2ac050b25700e97e68f10623", func := "loop.example/g01017/laws.FnExactClusterNumbers", spec := "fnExactClusterNumbers", unfollowed := true, recurses := true, apart := false, narrowed := true }
def FnExactClusterNumbersUptoSaid : Prop := fnExactClusterNumbersUptoRow.holds Try.pinned (OpenSpec.upto fnExactClusterNumbersSpec)

/-- 'laws.FnExactLargerThan', WHERE WHAT IT READS IS OF BULK AT MOST 1048576: true; the input reads as it did. -/
def fnExactLargerThanUptoRow : OpenClaim := { program := "ytbogcphbnooboaa", sum := "1b6305cad9aa0ff2802ca4ccb8e8ab1657d1cbbd2ac050b25700e97e68f10623", func := "loop.example/g01017/laws.FnExactLargerThan", spec := "fnExactLargerThan", unfollowed := true, recurses := true, apart := false, narrowed := true }
def FnExactLargerThanUptoSaid : Prop := fnExactLargerThanUptoRow.holds Try.pinned (OpenSpec.upto fnExactLargerThanSpec)

/-- 'laws.FnExactCompleteFrom', WHERE WHAT IT READS IS OF BULK AT MOST 1048576: true; the input reads as it did. -/
def fnExactCompleteFromUptoRow : OpenClaim := { program := "ytbogcphbnooboaa", sum := "1b6305cad9aa0ff2802ca4ccb8e8ab1657d1cbbd2ac050b25700e97e68f10623", func := "loop.example/g01017/laws.FnExactCompleteFrom", spec := "fnExactCompleteFrom", unfollowed := true, recurses := true, apart := false, narrowed := true }
def FnExactCompleteFromUptoSaid : Prop := fnExactCompleteFromUptoRow.holds Try.pinned (OpenSpec.upto fnExactCompleteFromSpec)

/-- 'laws.FnExactQuietSpan', WHERE WHAT IT READS IS OF BULK AT MOST 1048576: true; the input reads as it did. -/
def fnExactQuietSpanUptoRow : OpenClaim := { program := "ytbogcphbnooboaa", sum := "1b6305cad9aa0ff2802ca4ccb8e8ab1657d1cbbd2ac050b25700e97e68f10623", func := "loop.example/g01017/laws.FnExactQuietSpan", spec := "fnExactQuietSpan", unfollowed := true, recurses := true, apart := false, narrowed := true }
def FnExactQuietSpanUptoSaid : Prop := fnExactQuietSpanUptoRow.holds Try.pinned (OpenSpec.upto fnExactQuietSpanSpec)

/-- 'laws.FnExactBusiestWindow', WHERE WHAT IT READS IS OF BULK AT MOST 1048576: true; the input reads as it did. -/
def fnExactBusiestWindowUptoRow : OpenClaim := { program := "ytbogcphbnooboaa", sum := "1b6305cad9aa0ff2802ca4ccb8e8ab1657d1cbbd2ac050b25700e97e68f10623", func := "loop.example/g01017/laws.FnExactBusiestWindow", spec := "fnExactBusiestWindow", unfollowed := true, recurses := true, apart := false, narrowed := true }
def FnExactBusiestWindowUptoSaid : Prop := fnExactBusiestWindowUptoRow.holds Try.pinned (OpenSpec.upto fnExactBusiestWindowSpec)

/-- 'laws.FnExactRateOf', WHERE WHAT IT READS IS OF BULK AT MOST 1048576: true; the input reads as it did. -/
def fnExactRateOfUptoRow : OpenClaim := { program := "ytbogcphbnooboaa", sum := "1b6305cad9aa0ff2802ca4ccb8e8ab1657d1cbbd2ac050b25700e97e68f10623", func := "loop.example/g01017/laws.FnExactRateOf", spec := "fnExactRateOf", unfollowed := true, recurses := true, apart := false, narrowed := true }
def FnExactRateOfUptoSaid : Prop := fnExactRateOfUptoRow.holds Try.pinned (OpenSpec.upto fnExactRateOfSpec)

/-- 'laws.FnExactMeanSize', WHERE WHAT IT READS IS OF BULK AT MOST 1048576: true; the input reads as it did. -/
def fnExactMeanSizeUptoRow : OpenClaim := { program := "ytbogcphbnooboaa", sum := "1b6305cad9aa0ff2802ca4ccb8e8ab1657d1cbbd2ac050b25700e97e68f10623", func := "loop.example/g01017/laws.FnExactMeanSize", spec := "fnExactMeanSize", unfollowed := true, recurses := true, apart := false, narrowed := true }
def FnExactMeanSizeUptoSaid : Prop := fnExactMeanSizeUptoRow.holds Try.pinned (OpenSpec.upto fnExactMeanSizeSpec)

/-- 'laws.FnExactHistogramOf', WHERE WHAT IT READS IS OF BULK AT MOST 1048576: true; the input reads as it did. -/
def fnExactHistogramOfUptoRow : OpenClaim := { program := "ytbogcphbnooboaa", sum := "1b6305cad9aa0ff2802ca4ccb8e8ab1657d1cbbd2ac050b25700e97e68f10623", func := "loop.example/g01017/laws.FnExactHistogramOf", spec := "fnExactHistogramOf", unfollowed := true, recurses := true, apart := false, narrowed := true }
def FnExactHistogramOfUptoSaid : Prop := fnExactHistogramOfUptoRow.holds Try.pinned (OpenSpec.upto fnExactHistogramOfSpec)

/-- 'laws.FnExactCountsFrom', WHERE WHAT IT READS IS OF BULK AT MOST 1048576: true; the input reads as it did. -/
def fnExactCountsFromUptoRow : OpenClaim := { program := "ytbogcphbnooboaa", sum := "1b6305cad9aa0ff2802ca4ccb8e8ab1657d1cbbd2ac050b25700e97e68f10623", func := "loop.example/g01017/laws.FnExactCountsFrom", spec := "fnExactCountsFrom", unfollowed := true, recurses := true, apart := false, narrowed := true }
def FnExactCountsFromUptoSaid : Prop := fnExactCountsFromUptoRow.holds Try.pinned (OpenSpec.upto fnExactCountsFromSpec)

/-- 'laws.FnExactWindowCounts', WHERE WHAT IT READS IS OF BULK AT MOST 1048576: true; the input reads as it did. -/
def fnExactWindowCountsUptoRow : OpenClaim := { program := "ytbogcphbnooboaa", sum := "1b6305cad9aa0ff2802ca4ccb8e8ab1657d1cbbd2ac050b25700e97e68f10623", func := "loop.example/g01017/laws.FnExactWindowCounts", spec := "fnExactWindowCounts", unfollowed := true, recurses := true, apart := false, narrowed := true }
def FnExactWindowCountsUptoSaid : Prop := fnExactWindowCountsUptoRow.holds Try.pinned (OpenSpec.upto fnExactWindowCountsSpec)

end Rows
end Go.Proofs.Ytbogcphbnooboaa
