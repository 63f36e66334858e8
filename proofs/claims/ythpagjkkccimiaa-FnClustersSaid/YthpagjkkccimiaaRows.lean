/-
  No cell of these rows narrows 'for every input' (looked for: loops, veiled, ifaces, maps, wideKeys, modest, calm, conditions, laid).
  DERIVED. THE GIVEN ROWS OF THIS SEAT. 10 by the template 'for every input the law returns true; each argument reads behind the call as it read before'; 0 by the template 'total and deterministic' (their statements: YthpagjkkccimiaaTotals.lean).
  GIVEN WITH THE SEED: the statements are not yours to turn. If you find one false, say at which input.
  Laid BY PROGRAM, IN A SANDBOX (cutbox-rows.mjs): the forced cells as the released guide's own fill.sh prints them over the translation 3898aefb57c5dc2a… (all of the seat's roots in one cut). By AI agents, Wed Nov 11 2026. No macro, syntax, notation, axiom, sorry.
-/
import Derived.Test.YthpagjkkccimiaaChecked
import GoSem.Claim
import GoSem.ClaimJoined
import GoSem.ClaimMapViews
import Derived.JoinedTies
import Derived.KernelRfl
namespace Go.Proofs.Ythpagjkkccimiaa
/- THE CELL 'sum', in the pinned program and in every row, IS THE sha256 OF THE DUMP (.gsa) THAT YthpagjkkccimiaaProg.lean LOADS. Nothing in Lean hashes anything: it is a label: what it is worth is what the hold of that sum in a sandbox is worth. -/
noncomputable def Try.pinned : Pinned := { name := "ythpagjkkccimiaa", sum := "3898aefb57c5dc2a2b7994be64a66145129e3148105e9190aa7c162806ae7084", checked := Try.checked }
namespace Rows
def none {H : Type} : Left H := { results := [], args := [] }

/-- 'laws.FnExactLargestCluster': WHATEVER THE INPUT: true; the input reads as it did. -/
def fnExactLargestClusterSpec : ChangeSpec := { name := "fnExactLargestCluster", fn := fun _ => fun
  | [d1, d2] => { results := [.lit (.bool true)], args := [d1, d2] }
  | _ => none }
def fnExactLargestClusterRow : OpenClaim := { program := "ythpagjkkccimiaa", sum := "3898aefb57c5dc2a2b7994be64a66145129e3148105e9190aa7c162806ae7084", func := "loop.example/g01017/laws.FnExactLargestCluster", spec := "fnExactLargestCluster", unfollowed := true, recurses := true, apart := false }
def FnExactLargestClusterSaid : Prop := fnExactLargestClusterRow.holds Try.pinned (OpenSpec.ofChange fnExactLargestClusterSpec)

/-- ITS FALSE NEIGHBOUR: 'it returns false'. Refute it at one input. -/
def fnExactLargestClusterWrong : ChangeSpec := { name := "fnExactLargestCluster", fn := fun _ => fun
  | [d1, d2] => { results := [.lit (.bool false)], args := [d1, d2] }
  | _ => none }
def FnExactLargestClusterWrongFalsely : Prop := fnExactLargestClusterRow.holds Try.pinned (OpenSpec.ofChange fnExactLargestClusterWrong)

/-- 'laws.FnExactMainOf': WHATEVER THE INPUT: true; the input reads as it did. -/
def fnExactMainOfSpec : ChangeSpec := { name := "fnExactMainOf", fn := fun _ => fun
  | [d1, d2, d3] => { results := [.lit (.bool true)], args := [d1, d2, d3] }
  | _ => none }
def fnExactMainOfRow : OpenClaim := { program := "ythpagjkkccimiaa", sum := "3898aefb57c5dc2a2b7994be64a66145129e3148105e9190aa7c162806ae7084", func := "loop.example/g01017/laws.FnExactMainOf", spec := "fnExactMainOf", unfollowed := true, recurses := true, apart := false }
def FnExactMainOfSaid : Prop := fnExactMainOfRow.holds Try.pinned (OpenSpec.ofChange fnExactMainOfSpec)

/-- ITS FALSE NEIGHBOUR: 'it returns false'. Refute it at one input. -/
def fnExactMainOfWrong : ChangeSpec := { name := "fnExactMainOf", fn := fun _ => fun
  | [d1, d2, d3] => { results := [.lit (.bool false)], args := [d1, d2, d3] }
  | _ => none }
def FnExactMainOfWrongFalsely : Prop := fnExactMainOfRow.holds Try.pinned (OpenSpec.ofChange fnExactMainOfWrong)

/-- 'laws.FnExactClusterWith': WHATEVER THE INPUT: true; the input reads as it did. -/
def fnExactClusterWithSpec : ChangeSpec := { name := "fnExactClusterWith", fn := fun _ => fun
  | [d1, d2, d3] => { results := [.lit (.bool true)], args := [d1, d2, d3] }
  | _ => none }
def fnExactClusterWithRow : OpenClaim := { program := "ythpagjkkccimiaa", sum := "3898aefb57c5dc2a2b7994be64a66145129e3148105e9190aa7c162806ae7084", func := "loop.example/g01017/laws.FnExactClusterWith", spec := "fnExactClusterWith", unfollowed := true, recurses := true, apart := false }
def FnExactClusterWithSaid : Prop := fnExactClusterWithRow.holds Try.pinned (OpenSpec.ofChange fnExactClusterWithSpec)

/-- ITS FALSE NEIGHBOUR: 'it returns false'. Refute it at one input. -/
def fnExactClusterWithWrong : ChangeSpec := { name := "fnExactClusterWith", fn := fun _ => fun
  | [d1, d2, d3] => { results := [.lit (.bool false)], args := [d1, d2, d3] }
  | _ => none }
def FnExactClusterWithWrongFalsely : Prop := fnExactClusterWithRow.holds Try.pinned (OpenSpec.ofChange fnExactClusterWithWrong)

/-- 'laws.FnExactMainshocks': WHATEVER THE INPUT: true; the input reads as it did. -/
def fnExactMainshocksSpec : ChangeSpec := { name := "fnExactMainshocks", fn := fun _ => fun
  | [d1, d2] => { results := [.lit (.bool true)], args := [d1, d2] }
  | _ => none }
def fnExactMainshocksRow : OpenClaim := { program := "ythpagjkkccimiaa", sum := "3898aefb57c5dc2a2b7994be64a66145129e3148105e9190aa7c162806ae7084", func := "loop.example/g01017/laws.FnExactMainshocks", spec := "fnExactMainshocks", unfollowed := true, recurses := true, apart := false }
def FnExactMainshocksSaid : Prop := fnExactMainshocksRow.holds Try.pinned (OpenSpec.ofChange fnExactMainshocksSpec)

/-- ITS FALSE NEIGHBOUR: 'it returns false'. Refute it at one input. -/
def fnExactMainshocksWrong : ChangeSpec := { name := "fnExactMainshocks", fn := fun _ => fun
  | [d1, d2] => { results := [.lit (.bool false)], args := [d1, d2] }
  | _ => none }
def FnExactMainshocksWrongFalsely : Prop := fnExactMainshocksRow.holds Try.pinned (OpenSpec.ofChange fnExactMainshocksWrong)

/-- 'laws.FnExactAftershocksOf': WHATEVER THE INPUT: true; the input reads as it did. -/
def fnExactAftershocksOfSpec : ChangeSpec := { name := "fnExactAftershocksOf", fn := fun _ => fun
  | [d1, d2, d3] => { results := [.lit (.bool true)], args := [d1, d2, d3] }
  | _ => none }
def fnExactAftershocksOfRow : OpenClaim := { program := "ythpagjkkccimiaa", sum := "3898aefb57c5dc2a2b7994be64a66145129e3148105e9190aa7c162806ae7084", func := "loop.example/g01017/laws.FnExactAftershocksOf", spec := "fnExactAftershocksOf", unfollowed := true, recurses := true, apart := false }
def FnExactAftershocksOfSaid : Prop := fnExactAftershocksOfRow.holds Try.pinned (OpenSpec.ofChange fnExactAftershocksOfSpec)

/-- ITS FALSE NEIGHBOUR: 'it returns false'. Refute it at one input. -/
def fnExactAftershocksOfWrong : ChangeSpec := { name := "fnExactAftershocksOf", fn := fun _ => fun
  | [d1, d2, d3] => { results := [.lit (.bool false)], args := [d1, d2, d3] }
  | _ => none }
def FnExactAftershocksOfWrongFalsely : Prop := fnExactAftershocksOfRow.holds Try.pinned (OpenSpec.ofChange fnExactAftershocksOfWrong)

/-- 'laws.FnExactDeclustered': WHATEVER THE INPUT: true; the input reads as it did. -/
def fnExactDeclusteredSpec : ChangeSpec := { name := "fnExactDeclustered", fn := fun _ => fun
  | [d1, d2] => { results := [.lit (.bool true)], args := [d1, d2] }
  | _ => none }
def fnExactDeclusteredRow : OpenClaim := { program := "ythpagjkkccimiaa", sum := "3898aefb57c5dc2a2b7994be64a66145129e3148105e9190aa7c162806ae7084", func := "loop.example/g01017/laws.FnExactDeclustered", spec := "fnExactDeclustered", unfollowed := true, recurses := true, apart := false }
def FnExactDeclusteredSaid : Prop := fnExactDeclusteredRow.holds Try.pinned (OpenSpec.ofChange fnExactDeclusteredSpec)

/-- ITS FALSE NEIGHBOUR: 'it returns false'. Refute it at one input. -/
def fnExactDeclusteredWrong : ChangeSpec := { name := "fnExactDeclustered", fn := fun _ => fun
  | [d1, d2] => { results := [.lit (.bool false)], args := [d1, d2] }
  | _ => none }
def FnExactDeclusteredWrongFalsely : Prop := fnExactDeclusteredRow.holds Try.pinned (OpenSpec.ofChange fnExactDeclusteredWrong)

/-- 'laws.FnClusters': WHATEVER THE INPUT: true; the input reads as it did. -/
def fnClustersSpec : ChangeSpec := { name := "fnClusters", fn := fun _ => fun
  | [d] => { results := [.lit (.bool true)], args := [d] }
  | _ => none }
def fnClustersRow : OpenClaim := { program := "ythpagjkkccimiaa", sum := "3898aefb57c5dc2a2b7994be64a66145129e3148105e9190aa7c162806ae7084", func := "loop.example/g01017/laws.FnClusters", spec := "fnClusters", unfollowed := true, recurses := true, apart := false }
def FnClustersSaid : Prop := fnClustersRow.holds Try.pinned (OpenSpec.ofChange fnClustersSpec)

/-- ITS FALSE NEIGHBOUR: 'it returns false'. Refute it at one input. -/
def fnClustersWrong : ChangeSpec := { name := "fnClusters", fn := fun _ => fun
  | [d] => { results := [.lit (.bool false)], args := [d] }
  | _ => none }
def FnClustersWrongFalsely : Prop := fnClustersRow.holds Try.pinned (OpenSpec.ofChange fnClustersWrong)

/-- 'laws.FnAftershocks': WHATEVER THE INPUT: true; the input reads as it did. -/
def fnAftershocksSpec : ChangeSpec := { name := "fnAftershocks", fn := fun _ => fun
  | [d] => { results := [.lit (.bool true)], args := [d] }
  | _ => none }
def fnAftershocksRow : OpenClaim := { program := "ythpagjkkccimiaa", sum := "3898aefb57c5dc2a2b7994be64a66145129e3148105e9190aa7c162806ae7084", func := "loop.example/g01017/laws.FnAftershocks", spec := "fnAftershocks", unfollowed := true, recurses := true, apart := false }
def FnAftershocksSaid : Prop := fnAftershocksRow.holds Try.pinned (OpenSpec.ofChange fnAftershocksSpec)

/-- ITS FALSE NEIGHBOUR: 'it returns false'. Refute it at one input. -/
def fnAftershocksWrong : ChangeSpec := { name := "fnAftershocks", fn := fun _ => fun
  | [d] => { results := [.lit (.bool false)], args := [d] }
  | _ => none }
def FnAftershocksWrongFalsely : Prop := fnAftershocksRow.holds Try.pinned (OpenSpec.ofChange fnAftershocksWrong)

/-- 'laws.FnRates': WHATEVER THE INPUT: true; the input reads as it did. -/
def fnRatesSpec : ChangeSpec := { name := "fnRates", fn := fun _ => fun
  | [d] => { results := [.lit (.bool true)], args := [d] }
  | _ => none }
def fnRatesRow : OpenClaim := { program := "ythpagjkkccimiaa", sum := "3898aefb57c5dc2a2b7994be64a66145129e3148105e9190aa7c162806ae7084", func := "loop.example/g01017/laws.FnRates", spec := "fnRates", unfollowed := true, recurses := true, apart := false }
def FnRatesSaid : Prop := fnRatesRow.holds Try.pinned (OpenSpec.ofChange fnRatesSpec)

/-- ITS FALSE NEIGHBOUR: 'it returns false'. Refute it at one input. -/
def fnRatesWrong : ChangeSpec := { name := "fnRates", fn := fun _ => fun
  | [d] => { results := [.lit (.bool false)], args := [d] }
  | _ => none }
def FnRatesWrongFalsely : Prop := fnRatesRow.holds Try.pinned (OpenSpec.ofChange fnRatesWrong)

/-- 'laws.FnHistograms': WHATEVER THE INPUT: true; the input reads as it did. -/
def fnHistogramsSpec : ChangeSpec := { name := "fnHistograms", fn := fun _ => fun
  | [d] => { results := [.lit (.bool true)], args := [d] }
  | _ => none }
def fnHistogramsRow : OpenClaim := { program := "ythpagjkkccimiaa", sum := "3898aefb57c5dc2a2b7994be64a66145129e3148105e9190aa7c162806ae7084", func := "loop.example/g01017/laws.FnHistograms", spec := "fnHistograms", unfollowed := true, recurses := true, apart := false }
def FnHistogramsSaid : Prop := fnHistogramsRow.holds Try.pinned (OpenSpec.ofChange fnHistogramsSpec)

/-- ITS FALSE NEIGHBOUR: 'it returns false'. Refute it at one input. -/
def fnHistogramsWrong : ChangeSpec := { name := "fnHistograms", fn := fun _ => fun
  | [d] => { results := [.lit (.bool false)], args := [d] }
  | _ => none }
def FnHistogramsWrongFalsely : Prop := fnHistogramsRow.holds Try.pinned (OpenSpec.ofChange fnHistogramsWrong)

/- THE SECOND FORM. 'bulk': how many values and letters a reading holds, each counted each time it is reached (what is shared counts as often as it is met; a slice's spare places count too). A statement '..UptoSaid' is the law's where the arguments, and the package variables that the reading takes, are together of bulk at most 1048576: NARROWER than '..Said'. Prove '..Said' where nothing that the law and all that it calls make is longer than what came in: it says more and counts as full. Else prove '..UptoSaid'. A law counts once. -/
mutual
def uptoBulk {H : Type} : DataW H → Nat
  | .lit (.string bytes) => bytes.length + 1
  | .lit _ => 1
  | .nil => 1
  | .ptr d => uptoBulk d + 1
  | .slice elems spare => uptoBulkAll elems + uptoBulkAll spare + 1
  | .agg parts => uptoBulkAll parts + 1
  | .iface _ d => uptoBulk d + 1
  | .map entries => uptoBulkEntries entries + 1
  | .held _ => 1
def uptoBulkAll {H : Type} : List (DataW H) → Nat
  | [] => 0
  | d :: r => uptoBulk d + uptoBulkAll r
def uptoBulkEntries {H : Type} : List (Lit × DataW H) → Nat
  | [] => 0
  | x :: r => uptoBulkEntry x + uptoBulkEntries r
def uptoBulkEntry {H : Type} : Lit × DataW H → Nat
  | (.string bytes, d) => bytes.length + uptoBulk d + 1
  | (_, d) => uptoBulk d + 1
 end
def uptoSmall : (H : Type) → List (DataW H) → Bool := fun _ ds => decide (uptoBulkAll ds ≤ 1048576)
def OpenSpec.upto (s : _root_.Go.ChangeSpec) : _root_.Go.OpenSpec := { _root_.Go.OpenSpec.ofChange s with cond := some uptoSmall }

/-- 'laws.FnExactLargestCluster', WHERE WHAT IT READS IS OF BULK AT MOST 1048576: true; the input reads as it did. -/
def fnExactLargestClusterUptoRow : OpenClaim := { program := "ythpagjkkccimiaa", sum := "3898aefb57c5dc2a2b7994be64a66145129e3148105e9190aa7c162806ae7084", func := "loop.example/g01017/laws.FnExactLargestCluster", spec := "fnExactLargestCluster", unfollowed := true, recurses := true, apart := false, narrowed := true }
def FnExactLargestClusterUptoSaid : Prop := fnExactLargestClusterUptoRow.holds Try.pinned (OpenSpec.upto fnExactLargestClusterSpec)

/-- 'laws.FnExactMainOf', WHERE WHAT IT READS IS OF BULK AT MOST 1048576: true; the input reads as it did. -/
def fnExactMainOfUptoRow : OpenClaim := { program := "ythpagjkkccimiaa", sum := "3898aefb57c5dc2a2b7994be64a66145129e3148105e9190aa7c162806ae7084", func := "loop.example/g01017/laws.FnExactMainOf", spec := "fnExactMainOf", unfollowed := true, recurses := true, apart := false, narrowed := true }
def FnExactMainOfUptoSaid : Prop := fnExactMainOfUptoRow.holds Try.pinned (OpenSpec.upto fnExactMainOfSpec)

/-- 'laws.FnExactClusterWith', WHERE WHAT IT READS IS OF BULK AT MOST 1048576: true; the input reads as it did. -/
def fnExactClusterWithUptoRow : OpenClaim := { program := "ythpagjkkccimiaa", sum := "3898aefb57c5dc2a2b7994be64a66145129e3148105e9190aa7c162806ae7084", func := "loop.example/g01017/laws.FnExactClusterWith", spec := "fnExactClusterWith", unfollowed := true, recurses := true, apart := false, narrowed := true }
def FnExactClusterWithUptoSaid : Prop := fnExactClusterWithUptoRow.holds Try.pinned (OpenSpec.upto fnExactClusterWithSpec)

/-- 'laws.FnExactMainshocks', WHERE WHAT IT READS IS OF BULK AT MOST 1048576: true; the input reads as it did. -/
def fnExactMainshocksUptoRow : OpenClaim := { program := "ythpagjkkccimiaa", sum := "3898aefb57c5dc2a2b7994be64a66145129e3148105e9190aa7c162806ae7084", func := "loop.example/g01017/laws.FnExactMainshocks", spec := "fnExactMainshocks", unfollowed := true, recurses := true, apart := false, narrowed := true }
def FnExactMainshocksUptoSaid : Prop := fnExactMainshocksUptoRow.holds Try.pinned (OpenSpec.upto fnExactMainshocksSpec)

/-- 'laws.FnExactAftershocksOf', WHERE WHAT IT READS IS OF BULK AT MOST 1048576: true; the input reads as it did. -/
def fnExactAftershocksOfUptoRow : OpenClaim := { program := "ythpagjkkccimiaa", sum := "3898aefb57c5dc2a2b7994be64a66145129e3148105e9190aa7c162806ae7084", func := "loop.example/g01017/laws.FnExactAftershocksOf", spec := "fnExactAftershocksOf", unfollowed := true, recurses := true, apart := false, narrowed := true }
def FnExactAftershocksOfUptoSaid : Prop := fnExactAftershocksOfUptoRow.holds Try.pinned (OpenSpec.upto fnExactAftershocksOfSpec)

/-- 'laws.FnExactDeclustered', WHERE WHAT IT READS IS OF BULK AT MOST 1048576: true; the input reads as it did. -/
def fnExactDeclusteredUptoRow : OpenClaim := { program := "ythpagjkkccimiaa", sum := "3898aefb57c5dc2a2b7994be64a66145129e3148105e9190aa7c162806ae7084", func := "loop.example/g01017/laws.FnExactDeclustered", spec := "fnExactDeclustered", unfollowed := true, recurses := true, apart := false, narrowed := true }
def FnExactDeclusteredUptoSaid : Prop := fnExactDeclusteredUptoRow.holds Try.pinned (OpenSpec.upto fnExactDeclusteredSpec)

/-- 'laws.FnClusters', WHERE WHAT IT READS IS OF BULK AT MOST 1048576: true; the input reads as it did. -/
def fnClustersUptoRow : OpenClaim := { program := "ythpagjkkccimiaa", sum := "3898aefb57c5dc2a2b7994be64a66145129e3148105e9190aa7c162806ae7084", func := "loop.example/g01017/laws.FnClusters", spec := "fnClusters", unfollowed := true, recurses := true, apart := false, narrowed := true }
def FnClustersUptoSaid : Prop := fnClustersUptoRow.holds Try.pinned (OpenSpec.upto fnClustersSpec)

/-- 'laws.FnAftershocks', WHERE WHAT IT READS IS OF BULK AT MOST 1048576: true; the input reads as it did. -/
def fnAftershocksUptoRow : OpenClaim := { program := "ythpagjkkccimiaa", sum := "3898aefb57c5dc2a2b7994be64a66145129e3148105e9190aa7c162806ae7084", func := "loop.example/g01017/laws.FnAftershocks", spec := "fnAftershocks", unfollowed := true, recurses := true, apart := false, narrowed := true }
def FnAftershocksUptoSaid : Prop := fnAftershocksUptoRow.holds Try.pinned (OpenSpec.upto fnAftershocksSpec)

/-- 'laws.FnRates', WHERE WHAT IT READS IS OF BULK AT MOST 1048576: true; the input reads as it did. -/
def fnRatesUptoRow : OpenClaim := { program := "ythpagjkkccimiaa", sum := "3898aefb57c5dc2a2b7994be64a66145129e3148105e9190aa7c162806ae7084", func := "loop.example/g01017/laws.FnRates", spec := "fnRates", unfollowed := true, recurses := true, apart := false, narrowed := true }
def FnRatesUptoSaid : Prop := fnRatesUptoRow.holds Try.pinned (OpenSpec.upto fnRatesSpec)

/-- 'laws.FnHistograms', WHERE WHAT IT READS IS OF BULK AT MOST 1048576: true; the input reads as it did. -/
def fnHistogramsUptoRow : OpenClaim := { program := "ythpagjkkccimiaa", sum := "3898aefb57c5dc2a2b7994be64a66145129e3148105e9190aa7c162806ae7084", func := "loop.example/g01017/laws.FnHistograms", spec := "fnHistograms", unfollowed := true, recurses := true, apart := false, narrowed := true }
def FnHistogramsUptoSaid : Prop := fnHistogramsUptoRow.holds Try.pinned (OpenSpec.upto fnHistogramsSpec)

end Rows
end Go.Proofs.Ythpagjkkccimiaa
