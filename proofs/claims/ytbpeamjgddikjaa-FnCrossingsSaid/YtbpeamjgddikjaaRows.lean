/-
  No cell of these rows narrows 'for every input' (looked for: loops, veiled, ifaces, maps, wideKeys, modest, calm, conditions, laid).
  DERIVED. THE GIVEN ROWS OF THIS SEAT. 8 by the template 'for every input the law returns true; each argument reads behind the call as it read before'; 0 by the template 'total and deterministic' (their statements: YtbpeamjgddikjaaTotals.lean).
  GIVEN WITH THE SEED: the statements are not yours to turn. If you find one false, say at which input.
  Laid BY PROGRAM, IN A SANDBOX (cutbox-rows.mjs): the forced cells as the released guide's own fill.sh prints them over the translation 3d8276ad942f8b5a… (all of the seat's roots in one cut). By AI agents, Wed Nov 11 2026. No macro, syntax, notation, axiom, sorry.
-/
import Derived.Test.YtbpeamjgddikjaaChecked
import GoSem.Claim
import GoSem.ClaimJoined
import GoSem.ClaimMapViews
import Derived.JoinedTies
import Derived.KernelRfl
namespace Go.Proofs.Ytbpeamjgddikjaa
/- THE CELL 'sum', in the pinned program and in every row, IS THE sha256 OF THE DUMP (.gsa) THAT YtbpeamjgddikjaaProg.lean LOADS. Nothing in Lean hashes anything: it is a label: what it is worth is what the hold of that sum in a sandbox is worth. -/
noncomputable def Try.pinned : Pinned := { name := "ytbpeamjgddikjaa", sum := "3d8276ad942f8b5a6fc731c121ab12563bf46ef06003cb5d8dc2bb2b8e6b27f3", checked := Try.checked }
namespace Rows
def none {H : Type} : Left H := { results := [], args := [] }

/-- 'laws.FnExactSegmentsMeet': WHATEVER THE INPUT: true; the input reads as it did. -/
def fnExactSegmentsMeetSpec : ChangeSpec := { name := "fnExactSegmentsMeet", fn := fun _ => fun
  | [d1, d2, d3, d4] => { results := [.lit (.bool true)], args := [d1, d2, d3, d4] }
  | _ => none }
def fnExactSegmentsMeetRow : OpenClaim := { program := "ytbpeamjgddikjaa", sum := "3d8276ad942f8b5a6fc731c121ab12563bf46ef06003cb5d8dc2bb2b8e6b27f3", func := "loop.example/g01017/laws.FnExactSegmentsMeet", spec := "fnExactSegmentsMeet", unfollowed := true, recurses := true, apart := false }
def FnExactSegmentsMeetSaid : Prop := fnExactSegmentsMeetRow.holds Try.pinned (OpenSpec.ofChange fnExactSegmentsMeetSpec)

/-- ITS FALSE NEIGHBOUR: 'it returns false'. Refute it at one input. -/
def fnExactSegmentsMeetWrong : ChangeSpec := { name := "fnExactSegmentsMeet", fn := fun _ => fun
  | [d1, d2, d3, d4] => { results := [.lit (.bool false)], args := [d1, d2, d3, d4] }
  | _ => none }
def FnExactSegmentsMeetWrongFalsely : Prop := fnExactSegmentsMeetRow.holds Try.pinned (OpenSpec.ofChange fnExactSegmentsMeetWrong)

/-- 'laws.FnExactIsFault': WHATEVER THE INPUT: true; the input reads as it did. -/
def fnExactIsFaultSpec : ChangeSpec := { name := "fnExactIsFault", fn := fun _ => fun
  | [d] => { results := [.lit (.bool true)], args := [d] }
  | _ => none }
def fnExactIsFaultRow : OpenClaim := { program := "ytbpeamjgddikjaa", sum := "3d8276ad942f8b5a6fc731c121ab12563bf46ef06003cb5d8dc2bb2b8e6b27f3", func := "loop.example/g01017/laws.FnExactIsFault", spec := "fnExactIsFault", unfollowed := true, recurses := true, apart := false }
def FnExactIsFaultSaid : Prop := fnExactIsFaultRow.holds Try.pinned (OpenSpec.ofChange fnExactIsFaultSpec)

/-- ITS FALSE NEIGHBOUR: 'it returns false'. Refute it at one input. -/
def fnExactIsFaultWrong : ChangeSpec := { name := "fnExactIsFault", fn := fun _ => fun
  | [d] => { results := [.lit (.bool false)], args := [d] }
  | _ => none }
def FnExactIsFaultWrongFalsely : Prop := fnExactIsFaultRow.holds Try.pinned (OpenSpec.ofChange fnExactIsFaultWrong)

/-- 'laws.FnExactYearsFor': WHATEVER THE INPUT: true; the input reads as it did. -/
def fnExactYearsForSpec : ChangeSpec := { name := "fnExactYearsFor", fn := fun _ => fun
  | [d1, d2] => { results := [.lit (.bool true)], args := [d1, d2] }
  | _ => none }
def fnExactYearsForRow : OpenClaim := { program := "ytbpeamjgddikjaa", sum := "3d8276ad942f8b5a6fc731c121ab12563bf46ef06003cb5d8dc2bb2b8e6b27f3", func := "loop.example/g01017/laws.FnExactYearsFor", spec := "fnExactYearsFor", unfollowed := true, recurses := true, apart := false }
def FnExactYearsForSaid : Prop := fnExactYearsForRow.holds Try.pinned (OpenSpec.ofChange fnExactYearsForSpec)

/-- ITS FALSE NEIGHBOUR: 'it returns false'. Refute it at one input. -/
def fnExactYearsForWrong : ChangeSpec := { name := "fnExactYearsFor", fn := fun _ => fun
  | [d1, d2] => { results := [.lit (.bool false)], args := [d1, d2] }
  | _ => none }
def FnExactYearsForWrongFalsely : Prop := fnExactYearsForRow.holds Try.pinned (OpenSpec.ofChange fnExactYearsForWrong)

/-- 'laws.FnExactFaultLength': WHATEVER THE INPUT: true; the input reads as it did. -/
def fnExactFaultLengthSpec : ChangeSpec := { name := "fnExactFaultLength", fn := fun _ => fun
  | [d] => { results := [.lit (.bool true)], args := [d] }
  | _ => none }
def fnExactFaultLengthRow : OpenClaim := { program := "ytbpeamjgddikjaa", sum := "3d8276ad942f8b5a6fc731c121ab12563bf46ef06003cb5d8dc2bb2b8e6b27f3", func := "loop.example/g01017/laws.FnExactFaultLength", spec := "fnExactFaultLength", unfollowed := true, recurses := true, apart := false }
def FnExactFaultLengthSaid : Prop := fnExactFaultLengthRow.holds Try.pinned (OpenSpec.ofChange fnExactFaultLengthSpec)

/-- ITS FALSE NEIGHBOUR: 'it returns false'. Refute it at one input. -/
def fnExactFaultLengthWrong : ChangeSpec := { name := "fnExactFaultLength", fn := fun _ => fun
  | [d] => { results := [.lit (.bool false)], args := [d] }
  | _ => none }
def FnExactFaultLengthWrongFalsely : Prop := fnExactFaultLengthRow.holds Try.pinned (OpenSpec.ofChange fnExactFaultLengthWrong)

/-- 'laws.FnExactAreFaults': WHATEVER THE INPUT: true; the input reads as it did. -/
def fnExactAreFaultsSpec : ChangeSpec := { name := "fnExactAreFaults", fn := fun _ => fun
  | [d] => { results := [.lit (.bool true)], args := [d] }
  | _ => none }
def fnExactAreFaultsRow : OpenClaim := { program := "ytbpeamjgddikjaa", sum := "3d8276ad942f8b5a6fc731c121ab12563bf46ef06003cb5d8dc2bb2b8e6b27f3", func := "loop.example/g01017/laws.FnExactAreFaults", spec := "fnExactAreFaults", unfollowed := true, recurses := true, apart := false }
def FnExactAreFaultsSaid : Prop := fnExactAreFaultsRow.holds Try.pinned (OpenSpec.ofChange fnExactAreFaultsSpec)

/-- ITS FALSE NEIGHBOUR: 'it returns false'. Refute it at one input. -/
def fnExactAreFaultsWrong : ChangeSpec := { name := "fnExactAreFaults", fn := fun _ => fun
  | [d] => { results := [.lit (.bool false)], args := [d] }
  | _ => none }
def FnExactAreFaultsWrongFalsely : Prop := fnExactAreFaultsRow.holds Try.pinned (OpenSpec.ofChange fnExactAreFaultsWrong)

/-- 'laws.FnExactNearestBend': WHATEVER THE INPUT: true; the input reads as it did. -/
def fnExactNearestBendSpec : ChangeSpec := { name := "fnExactNearestBend", fn := fun _ => fun
  | [d1, d2, d3] => { results := [.lit (.bool true)], args := [d1, d2, d3] }
  | _ => none }
def fnExactNearestBendRow : OpenClaim := { program := "ytbpeamjgddikjaa", sum := "3d8276ad942f8b5a6fc731c121ab12563bf46ef06003cb5d8dc2bb2b8e6b27f3", func := "loop.example/g01017/laws.FnExactNearestBend", spec := "fnExactNearestBend", unfollowed := true, recurses := true, apart := false }
def FnExactNearestBendSaid : Prop := fnExactNearestBendRow.holds Try.pinned (OpenSpec.ofChange fnExactNearestBendSpec)

/-- ITS FALSE NEIGHBOUR: 'it returns false'. Refute it at one input. -/
def fnExactNearestBendWrong : ChangeSpec := { name := "fnExactNearestBend", fn := fun _ => fun
  | [d1, d2, d3] => { results := [.lit (.bool false)], args := [d1, d2, d3] }
  | _ => none }
def FnExactNearestBendWrongFalsely : Prop := fnExactNearestBendRow.holds Try.pinned (OpenSpec.ofChange fnExactNearestBendWrong)

/-- 'laws.FnCrossings': WHATEVER THE INPUT: true; the input reads as it did. -/
def fnCrossingsSpec : ChangeSpec := { name := "fnCrossings", fn := fun _ => fun
  | [d] => { results := [.lit (.bool true)], args := [d] }
  | _ => none }
def fnCrossingsRow : OpenClaim := { program := "ytbpeamjgddikjaa", sum := "3d8276ad942f8b5a6fc731c121ab12563bf46ef06003cb5d8dc2bb2b8e6b27f3", func := "loop.example/g01017/laws.FnCrossings", spec := "fnCrossings", unfollowed := true, recurses := true, apart := false }
def FnCrossingsSaid : Prop := fnCrossingsRow.holds Try.pinned (OpenSpec.ofChange fnCrossingsSpec)

/-- ITS FALSE NEIGHBOUR: 'it returns false'. Refute it at one input. -/
def fnCrossingsWrong : ChangeSpec := { name := "fnCrossings", fn := fun _ => fun
  | [d] => { results := [.lit (.bool false)], args := [d] }
  | _ => none }
def FnCrossingsWrongFalsely : Prop := fnCrossingsRow.holds Try.pinned (OpenSpec.ofChange fnCrossingsWrong)

/-- 'laws.FnExactMeetingPairs': WHATEVER THE INPUT: true; the input reads as it did. -/
def fnExactMeetingPairsSpec : ChangeSpec := { name := "fnExactMeetingPairs", fn := fun _ => fun
  | [d] => { results := [.lit (.bool true)], args := [d] }
  | _ => none }
def fnExactMeetingPairsRow : OpenClaim := { program := "ytbpeamjgddikjaa", sum := "3d8276ad942f8b5a6fc731c121ab12563bf46ef06003cb5d8dc2bb2b8e6b27f3", func := "loop.example/g01017/laws.FnExactMeetingPairs", spec := "fnExactMeetingPairs", unfollowed := true, recurses := true, apart := false }
def FnExactMeetingPairsSaid : Prop := fnExactMeetingPairsRow.holds Try.pinned (OpenSpec.ofChange fnExactMeetingPairsSpec)

/-- ITS FALSE NEIGHBOUR: 'it returns false'. Refute it at one input. -/
def fnExactMeetingPairsWrong : ChangeSpec := { name := "fnExactMeetingPairs", fn := fun _ => fun
  | [d] => { results := [.lit (.bool false)], args := [d] }
  | _ => none }
def FnExactMeetingPairsWrongFalsely : Prop := fnExactMeetingPairsRow.holds Try.pinned (OpenSpec.ofChange fnExactMeetingPairsWrong)

/- THE SECOND FORM. 'bulk': how many values and letters a reading holds, each counted each time it is reached (what is shared counts as often as it is met; a slice's spare places count too). A statement '..UptoSaid' is the law's where the arguments, and the package variables that the reading takes, are together of bulk at most 1048576: NARROWER than '..Said'. Prove '..Said' where nothing that the law and all that it calls make is longer than what came in: it says more and counts as full. Else prove '..UptoSaid'. A law counts once. -/
mutual
def uptoBulk {H : Type} : DataW H → Nat
  | .lit (.string bytes) => bytes.length + 1
  | .lit _ => 1
  | .nil => 1
  | .ptr d => uptoBulk d + 1
  | .slice elems spare => uptoBulkAll elems + uptoBulkAll spare + 1
  | .agg parts => uptoBulkAll parts + 1
  | .iface _ d => uptoBulk d + 1
  | .map entries => uptoBulkEntries entries + 1
  | .held _ => 1
def uptoBulkAll {H : Type} : List (DataW H) → Nat
  | [] => 0
  | d :: r => uptoBulk d + uptoBulkAll r
def uptoBulkEntries {H : Type} : List (Lit × DataW H) → Nat
  | [] => 0
  | x :: r => uptoBulkEntry x + uptoBulkEntries r
def uptoBulkEntry {H : Type} : Lit × DataW H → Nat
  | (.string bytes, d) => bytes.length + uptoBulk d + 1
  | (_, d) => uptoBulk d + 1
 end
def uptoSmall : (H : Type) → List (DataW H) → Bool := fun _ ds => decide (uptoBulkAll ds ≤ 1048576)
def OpenSpec.upto (s : _root_.Go.ChangeSpec) : _root_.Go.OpenSpec := { _root_.Go.OpenSpec.ofChange s with cond := some uptoSmall }

/-- 'laws.FnExactSegmentsMeet', WHERE WHAT IT READS IS OF BULK AT MOST 1048576: true; the input reads as it did. -/
def fnExactSegmentsMeetUptoRow : OpenClaim := { program := "ytbpeamjgddikjaa", sum := "3d8276ad942f8b5a6fc731c121ab12563bf46ef06003cb5d8dc2bb2b8e6b27f3", func := "loop.example/g01017/laws.FnExactSegmentsMeet", spec := "fnExactSegmentsMeet", unfollowed := true, recurses := true, apart := false, narrowed := true }
def FnExactSegmentsMeetUptoSaid : Prop := fnExactSegmentsMeetUptoRow.holds Try.pinned (OpenSpec.upto fnExactSegmentsMeetSpec)

/-- 'laws.FnExactIsFault', WHERE WHAT IT READS IS OF BULK AT MOST 1048576: true; the input reads as it did. -/
def fnExactIsFaultUptoRow : OpenClaim := { program := "ytbpeamjgddikjaa", sum := "3d8276ad942f8b5a6fc731c121ab12563bf46ef06003cb5d8dc2bb2b8e6b27f3", func := "loop.example/g01017/laws.FnExactIsFault", spec := "fnExactIsFault", unfollowed := true, recurses := true, apart := false, narrowed := true }
def FnExactIsFaultUptoSaid : Prop := fnExactIsFaultUptoRow.holds Try.pinned (OpenSpec.upto fnExactIsFaultSpec)

/-- 'laws.FnExactYearsFor', WHERE WHAT IT READS IS OF BULK AT MOST 1048576: true; the input reads as it did. -/
def fnExactYearsForUptoRow : OpenClaim := { program := "ytbpeamjgddikjaa", sum := "3d8276ad942f8b5a6fc731c121ab12563bf46ef06003cb5d8dc2bb2b8e6b27f3", func := "loop.example/g01017/laws.FnExactYearsFor", spec := "fnExactYearsFor", unfollowed := true, recurses := true, apart := false, narrowed := true }
def FnExactYearsForUptoSaid : Prop := fnExactYearsForUptoRow.holds Try.pinned (OpenSpec.upto fnExactYearsForSpec)

/-- 'laws.FnExactFaultLength', WHERE WHAT IT READS IS OF BULK AT MOST 1048576: true; the input reads as it did. -/
def fnExactFaultLengthUptoRow : OpenClaim := { program := "ytbpeamjgddikjaa", sum := "3d8276ad942f8b5a6fc731c121ab12563bf46ef06003cb5d8dc2bb2b8e6b27f3", func := "loop.example/g01017/laws.FnExactFaultLength", spec := "fnExactFaultLength", unfollowed := true, recurses := true, apart := false, narrowed := true }
def FnExactFaultLengthUptoSaid : Prop := fnExactFaultLengthUptoRow.holds Try.pinned (OpenSpec.upto fnExactFaultLengthSpec)

/-- 'laws.FnExactAreFaults', WHERE WHAT IT READS IS OF BULK AT MOST 1048576: true; the input reads as it did. -/
def fnExactAreFaultsUptoRow : OpenClaim := { program := "ytbpeamjgddikjaa", sum := "3d8276ad942f8b5a6fc731c121ab12563bf46ef06003cb5d8dc2bb2b8e6b27f3", func := "loop.example/g01017/laws.FnExactAreFaults", spec := "fnExactAreFaults", unfollowed := true, recurses := true, apart := false, narrowed := true }
def FnExactAreFaultsUptoSaid : Prop := fnExactAreFaultsUptoRow.holds Try.pinned (OpenSpec.upto fnExactAreFaultsSpec)

/-- 'laws.FnExactNearestBend', WHERE WHAT IT READS IS OF BULK AT MOST 1048576: true; the input reads as it did. -/
def fnExactNearestBendUptoRow : OpenClaim := { program := "ytbpeamjgddikjaa", sum := "3d8276ad942f8b5a6fc731c121ab12563bf46ef06003cb5d8dc2bb2b8e6b27f3", func := "loop.example/g01017/laws.FnExactNearestBend", spec := "fnExactNearestBend", unfollowed := true, recurses := true, apart := false, narrowed := true }
def FnExactNearestBendUptoSaid : Prop := fnExactNearestBendUptoRow.holds Try.pinned (OpenSpec.upto fnExactNearestBendSpec)

/-- 'laws.FnCrossings', WHERE WHAT IT READS IS OF BULK AT MOST 1048576: true; the input reads as it did. -/
def fnCrossingsUptoRow : OpenClaim := { program := "ytbpeamjgddikjaa", sum := "3d8276ad942f8b5a6fc731c121ab12563bf46ef06003cb5d8dc2bb2b8e6b27f3", func := "loop.example/g01017/laws.FnCrossings", spec := "fnCrossings", unfollowed := true, recurses := true, apart := false, narrowed := true }
def FnCrossingsUptoSaid : Prop := fnCrossingsUptoRow.holds Try.pinned (OpenSpec.upto fnCrossingsSpec)

/-- 'laws.FnExactMeetingPairs', WHERE WHAT IT READS IS OF BULK AT MOST 1048576: true; the input reads as it did. -/
def fnExactMeetingPairsUptoRow : OpenClaim := { program := "ytbpeamjgddikjaa", sum := "3d8276ad942f8b5a6fc731c121ab12563bf46ef06003cb5d8dc2bb2b8e6b27f3", func := "loop.example/g01017/laws.FnExactMeetingPairs", spec := "fnExactMeetingPairs", unfollowed := true, recurses := true, apart := false, narrowed := true }
def FnExactMeetingPairsUptoSaid : Prop := fnExactMeetingPairsUptoRow.holds Try.pinned (OpenSpec.upto fnExactMeetingPairsSpec)

end Rows
end Go.Proofs.Ytbpeamjgddikjaa
