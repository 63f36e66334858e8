/-
  No cell of these rows narrows 'for every input' (looked for: loops, veiled, ifaces, maps, wideKeys, modest, calm, conditions, laid).
  DERIVED. THE GIVEN ROWS OF THIS SEAT. 5 by the template 'for every input the law returns true; each argument reads behind the call as it read before'; 0 by the template 'total and deterministic' (their statements: YtlnndfnonljhbaaTotals.lean).
  GIVEN WITH THE SEED: the statements are not yours to turn. If you find one false, say at which input.
  Laid BY PROGRAM, IN A SANDBOX (cutbox-rows.mjs): the forced cells as the released guide's own fill.sh prints them over the translation d1b1be7efac67d95… (all of the seat's roots in one cut). By AI agents, Wed Nov 11 2026. No macro, syntax, notation, axiom, sorry.
-/
import Derived.Test.YtlnndfnonljhbaaChecked
import GoSem.Claim
import GoSem.ClaimJoined
import GoSem.ClaimMapViews
import Derived.JoinedTies
import Derived.KernelRfl
namespace Go.Proofs.Ytlnndfnonljhbaa
/- THE CELL 'sum', in the pinned program and in every row, IS THE sha256 OF THE DUMP (.gsa) THAT YtlnndfnonljhbaaProg.lean LOADS. Nothing in Lean hashes anything: it is a label: what it is worth is what the hold of that sum in a sandbox is worth. -/
noncomputable def Try.pinned : Pinned := { name := "ytlnndfnonljhbaa", sum := "d1b1be7efac67d95e96cfc283586e9c28d959edd23a5cd1beb8c04b35624cfed", checked := Try.checked }
namespace Rows
def none {H : Type} : Left H := { results := [], args := [] }

/-- 'laws.FnExactSideOf': WHATEVER THE INPUT: true; the input reads as it did. -/
def fnExactSideOfSpec : ChangeSpec := { name := "fnExactSideOf", fn := fun _ => fun
  | [d1, d2, d3] => { results := [.lit (.bool true)], args := [d1, d2, d3] }
  | _ => none }
def fnExactSideOfRow : OpenClaim := { program := "ytlnndfnonljhbaa", sum := "d1b1be7efac67d95e96cfc283586e9c28d959edd23a5cd1beb8c04b35624cfed", func := "loop.example/g01017/laws.FnExactSideOf", spec := "fnExactSideOf", apart := false }
def FnExactSideOfSaid : Prop := fnExactSideOfRow.holds Try.pinned (OpenSpec.ofChange fnExactSideOfSpec)

/-- ITS FALSE NEIGHBOUR: 'it returns false'. Refute it at one input. -/
def fnExactSideOfWrong : ChangeSpec := { name := "fnExactSideOf", fn := fun _ => fun
  | [d1, d2, d3] => { results := [.lit (.bool false)], args := [d1, d2, d3] }
  | _ => none }
def FnExactSideOfWrongFalsely : Prop := fnExactSideOfRow.holds Try.pinned (OpenSpec.ofChange fnExactSideOfWrong)

/-- 'laws.FnExactSegmentsMeet': WHATEVER THE INPUT: true; the input reads as it did. -/
def fnExactSegmentsMeetSpec : ChangeSpec := { name := "fnExactSegmentsMeet", fn := fun _ => fun
  | [d1, d2, d3, d4] => { results := [.lit (.bool true)], args := [d1, d2, d3, d4] }
  | _ => none }
def fnExactSegmentsMeetRow : OpenClaim := { program := "ytlnndfnonljhbaa", sum := "d1b1be7efac67d95e96cfc283586e9c28d959edd23a5cd1beb8c04b35624cfed", func := "loop.example/g01017/laws.FnExactSegmentsMeet", spec := "fnExactSegmentsMeet", unfollowed := true, recurses := true, apart := false }
def FnExactSegmentsMeetSaid : Prop := fnExactSegmentsMeetRow.holds Try.pinned (OpenSpec.ofChange fnExactSegmentsMeetSpec)

/-- ITS FALSE NEIGHBOUR: 'it returns false'. Refute it at one input. -/
def fnExactSegmentsMeetWrong : ChangeSpec := { name := "fnExactSegmentsMeet", fn := fun _ => fun
  | [d1, d2, d3, d4] => { results := [.lit (.bool false)], args := [d1, d2, d3, d4] }
  | _ => none }
def FnExactSegmentsMeetWrongFalsely : Prop := fnExactSegmentsMeetRow.holds Try.pinned (OpenSpec.ofChange fnExactSegmentsMeetWrong)

/-- 'laws.FnExactNewAlarm': WHATEVER THE INPUT: true; the input reads as it did. -/
def fnExactNewAlarmSpec : ChangeSpec := { name := "fnExactNewAlarm", fn := fun _ => fun
  | [d] => { results := [.lit (.bool true)], args := [d] }
  | _ => none }
def fnExactNewAlarmRow : OpenClaim := { program := "ytlnndfnonljhbaa", sum := "d1b1be7efac67d95e96cfc283586e9c28d959edd23a5cd1beb8c04b35624cfed", func := "loop.example/g01017/laws.FnExactNewAlarm", spec := "fnExactNewAlarm", apart := false }
def FnExactNewAlarmSaid : Prop := fnExactNewAlarmRow.holds Try.pinned (OpenSpec.ofChange fnExactNewAlarmSpec)

/-- ITS FALSE NEIGHBOUR: 'it returns false'. Refute it at one input. -/
def fnExactNewAlarmWrong : ChangeSpec := { name := "fnExactNewAlarm", fn := fun _ => fun
  | [d] => { results := [.lit (.bool false)], args := [d] }
  | _ => none }
def FnExactNewAlarmWrongFalsely : Prop := fnExactNewAlarmRow.holds Try.pinned (OpenSpec.ofChange fnExactNewAlarmWrong)

/-- 'laws.FnExactIsBulletin': WHATEVER THE INPUT: true; the input reads as it did. -/
def fnExactIsBulletinSpec : ChangeSpec := { name := "fnExactIsBulletin", fn := fun _ => fun
  | [d] => { results := [.lit (.bool true)], args := [d] }
  | _ => none }
def fnExactIsBulletinRow : OpenClaim := { program := "ytlnndfnonljhbaa", sum := "d1b1be7efac67d95e96cfc283586e9c28d959edd23a5cd1beb8c04b35624cfed", func := "loop.example/g01017/laws.FnExactIsBulletin", spec := "fnExactIsBulletin", unfollowed := true, recurses := true, apart := false }
def FnExactIsBulletinSaid : Prop := fnExactIsBulletinRow.holds Try.pinned (OpenSpec.ofChange fnExactIsBulletinSpec)

/-- ITS FALSE NEIGHBOUR: 'it returns false'. Refute it at one input. -/
def fnExactIsBulletinWrong : ChangeSpec := { name := "fnExactIsBulletin", fn := fun _ => fun
  | [d] => { results := [.lit (.bool false)], args := [d] }
  | _ => none }
def FnExactIsBulletinWrongFalsely : Prop := fnExactIsBulletinRow.holds Try.pinned (OpenSpec.ofChange fnExactIsBulletinWrong)

/-- 'laws.FnExactIsQuakeRow': WHATEVER THE INPUT: true; the input reads as it did. -/
def fnExactIsQuakeRowSpec : ChangeSpec := { name := "fnExactIsQuakeRow", fn := fun _ => fun
  | [d] => { results := [.lit (.bool true)], args := [d] }
  | _ => none }
def fnExactIsQuakeRowRow : OpenClaim := { program := "ytlnndfnonljhbaa", sum := "d1b1be7efac67d95e96cfc283586e9c28d959edd23a5cd1beb8c04b35624cfed", func := "loop.example/g01017/laws.FnExactIsQuakeRow", spec := "fnExactIsQuakeRow", apart := false }
def FnExactIsQuakeRowSaid : Prop := fnExactIsQuakeRowRow.holds Try.pinned (OpenSpec.ofChange fnExactIsQuakeRowSpec)

/-- ITS FALSE NEIGHBOUR: 'it returns false'. Refute it at one input. -/
def fnExactIsQuakeRowWrong : ChangeSpec := { name := "fnExactIsQuakeRow", fn := fun _ => fun
  | [d] => { results := [.lit (.bool false)], args := [d] }
  | _ => none }
def FnExactIsQuakeRowWrongFalsely : Prop := fnExactIsQuakeRowRow.holds Try.pinned (OpenSpec.ofChange fnExactIsQuakeRowWrong)

/- THE SECOND FORM. 'bulk': how many values and letters a reading holds, each counted each time it is reached (what is shared counts as often as it is met; a slice's spare places count too). A statement '..UptoSaid' is the law's where the arguments, and the package variables that the reading takes, are together of bulk at most 1048576: NARROWER than '..Said'. Prove '..Said' where nothing that the law and all that it calls make is longer than what came in: it says more and counts as full. Else prove '..UptoSaid'. A law counts once. -/
mutual
def uptoBulk {H : Type} : DataW H → Nat
  | .lit (.string bytes) => bytes.length + 1
  | .lit _ => 1
  | .nil => 1
  | .ptr d => uptoBulk d + 1
  | .slice elems spare => uptoBulkAll elems + uptoBulkAll spare + 1
  | .agg parts => uptoBulkAll parts + 1
  | .iface _ d => uptoBulk d + 1
  | .map entries => uptoBulkEntries entries + 1
  | .held _ => 1
def uptoBulkAll {H : Type} : List (DataW H) → Nat
  | [] => 0
  | d :: r => uptoBulk d + uptoBulkAll r
def uptoBulkEntries {H : Type} : List (Lit × DataW H) → Nat
  | [] => 0
  | x :: r => uptoBulkEntry x + uptoBulkEntries r
def uptoBulkEntry {H : Type} : Lit × DataW H → Nat
  | (.string bytes, d) => bytes.length + uptoBulk d + 1
  | (_, d) => uptoBulk d + 1
 end
def uptoSmall : (H : Type) → List (DataW H) → Bool := fun _ ds => decide (uptoBulkAll ds ≤ 1048576)
def OpenSpec.upto (s : _root_.Go.ChangeSpec) : _root_.Go.OpenSpec := { _root_.Go.OpenSpec.ofChange s with cond := some uptoSmall }

/-- 'laws.FnExactSideOf', WHERE WHAT IT READS IS OF BULK AT MOST 1048576: true; the input reads as it did. -/
def fnExactSideOfUptoRow : OpenClaim := { program := "ytlnndfnonljhbaa", sum := "d1b1be7efac67d95e96cfc283586e9c28d959edd23a5cd1beb8c04b35624cfed", func := "loop.example/g01017/laws.FnExactSideOf", spec := "fnExactSideOf", apart := false, narrowed := true }
def FnExactSideOfUptoSaid : Prop := fnExactSideOfUptoRow.holds Try.pinned (OpenSpec.upto fnExactSideOfSpec)

/-- 'laws.FnExactSegmentsMeet', WHERE WHAT IT READS IS OF BULK AT MOST 1048576: true; the input reads as it did. -/
def fnExactSegmentsMeetUptoRow : OpenClaim := { program := "ytlnndfnonljhbaa", sum := "d1b1be7efac67d95e96cfc283586e9c28d959edd23a5cd1beb8c04b35624cfed", func := "loop.example/g01017/laws.FnExactSegmentsMeet", spec := "fnExactSegmentsMeet", unfollowed := true, recurses := true, apart := false, narrowed := true }
def FnExactSegmentsMeetUptoSaid : Prop := fnExactSegmentsMeetUptoRow.holds Try.pinned (OpenSpec.upto fnExactSegmentsMeetSpec)

/-- 'laws.FnExactNewAlarm', WHERE WHAT IT READS IS OF BULK AT MOST 1048576: true; the input reads as it did. -/
def fnExactNewAlarmUptoRow : OpenClaim := { program := "ytlnndfnonljhbaa", sum := "d1b1be7efac67d95e96cfc283586e9c28d959edd23a5cd1beb8c04b35624cfed", func := "loop.example/g01017/laws.FnExactNewAlarm", spec := "fnExactNewAlarm", apart := false, narrowed := true }
def FnExactNewAlarmUptoSaid : Prop := fnExactNewAlarmUptoRow.holds Try.pinned (OpenSpec.upto fnExactNewAlarmSpec)

/-- 'laws.FnExactIsBulletin', WHERE WHAT IT READS IS OF BULK AT MOST 1048576: true; the input reads as it did. -/
def fnExactIsBulletinUptoRow : OpenClaim := { program := "ytlnndfnonljhbaa", sum := "d1b1be7efac67d95e96cfc283586e9c28d959edd23a5cd1beb8c04b35624cfed", func := "loop.example/g01017/laws.FnExactIsBulletin", spec := "fnExactIsBulletin", unfollowed := true, recurses := true, apart := false, narrowed := true }
def FnExactIsBulletinUptoSaid : Prop := fnExactIsBulletinUptoRow.holds Try.pinned (OpenSpec.upto fnExactIsBulletinSpec)

/-- 'laws.FnExactIsQuakeRow', WHERE WHAT IT READS IS OF BULK AT MOST 1048576: true; the input reads as it did. -/
def fnExactIsQuakeRowUptoRow : OpenClaim := { program := "ytlnndfnonljhbaa", sum := "d1b1be7efac67d95e96cfc283586e9c28d959edd23a5cd1beb8c04b35624cfed", func := "loop.example/g01017/laws.FnExactIsQuakeRow", spec := "fnExactIsQuakeRow", apart := false, narrowed := true }
def FnExactIsQuakeRowUptoSaid : Prop := fnExactIsQuakeRowUptoRow.holds Try.pinned (OpenSpec.upto fnExactIsQuakeRowSpec)

end Rows
end Go.Proofs.Ytlnndfnonljhbaa
