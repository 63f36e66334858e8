/-
  No cell of these rows narrows 'for every input' (looked for: loops, veiled, ifaces, maps, wideKeys, modest, calm, conditions, laid).
  DERIVED. THE GIVEN ROWS OF THIS SEAT. 5 by the template 'for every input the law returns true; each argument reads behind the call as it read before'; 0 by the template 'total and deterministic' (their statements: YtooiefpinfgclaaTotals.lean).
  GIVEN WITH THE SEED: the statements are not yours to turn. If you find one false, say at which input.
  Laid BY PROGRAM, IN A SANDBOX (cutbox-rows.mjs): the forced cells as the released guide's own fill.sh prints them over the translation 22dbb2f4590952bf… (all of the seat's roots in one cut). By AI agents, Wed Nov 11 2026. No macro, syntax, notation, axiom, sorry.
-/
import Derived.Test.YtooiefpinfgclaaChecked
import GoSem.Claim
import GoSem.ClaimJoined
import GoSem.ClaimMapViews
import Derived.JoinedTies
import Derived.KernelRfl
namespace Go.Proofs.Ytooiefpinfgclaa
/- THE CELL 'sum', in the pinned program and in every row, IS THE sha256 OF THE DUMP (.gsa) THAT YtooiefpinfgclaaProg.lean LOADS. Nothing in Lean hashes anything: it is a label: what it is worth is what the hold of that sum in a sandbox is worth. -/
noncomputable def Try.pinned : Pinned := { name := "ytooiefpinfgclaa", sum := "22dbb2f4590952bf56acd0807a219d1b3a0753a209a080dd090263befb523dde", checked := Try.checked }
namespace Rows
def none {H : Type} : Left H := { results := [], args := [] }

/-- 'laws.FnExactNewAlarm': WHATEVER THE INPUT: true; the input reads as it did. -/
def fnExactNewAlarmSpec : ChangeSpec := { name := "fnExactNewAlarm", fn := fun _ => fun
  | [d] => { results := [.lit (.bool true)], args := [d] }
  | _ => none }
def fnExactNewAlarmRow : OpenClaim := { program := "ytooiefpinfgclaa", sum := "22dbb2f4590952bf56acd0807a219d1b3a0753a209a080dd090263befb523dde", func := "loop.example/g01017/laws.FnExactNewAlarm", spec := "fnExactNewAlarm", apart := false }
def FnExactNewAlarmSaid : Prop := fnExactNewAlarmRow.holds Try.pinned (OpenSpec.ofChange fnExactNewAlarmSpec)

/-- ITS FALSE NEIGHBOUR: 'it returns false'. Refute it at one input. -/
def fnExactNewAlarmWrong : ChangeSpec := { name := "fnExactNewAlarm", fn := fun _ => fun
  | [d] => { results := [.lit (.bool false)], args := [d] }
  | _ => none }
def FnExactNewAlarmWrongFalsely : Prop := fnExactNewAlarmRow.holds Try.pinned (OpenSpec.ofChange fnExactNewAlarmWrong)

/-- 'laws.FnExactIsAlarm': WHATEVER THE INPUT: true; the input reads as it did. -/
def fnExactIsAlarmSpec : ChangeSpec := { name := "fnExactIsAlarm", fn := fun _ => fun
  | [d] => { results := [.lit (.bool true)], args := [d] }
  | _ => none }
def fnExactIsAlarmRow : OpenClaim := { program := "ytooiefpinfgclaa", sum := "22dbb2f4590952bf56acd0807a219d1b3a0753a209a080dd090263befb523dde", func := "loop.example/g01017/laws.FnExactIsAlarm", spec := "fnExactIsAlarm", unfollowed := true, recurses := true, apart := false }
def FnExactIsAlarmSaid : Prop := fnExactIsAlarmRow.holds Try.pinned (OpenSpec.ofChange fnExactIsAlarmSpec)

/-- ITS FALSE NEIGHBOUR: 'it returns false'. Refute it at one input. -/
def fnExactIsAlarmWrong : ChangeSpec := { name := "fnExactIsAlarm", fn := fun _ => fun
  | [d] => { results := [.lit (.bool false)], args := [d] }
  | _ => none }
def FnExactIsAlarmWrongFalsely : Prop := fnExactIsAlarmRow.holds Try.pinned (OpenSpec.ofChange fnExactIsAlarmWrong)

/-- 'laws.FnExactTicksToForget': WHATEVER THE INPUT: true; the input reads as it did. -/
def fnExactTicksToForgetSpec : ChangeSpec := { name := "fnExactTicksToForget", fn := fun _ => fun
  | [d] => { results := [.lit (.bool true)], args := [d] }
  | _ => none }
def fnExactTicksToForgetRow : OpenClaim := { program := "ytooiefpinfgclaa", sum := "22dbb2f4590952bf56acd0807a219d1b3a0753a209a080dd090263befb523dde", func := "loop.example/g01017/laws.FnExactTicksToForget", spec := "fnExactTicksToForget", unfollowed := true, recurses := true, apart := false }
def FnExactTicksToForgetSaid : Prop := fnExactTicksToForgetRow.holds Try.pinned (OpenSpec.ofChange fnExactTicksToForgetSpec)

/-- ITS FALSE NEIGHBOUR: 'it returns false'. Refute it at one input. -/
def fnExactTicksToForgetWrong : ChangeSpec := { name := "fnExactTicksToForget", fn := fun _ => fun
  | [d] => { results := [.lit (.bool false)], args := [d] }
  | _ => none }
def FnExactTicksToForgetWrongFalsely : Prop := fnExactTicksToForgetRow.holds Try.pinned (OpenSpec.ofChange fnExactTicksToForgetWrong)

/-- 'laws.FnExactStationsMissing': WHATEVER THE INPUT: true; the input reads as it did. -/
def fnExactStationsMissingSpec : ChangeSpec := { name := "fnExactStationsMissing", fn := fun _ => fun
  | [d] => { results := [.lit (.bool true)], args := [d] }
  | _ => none }
def fnExactStationsMissingRow : OpenClaim := { program := "ytooiefpinfgclaa", sum := "22dbb2f4590952bf56acd0807a219d1b3a0753a209a080dd090263befb523dde", func := "loop.example/g01017/laws.FnExactStationsMissing", spec := "fnExactStationsMissing", unfollowed := true, recurses := true, apart := false }
def FnExactStationsMissingSaid : Prop := fnExactStationsMissingRow.holds Try.pinned (OpenSpec.ofChange fnExactStationsMissingSpec)

/-- ITS FALSE NEIGHBOUR: 'it returns false'. Refute it at one input. -/
def fnExactStationsMissingWrong : ChangeSpec := { name := "fnExactStationsMissing", fn := fun _ => fun
  | [d] => { results := [.lit (.bool false)], args := [d] }
  | _ => none }
def FnExactStationsMissingWrongFalsely : Prop := fnExactStationsMissingRow.holds Try.pinned (OpenSpec.ofChange fnExactStationsMissingWrong)

/-- 'laws.FnExactHeardBy': WHATEVER THE INPUT: true; the input reads as it did. -/
def fnExactHeardBySpec : ChangeSpec := { name := "fnExactHeardBy", fn := fun _ => fun
  | [d] => { results := [.lit (.bool true)], args := [d] }
  | _ => none }
def fnExactHeardByRow : OpenClaim := { program := "ytooiefpinfgclaa", sum := "22dbb2f4590952bf56acd0807a219d1b3a0753a209a080dd090263befb523dde", func := "loop.example/g01017/laws.FnExactHeardBy", spec := "fnExactHeardBy", unfollowed := true, recurses := true, apart := false }
def FnExactHeardBySaid : Prop := fnExactHeardByRow.holds Try.pinned (OpenSpec.ofChange fnExactHeardBySpec)

/-- ITS FALSE NEIGHBOUR: 'it returns false'. Refute it at one input. -/
def fnExactHeardByWrong : ChangeSpec := { name := "fnExactHeardBy", fn := fun _ => fun
  | [d] => { results := [.lit (.bool false)], args := [d] }
  | _ => none }
def FnExactHeardByWrongFalsely : Prop := fnExactHeardByRow.holds Try.pinned (OpenSpec.ofChange fnExactHeardByWrong)

/- THE SECOND FORM. 'bulk': how many values and letters a reading holds, each counted each time it is reached (what is shared counts as often as it is met; a slice's spare places count too). A statement '..UptoSaid' is the law's where the arguments, and the package variables that the reading takes, are together of bulk at most 1048576: NARROWER than '..Said'. Prove '..Said' where nothing that the law and all that it calls make is longer than what came in: it says more and counts as full. Else prove '..UptoSaid'. A law counts once. -/
mutual
def uptoBulk {H : Type} : DataW H → Nat
  | .lit (.string bytes) => bytes.length + 1
  | .lit _ => 1
  | .nil => 1
  | .ptr d => uptoBulk d + 1
  | .slice elems spare => uptoBulkAll elems + uptoBulkAll spare + 1
  | .agg parts => uptoBulkAll parts + 1
  | .iface _ d => uptoBulk d + 1
  | .map entries => uptoBulkEntries entries + 1
  | .held _ => 1
def uptoBulkAll {H : Type} : List (DataW H) → Nat
  | [] => 0
  | d :: r => uptoBulk d + uptoBulkAll r
def uptoBulkEntries {H : Type} : List (Lit × DataW H) → Nat
  | [] => 0
  | x :: r => uptoBulkEntry x + uptoBulkEntries r
def uptoBulkEntry {H : Type} : Lit × DataW H → Nat
  | (.string bytes, d) => bytes.length + uptoBulk d + 1
  | (_, d) => uptoBulk d + 1
 end
def uptoSmall : (H : Type) → List (DataW H) → Bool := fun _ ds => decide (uptoBulkAll ds ≤ 1048576)
def OpenSpec.upto (s : _root_.Go.ChangeSpec) : _root_.Go.OpenSpec := { _root_.Go.OpenSpec.ofChange s with cond := some uptoSmall }

/-- 'laws.FnExactNewAlarm', WHERE WHAT IT READS IS OF BULK AT MOST 1048576: true; the input reads as it did. -/
def fnExactNewAlarmUptoRow : OpenClaim := { program := "ytooiefpinfgclaa", sum := "22dbb2f4590952bf56acd0807a219d1b3a0753a209a080dd090263befb523dde", func := "loop.example/g01017/laws.FnExactNewAlarm", spec := "fnExactNewAlarm", apart := false, narrowed := true }
def FnExactNewAlarmUptoSaid : Prop := fnExactNewAlarmUptoRow.holds Try.pinned (OpenSpec.upto fnExactNewAlarmSpec)

/-- 'laws.FnExactIsAlarm', WHERE WHAT IT READS IS OF BULK AT MOST 1048576: true; the input reads as it did. -/
def fnExactIsAlarmUptoRow : OpenClaim := { program := "ytooiefpinfgclaa", sum := "22dbb2f4590952bf56acd0807a219d1b3a0753a209a080dd090263befb523dde", func := "loop.example/g01017/laws.FnExactIsAlarm", spec := "fnExactIsAlarm", unfollowed := true, recurses := true, apart := false, narrowed := true }
def FnExactIsAlarmUptoSaid : Prop := fnExactIsAlarmUptoRow.holds Try.pinned (OpenSpec.upto fnExactIsAlarmSpec)

/-- 'laws.FnExactTicksToForget', WHERE WHAT IT READS IS OF BULK AT MOST 1048576: true; the input reads as it did. -/
def fnExactTicksToForgetUptoRow : OpenClaim := { program := "ytooiefpinfgclaa", sum := "22dbb2f4590952bf56acd0807a219d1b3a0753a209a080dd090263befb523dde", func := "loop.example/g01017/laws.FnExactTicksToForget", spec := "fnExactTicksToForget", unfollowed := true, recurses := true, apart := false, narrowed := true }
def FnExactTicksToForgetUptoSaid : Prop := fnExactTicksToForgetUptoRow.holds Try.pinned (OpenSpec.upto fnExactTicksToForgetSpec)

/-- 'laws.FnExactStationsMissing', WHERE WHAT IT READS IS OF BULK AT MOST 1048576: true; the input reads as it did. -/
def fnExactStationsMissingUptoRow : OpenClaim := { program := "ytooiefpinfgclaa", sum := "22dbb2f4590952bf56acd0807a219d1b3a0753a209a080dd090263befb523dde", func := "loop.example/g01017/laws.FnExactStationsMissing", spec := "fnExactStationsMissing", unfollowed := true, recurses := true, apart := false, narrowed := true }
def FnExactStationsMissingUptoSaid : Prop := fnExactStationsMissingUptoRow.holds Try.pinned (OpenSpec.upto fnExactStationsMissingSpec)

/-- 'laws.FnExactHeardBy', WHERE WHAT IT READS IS OF BULK AT MOST 1048576: true; the input reads as it did. -/
def fnExactHeardByUptoRow : OpenClaim := { program := "ytooiefpinfgclaa", sum := "22dbb2f4590952bf56acd0807a219d1b3a0753a209a080dd090263befb523dde", func := "loop.example/g01017/laws.FnExactHeardBy", spec := "fnExactHeardBy", unfollowed := true, recurses := true, apart := false, narrowed := true }
def FnExactHeardByUptoSaid : Prop := fnExactHeardByUptoRow.holds Try.pinned (OpenSpec.upto fnExactHeardBySpec)

end Rows
end Go.Proofs.Ytooiefpinfgclaa
