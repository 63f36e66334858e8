/-
  No cell of these rows narrows 'for every input' (looked for: loops, veiled, ifaces, maps, wideKeys, modest, calm, conditions, laid).
  DERIVED. THE GIVEN ROWS OF THIS SEAT. 12 by the template 'for every input the law returns true; each argument reads behind the call as it read before'; 0 by the template 'total and deterministic' (their statements: YtnlpgbjalfgoiaaTotals.lean).
  GIVEN WITH THE SEED: the statements are not yours to turn. If you find one false, say at which input.
  Laid BY PROGRAM, IN A SANDBOX (cutbox-rows.mjs): the forced cells as the released guide's own fill.sh prints them over the translation 88bec9f00416b73d… (all of the seat's roots in one cut). By AI agents, Wed Nov 11 2026. No macro, syntax, notation, axiom, sorry.
-/
import Derived.Test.YtnlpgbjalfgoiaaChecked
import GoSem.Claim
import GoSem.ClaimJoined
import GoSem.ClaimMapViews
import Derived.JoinedTies
import Derived.KernelRfl
namespace Go.Proofs.Ytnlpgbjalfgoiaa
/- THE CELL 'sum', in the pinned program and in every row, IS THE sha256 OF THE DUMP (.gsa) THAT YtnlpgbjalfgoiaaProg.lean LOADS. Nothing in Lean hashes anything: it is a label: what it is worth is what the hold of that sum in a sandbox is worth. -/
noncomputable def Try.pinned : Pinned := { name := "ytnlpgbjalfgoiaa", sum := "88bec9f00416b73d883d744e8e09f7e8704eb53eeb8045701d266808bfc3d37a", checked := Try.checked }
namespace Rows
def none {H : Type} : Left H := { results := [], args := [] }

/-- 'laws.FnExactIsBattery': WHATEVER THE INPUT: true; the input reads as it did. -/
def fnExactIsBatterySpec : ChangeSpec := { name := "fnExactIsBattery", fn := fun _ => fun
  | [d] => { results := [.lit (.bool true)], args := [d] }
  | _ => none }
def fnExactIsBatteryRow : OpenClaim := { program := "ytnlpgbjalfgoiaa", sum := "88bec9f00416b73d883d744e8e09f7e8704eb53eeb8045701d266808bfc3d37a", func := "loop.example/g01017/laws.FnExactIsBattery", spec := "fnExactIsBattery", apart := false }
def FnExactIsBatterySaid : Prop := fnExactIsBatteryRow.holds Try.pinned (OpenSpec.ofChange fnExactIsBatterySpec)

/-- ITS FALSE NEIGHBOUR: 'it returns false'. Refute it at one input. -/
def fnExactIsBatteryWrong : ChangeSpec := { name := "fnExactIsBattery", fn := fun _ => fun
  | [d] => { results := [.lit (.bool false)], args := [d] }
  | _ => none }
def FnExactIsBatteryWrongFalsely : Prop := fnExactIsBatteryRow.holds Try.pinned (OpenSpec.ofChange fnExactIsBatteryWrong)

/-- 'laws.FnExactLeastSun': WHATEVER THE INPUT: true; the input reads as it did. -/
def fnExactLeastSunSpec : ChangeSpec := { name := "fnExactLeastSun", fn := fun _ => fun
  | [d] => { results := [.lit (.bool true)], args := [d] }
  | _ => none }
def fnExactLeastSunRow : OpenClaim := { program := "ytnlpgbjalfgoiaa", sum := "88bec9f00416b73d883d744e8e09f7e8704eb53eeb8045701d266808bfc3d37a", func := "loop.example/g01017/laws.FnExactLeastSun", spec := "fnExactLeastSun", apart := false }
def FnExactLeastSunSaid : Prop := fnExactLeastSunRow.holds Try.pinned (OpenSpec.ofChange fnExactLeastSunSpec)

/-- ITS FALSE NEIGHBOUR: 'it returns false'. Refute it at one input. -/
def fnExactLeastSunWrong : ChangeSpec := { name := "fnExactLeastSun", fn := fun _ => fun
  | [d] => { results := [.lit (.bool false)], args := [d] }
  | _ => none }
def FnExactLeastSunWrongFalsely : Prop := fnExactLeastSunRow.holds Try.pinned (OpenSpec.ofChange fnExactLeastSunWrong)

/-- 'laws.FnExactAreSunDays': WHATEVER THE INPUT: true; the input reads as it did. -/
def fnExactAreSunDaysSpec : ChangeSpec := { name := "fnExactAreSunDays", fn := fun _ => fun
  | [d] => { results := [.lit (.bool true)], args := [d] }
  | _ => none }
def fnExactAreSunDaysRow : OpenClaim := { program := "ytnlpgbjalfgoiaa", sum := "88bec9f00416b73d883d744e8e09f7e8704eb53eeb8045701d266808bfc3d37a", func := "loop.example/g01017/laws.FnExactAreSunDays", spec := "fnExactAreSunDays", apart := false }
def FnExactAreSunDaysSaid : Prop := fnExactAreSunDaysRow.holds Try.pinned (OpenSpec.ofChange fnExactAreSunDaysSpec)

/-- ITS FALSE NEIGHBOUR: 'it returns false'. Refute it at one input. -/
def fnExactAreSunDaysWrong : ChangeSpec := { name := "fnExactAreSunDays", fn := fun _ => fun
  | [d] => { results := [.lit (.bool false)], args := [d] }
  | _ => none }
def FnExactAreSunDaysWrongFalsely : Prop := fnExactAreSunDaysRow.holds Try.pinned (OpenSpec.ofChange fnExactAreSunDaysWrong)

/-- 'laws.FnExactDarkDays': WHATEVER THE INPUT: true; the input reads as it did. -/
def fnExactDarkDaysSpec : ChangeSpec := { name := "fnExactDarkDays", fn := fun _ => fun
  | [d] => { results := [.lit (.bool true)], args := [d] }
  | _ => none }
def fnExactDarkDaysRow : OpenClaim := { program := "ytnlpgbjalfgoiaa", sum := "88bec9f00416b73d883d744e8e09f7e8704eb53eeb8045701d266808bfc3d37a", func := "loop.example/g01017/laws.FnExactDarkDays", spec := "fnExactDarkDays", apart := false }
def FnExactDarkDaysSaid : Prop := fnExactDarkDaysRow.holds Try.pinned (OpenSpec.ofChange fnExactDarkDaysSpec)

/-- ITS FALSE NEIGHBOUR: 'it returns false'. Refute it at one input. -/
def fnExactDarkDaysWrong : ChangeSpec := { name := "fnExactDarkDays", fn := fun _ => fun
  | [d] => { results := [.lit (.bool false)], args := [d] }
  | _ => none }
def FnExactDarkDaysWrongFalsely : Prop := fnExactDarkDaysRow.holds Try.pinned (OpenSpec.ofChange fnExactDarkDaysWrong)

/-- 'laws.FnExactAfterDay': WHATEVER THE INPUT: true; the input reads as it did. -/
def fnExactAfterDaySpec : ChangeSpec := { name := "fnExactAfterDay", fn := fun _ => fun
  | [d1, d2] => { results := [.lit (.bool true)], args := [d1, d2] }
  | _ => none }
def fnExactAfterDayRow : OpenClaim := { program := "ytnlpgbjalfgoiaa", sum := "88bec9f00416b73d883d744e8e09f7e8704eb53eeb8045701d266808bfc3d37a", func := "loop.example/g01017/laws.FnExactAfterDay", spec := "fnExactAfterDay", apart := false }
def FnExactAfterDaySaid : Prop := fnExactAfterDayRow.holds Try.pinned (OpenSpec.ofChange fnExactAfterDaySpec)

/-- ITS FALSE NEIGHBOUR: 'it returns false'. Refute it at one input. -/
def fnExactAfterDayWrong : ChangeSpec := { name := "fnExactAfterDay", fn := fun _ => fun
  | [d1, d2] => { results := [.lit (.bool false)], args := [d1, d2] }
  | _ => none }
def FnExactAfterDayWrongFalsely : Prop := fnExactAfterDayRow.holds Try.pinned (OpenSpec.ofChange fnExactAfterDayWrong)

/-- 'laws.FnExactDarkestRun': WHATEVER THE INPUT: true; the input reads as it did. -/
def fnExactDarkestRunSpec : ChangeSpec := { name := "fnExactDarkestRun", fn := fun _ => fun
  | [d1, d2] => { results := [.lit (.bool true)], args := [d1, d2] }
  | _ => none }
def fnExactDarkestRunRow : OpenClaim := { program := "ytnlpgbjalfgoiaa", sum := "88bec9f00416b73d883d744e8e09f7e8704eb53eeb8045701d266808bfc3d37a", func := "loop.example/g01017/laws.FnExactDarkestRun", spec := "fnExactDarkestRun", apart := false }
def FnExactDarkestRunSaid : Prop := fnExactDarkestRunRow.holds Try.pinned (OpenSpec.ofChange fnExactDarkestRunSpec)

/-- ITS FALSE NEIGHBOUR: 'it returns false'. Refute it at one input. -/
def fnExactDarkestRunWrong : ChangeSpec := { name := "fnExactDarkestRun", fn := fun _ => fun
  | [d1, d2] => { results := [.lit (.bool false)], args := [d1, d2] }
  | _ => none }
def FnExactDarkestRunWrongFalsely : Prop := fnExactDarkestRunRow.holds Try.pinned (OpenSpec.ofChange fnExactDarkestRunWrong)

/-- 'laws.FnExactMeanSun': WHATEVER THE INPUT: true; the input reads as it did. -/
def fnExactMeanSunSpec : ChangeSpec := { name := "fnExactMeanSun", fn := fun _ => fun
  | [d] => { results := [.lit (.bool true)], args := [d] }
  | _ => none }
def fnExactMeanSunRow : OpenClaim := { program := "ytnlpgbjalfgoiaa", sum := "88bec9f00416b73d883d744e8e09f7e8704eb53eeb8045701d266808bfc3d37a", func := "loop.example/g01017/laws.FnExactMeanSun", spec := "fnExactMeanSun", apart := false }
def FnExactMeanSunSaid : Prop := fnExactMeanSunRow.holds Try.pinned (OpenSpec.ofChange fnExactMeanSunSpec)

/-- ITS FALSE NEIGHBOUR: 'it returns false'. Refute it at one input. -/
def fnExactMeanSunWrong : ChangeSpec := { name := "fnExactMeanSun", fn := fun _ => fun
  | [d] => { results := [.lit (.bool false)], args := [d] }
  | _ => none }
def FnExactMeanSunWrongFalsely : Prop := fnExactMeanSunRow.holds Try.pinned (OpenSpec.ofChange fnExactMeanSunWrong)

/-- 'laws.FnExactLostSun': WHATEVER THE INPUT: true; the input reads as it did. -/
def fnExactLostSunSpec : ChangeSpec := { name := "fnExactLostSun", fn := fun _ => fun
  | [d1, d2] => { results := [.lit (.bool true)], args := [d1, d2] }
  | _ => none }
def fnExactLostSunRow : OpenClaim := { program := "ytnlpgbjalfgoiaa", sum := "88bec9f00416b73d883d744e8e09f7e8704eb53eeb8045701d266808bfc3d37a", func := "loop.example/g01017/laws.FnExactLostSun", spec := "fnExactLostSun", apart := false }
def FnExactLostSunSaid : Prop := fnExactLostSunRow.holds Try.pinned (OpenSpec.ofChange fnExactLostSunSpec)

/-- ITS FALSE NEIGHBOUR: 'it returns false'. Refute it at one input. -/
def fnExactLostSunWrong : ChangeSpec := { name := "fnExactLostSun", fn := fun _ => fun
  | [d1, d2] => { results := [.lit (.bool false)], args := [d1, d2] }
  | _ => none }
def FnExactLostSunWrongFalsely : Prop := fnExactLostSunRow.holds Try.pinned (OpenSpec.ofChange fnExactLostSunWrong)

/-- 'laws.FnExactLeastFull': WHATEVER THE INPUT: true; the input reads as it did. -/
def fnExactLeastFullSpec : ChangeSpec := { name := "fnExactLeastFull", fn := fun _ => fun
  | [d1, d2] => { results := [.lit (.bool true)], args := [d1, d2] }
  | _ => none }
def fnExactLeastFullRow : OpenClaim := { program := "ytnlpgbjalfgoiaa", sum := "88bec9f00416b73d883d744e8e09f7e8704eb53eeb8045701d266808bfc3d37a", func := "loop.example/g01017/laws.FnExactLeastFull", spec := "fnExactLeastFull", apart := false }
def FnExactLeastFullSaid : Prop := fnExactLeastFullRow.holds Try.pinned (OpenSpec.ofChange fnExactLeastFullSpec)

/-- ITS FALSE NEIGHBOUR: 'it returns false'. Refute it at one input. -/
def fnExactLeastFullWrong : ChangeSpec := { name := "fnExactLeastFull", fn := fun _ => fun
  | [d1, d2] => { results := [.lit (.bool false)], args := [d1, d2] }
  | _ => none }
def FnExactLeastFullWrongFalsely : Prop := fnExactLeastFullRow.holds Try.pinned (OpenSpec.ofChange fnExactLeastFullWrong)

/-- 'laws.FnExactAfterDays': WHATEVER THE INPUT: true; the input reads as it did. -/
def fnExactAfterDaysSpec : ChangeSpec := { name := "fnExactAfterDays", fn := fun _ => fun
  | [d1, d2] => { results := [.lit (.bool true)], args := [d1, d2] }
  | _ => none }
def fnExactAfterDaysRow : OpenClaim := { program := "ytnlpgbjalfgoiaa", sum := "88bec9f00416b73d883d744e8e09f7e8704eb53eeb8045701d266808bfc3d37a", func := "loop.example/g01017/laws.FnExactAfterDays", spec := "fnExactAfterDays", apart := false }
def FnExactAfterDaysSaid : Prop := fnExactAfterDaysRow.holds Try.pinned (OpenSpec.ofChange fnExactAfterDaysSpec)

/-- ITS FALSE NEIGHBOUR: 'it returns false'. Refute it at one input. -/
def fnExactAfterDaysWrong : ChangeSpec := { name := "fnExactAfterDays", fn := fun _ => fun
  | [d1, d2] => { results := [.lit (.bool false)], args := [d1, d2] }
  | _ => none }
def FnExactAfterDaysWrongFalsely : Prop := fnExactAfterDaysRow.holds Try.pinned (OpenSpec.ofChange fnExactAfterDaysWrong)

/-- 'laws.FnBatteries': WHATEVER THE INPUT: true; the input reads as it did. -/
def fnBatteriesSpec : ChangeSpec := { name := "fnBatteries", fn := fun _ => fun
  | [d] => { results := [.lit (.bool true)], args := [d] }
  | _ => none }
def fnBatteriesRow : OpenClaim := { program := "ytnlpgbjalfgoiaa", sum := "88bec9f00416b73d883d744e8e09f7e8704eb53eeb8045701d266808bfc3d37a", func := "loop.example/g01017/laws.FnBatteries", spec := "fnBatteries", apart := false }
def FnBatteriesSaid : Prop := fnBatteriesRow.holds Try.pinned (OpenSpec.ofChange fnBatteriesSpec)

/-- ITS FALSE NEIGHBOUR: 'it returns false'. Refute it at one input. -/
def fnBatteriesWrong : ChangeSpec := { name := "fnBatteries", fn := fun _ => fun
  | [d] => { results := [.lit (.bool false)], args := [d] }
  | _ => none }
def FnBatteriesWrongFalsely : Prop := fnBatteriesRow.holds Try.pinned (OpenSpec.ofChange fnBatteriesWrong)

/-- 'laws.FnSun': WHATEVER THE INPUT: true; the input reads as it did. -/
def fnSunSpec : ChangeSpec := { name := "fnSun", fn := fun _ => fun
  | [d] => { results := [.lit (.bool true)], args := [d] }
  | _ => none }
def fnSunRow : OpenClaim := { program := "ytnlpgbjalfgoiaa", sum := "88bec9f00416b73d883d744e8e09f7e8704eb53eeb8045701d266808bfc3d37a", func := "loop.example/g01017/laws.FnSun", spec := "fnSun", apart := false }
def FnSunSaid : Prop := fnSunRow.holds Try.pinned (OpenSpec.ofChange fnSunSpec)

/-- ITS FALSE NEIGHBOUR: 'it returns false'. Refute it at one input. -/
def fnSunWrong : ChangeSpec := { name := "fnSun", fn := fun _ => fun
  | [d] => { results := [.lit (.bool false)], args := [d] }
  | _ => none }
def FnSunWrongFalsely : Prop := fnSunRow.holds Try.pinned (OpenSpec.ofChange fnSunWrong)

/- THE SECOND FORM. 'bulk': how many values and letters a reading holds, each counted each time it is reached (what is shared counts as often as it is met; a slice's spare places count too). A statement '..UptoSaid' is the law's where the arguments, and the package variables that the reading takes, are together of bulk at most 1048576: NARROWER than '..Said'. Prove '..Said' where nothing that the law and all that it calls make is longer than what came in: it says more and counts as full. Else prove '..UptoSaid'. A law counts once. -/
mutual
def uptoBulk {H : Type} : DataW H → Nat
  | .lit (.string bytes) => bytes.length + 1
  | .lit _ => 1
  | .nil => 1
  | .ptr d => uptoBulk d + 1
  | .slice elems spare => uptoBulkAll elems + uptoBulkAll spare + 1
  | .agg parts => uptoBulkAll parts + 1
  | .iface _ d => uptoBulk d + 1
  | .map entries => uptoBulkEntries entries + 1
  | .held _ => 1
def uptoBulkAll {H : Type} : List (DataW H) → Nat
  | [] => 0
  | d :: r => uptoBulk d + uptoBulkAll r
def uptoBulkEntries {H : Type} : List (Lit × DataW H) → Nat
  | [] => 0
  | x :: r => uptoBulkEntry x + uptoBulkEntries r
def uptoBulkEntry {H : Type} : Lit × DataW H → Nat
  | (.string bytes, d) => bytes.length + uptoBulk d + 1
  | (_, d) => uptoBulk d + 1
 end
def uptoSmall : (H : Type) → List (DataW H) → Bool := fun _ ds => decide (uptoBulkAll ds ≤ 1048576)
def OpenSpec.upto (s : _root_.Go.ChangeSpec) : _root_.Go.OpenSpec := { _root_.Go.OpenSpec.ofChange s with cond := some uptoSmall }

/-- 'laws.FnExactIsBattery', WHERE WHAT IT READS IS OF BULK AT MOST 1048576: true; the input reads as it did. -/
def fnExactIsBatteryUptoRow : OpenClaim := { program := "ytnlpgbjalfgoiaa", sum := "88bec9f00416b73d883d744e8e09f7e8704eb53eeb8045701d266808bfc3d37a", func := "loop.example/g01017/laws.FnExactIsBattery", spec := "fnExactIsBattery", apart := false, narrowed := true }
def FnExactIsBatteryUptoSaid : Prop := fnExactIsBatteryUptoRow.holds Try.pinned (OpenSpec.upto fnExactIsBatterySpec)

/-- 'laws.FnExactLeastSun', WHERE WHAT IT READS IS OF BULK AT MOST 1048576: true; the input reads as it did. -/
def fnExactLeastSunUptoRow : OpenClaim := { program := "ytnlpgbjalfgoiaa", sum := "88bec9f00416b73d883d744e8e09f7e8704eb53eeb8045701d266808bfc3d37a", func := "loop.example/g01017/laws.FnExactLeastSun", spec := "fnExactLeastSun", apart := false, narrowed := true }
def FnExactLeastSunUptoSaid : Prop := fnExactLeastSunUptoRow.holds Try.pinned (OpenSpec.upto fnExactLeastSunSpec)

/-- 'laws.FnExactAreSunDays', WHERE WHAT IT READS IS OF BULK AT MOST 1048576: true; the input reads as it did. -/
def fnExactAreSunDaysUptoRow : OpenClaim := { program := "ytnlpgbjalfgoiaa", sum := "88bec9f00416b73d883d744e8e09f7e8704eb53eeb8045701d266808bfc3d37a", func := "loop.example/g01017/laws.FnExactAreSunDays", spec := "fnExactAreSunDays", apart := false, narrowed := true }
def FnExactAreSunDaysUptoSaid : Prop := fnExactAreSunDaysUptoRow.holds Try.pinned (OpenSpec.upto fnExactAreSunDaysSpec)

/-- 'laws.FnExactDarkDays', WHERE WHAT IT READS IS OF BULK AT MOST 1048576: true; the input reads as it did. -/
def fnExactDarkDaysUptoRow : OpenClaim := { program := "ytnlpgbjalfgoiaa", sum := "88bec9f00416b73d883d744e8e09f7e8704eb53eeb8045701d266808bfc3d37a", func := "loop.example/g01017/laws.FnExactDarkDays", spec := "fnExactDarkDays", apart := false, narrowed := true }
def FnExactDarkDaysUptoSaid : Prop := fnExactDarkDaysUptoRow.holds Try.pinned (OpenSpec.upto fnExactDarkDaysSpec)

/-- 'laws.FnExactAfterDay', WHERE WHAT IT READS IS OF BULK AT MOST 1048576: true; the input reads as it did. -/
def fnExactAfterDayUptoRow : OpenClaim := { program := "ytnlpgbjalfgoiaa", sum := "88bec9f00416b73d883d744e8e09f7e8704eb53eeb8045701d266808bfc3d37a", func := "loop.example/g01017/laws.FnExactAfterDay", spec := "fnExactAfterDay", apart := false, narrowed := true }
def FnExactAfterDayUptoSaid : Prop := fnExactAfterDayUptoRow.holds Try.pinned (OpenSpec.upto fnExactAfterDaySpec)

/-- 'laws.FnExactDarkestRun', WHERE WHAT IT READS IS OF BULK AT MOST 1048576: true; the input reads as it did. -/
def fnExactDarkestRunUptoRow : OpenClaim := { program := "ytnlpgbjalfgoiaa", sum := "88bec9f00416b73d883d744e8e09f7e8704eb53eeb8045701d266808bfc3d37a", func := "loop.example/g01017/laws.FnExactDarkestRun", spec := "fnExactDarkestRun", apart := false, narrowed := true }
def FnExactDarkestRunUptoSaid : Prop := fnExactDarkestRunUptoRow.holds Try.pinned (OpenSpec.upto fnExactDarkestRunSpec)

/-- 'laws.FnExactMeanSun', WHERE WHAT IT READS IS OF BULK AT MOST 1048576: true; the input reads as it did. -/
def fnExactMeanSunUptoRow : OpenClaim := { program := "ytnlpgbjalfgoiaa", sum := "88bec9f00416b73d883d744e8e09f7e8704eb53eeb8045701d266808bfc3d37a", func := "loop.example/g01017/laws.FnExactMeanSun", spec := "fnExactMeanSun", apart := false, narrowed := true }
def FnExactMeanSunUptoSaid : Prop := fnExactMeanSunUptoRow.holds Try.pinned (OpenSpec.upto fnExactMeanSunSpec)

/-- 'laws.FnExactLostSun', WHERE WHAT IT READS IS OF BULK AT MOST 1048576: true; the input reads as it did. -/
def fnExactLostSunUptoRow : OpenClaim := { program := "ytnlpgbjalfgoiaa", sum := "88bec9f00416b73d883d744e8e09f7e8704eb53eeb8045701d266808bfc3d37a", func := "loop.example/g01017/laws.FnExactLostSun", spec := "fnExactLostSun", apart := false, narrowed := true }
def FnExactLostSunUptoSaid : Prop := fnExactLostSunUptoRow.holds Try.pinned (OpenSpec.upto fnExactLostSunSpec)

/-- 'laws.FnExactLeastFull', WHERE WHAT IT READS IS OF BULK AT MOST 1048576: true; the input reads as it did. -/
def fnExactLeastFullUptoRow : OpenClaim := { program := "ytnlpgbjalfgoiaa", sum := "88bec9f00416b73d883d744e8e09f7e8704eb53eeb8045701d266808bfc3d37a", func := "loop.example/g01017/laws.FnExactLeastFull", spec := "fnExactLeastFull", apart := false, narrowed := true }
def FnExactLeastFullUptoSaid : Prop := fnExactLeastFullUptoRow.holds Try.pinned (OpenSpec.upto fnExactLeastFullSpec)

/-- 'laws.FnExactAfterDays', WHERE WHAT IT READS IS OF BULK AT MOST 1048576: true; the input reads as it did. -/
def fnExactAfterDaysUptoRow : OpenClaim := { program := "ytnlpgbjalfgoiaa", sum := "88bec9f00416b73d883d744e8e09f7e8704eb53eeb8045701d266808bfc3d37a", func := "loop.example/g01017/laws.FnExactAfterDays", spec := "fnExactAfterDays", apart := false, narrowed := true }
def FnExactAfterDaysUptoSaid : Prop := fnExactAfterDaysUptoRow.holds Try.pinned (OpenSpec.upto fnExactAfterDaysSpec)

/-- 'laws.FnBatteries', WHERE WHAT IT READS IS OF BULK AT MOST 1048576: true; the input reads as it did. -/
def fnBatteriesUptoRow : OpenClaim := { program := "ytnlpgbjalfgoiaa", sum := "88bec9f00416b73d883d744e8e09f7e8704eb53eeb8045701d266808bfc3d37a", func := "loop.example/g01017/laws.FnBatteries", spec := "fnBatteries", apart := false, narrowed := true }
def FnBatteriesUptoSaid : Prop := fnBatteriesUptoRow.holds Try.pinned (OpenSpec.upto fnBatteriesSpec)

/-- 'laws.FnSun', WHERE WHAT IT READS IS OF BULK AT MOST 1048576: true; the input reads as it did. -/
def fnSunUptoRow : OpenClaim := { program := "ytnlpgbjalfgoiaa", sum := "88bec9f00416b73d883d744e8e09f7e8704eb53eeb8045701d266808bfc3d37a", func := "loop.example/g01017/laws.FnSun", spec := "fnSun", apart := false, narrowed := true }
def FnSunUptoSaid : Prop := fnSunUptoRow.holds Try.pinned (OpenSpec.upto fnSunSpec)

end Rows
end Go.Proofs.Ytnlpgbjalfgoiaa
