/-
  No cell of these rows narrows 'for every input' (looked for: loops, veiled, ifaces, maps, wideKeys, modest, calm, conditions, laid).
  DERIVED. THE GIVEN ROWS OF THIS SEAT. 5 by the template 'for every input the law returns true; each argument reads behind the call as it read before'; 0 by the template 'total and deterministic' (their statements: YtfdgnjnnbhelgaaTotals.lean).
  GIVEN WITH THE SEED: the statements are not yours to turn. If you find one false, say at which input.
  Laid BY PROGRAM, IN A SANDBOX (cutbox-rows.mjs): the forced cells as the released guide's own fill.sh prints them over the translation 401975901fb31b60… (all of the seat's roots in one cut). By AI agents, Wed Nov 11 2026. No macro, syntax, notation, axiom, sorry.
-/
import Derived.Test.YtfdgnjnnbhelgaaChecked
import GoSem.Claim
import GoSem.ClaimJoined
import GoSem.ClaimMapViews
import Derived.JoinedTies
import Derived.KernelRfl
namespace Go.Proofs.Ytfdgnjnnbhelgaa
/- THE CELL 'sum', in the pinned program and in every row, IS THE sha256 OF THE DUMP (.gsa) THAT YtfdgnjnnbhelgaaProg.lean LOADS. Nothing in Lean hashes anything: it is a label: what it is worth is what the hold of that sum in a sandbox is worth. -/
noncomputable def Try.pinned : Pinned := { name := "ytfdgnjnnbhelgaa", sum := "401975901fb31b60b684960cda326569fca4d073c7ee46233da3cd4c67a7293a", checked := Try.checked }
namespace Rows
def none {H : Type} : Left H := { results := [], args := [] }

/-- 'laws.FnBatteries': WHATEVER THE INPUT: true; the input reads as it did. -/
def fnBatteriesSpec : ChangeSpec := { name := "fnBatteries", fn := fun _ => fun
  | [d] => { results := [.lit (.bool true)], args := [d] }
  | _ => none }
def fnBatteriesRow : OpenClaim := { program := "ytfdgnjnnbhelgaa", sum := "401975901fb31b60b684960cda326569fca4d073c7ee46233da3cd4c67a7293a", func := "loop.example/g01017/laws.FnBatteries", spec := "fnBatteries", apart := false }
def FnBatteriesSaid : Prop := fnBatteriesRow.holds Try.pinned (OpenSpec.ofChange fnBatteriesSpec)

/-- ITS FALSE NEIGHBOUR: 'it returns false'. Refute it at one input. -/
def fnBatteriesWrong : ChangeSpec := { name := "fnBatteries", fn := fun _ => fun
  | [d] => { results := [.lit (.bool false)], args := [d] }
  | _ => none }
def FnBatteriesWrongFalsely : Prop := fnBatteriesRow.holds Try.pinned (OpenSpec.ofChange fnBatteriesWrong)

/-- 'laws.FnSun': WHATEVER THE INPUT: true; the input reads as it did. -/
def fnSunSpec : ChangeSpec := { name := "fnSun", fn := fun _ => fun
  | [d] => { results := [.lit (.bool true)], args := [d] }
  | _ => none }
def fnSunRow : OpenClaim := { program := "ytfdgnjnnbhelgaa", sum := "401975901fb31b60b684960cda326569fca4d073c7ee46233da3cd4c67a7293a", func := "loop.example/g01017/laws.FnSun", spec := "fnSun", apart := false }
def FnSunSaid : Prop := fnSunRow.holds Try.pinned (OpenSpec.ofChange fnSunSpec)

/-- ITS FALSE NEIGHBOUR: 'it returns false'. Refute it at one input. -/
def fnSunWrong : ChangeSpec := { name := "fnSun", fn := fun _ => fun
  | [d] => { results := [.lit (.bool false)], args := [d] }
  | _ => none }
def FnSunWrongFalsely : Prop := fnSunRow.holds Try.pinned (OpenSpec.ofChange fnSunWrong)

/-- 'laws.FnExactFewestLate': WHATEVER THE INPUT: true; the input reads as it did. -/
def fnExactFewestLateSpec : ChangeSpec := { name := "fnExactFewestLate", fn := fun _ => fun
  | [d] => { results := [.lit (.bool true)], args := [d] }
  | _ => none }
def fnExactFewestLateRow : OpenClaim := { program := "ytfdgnjnnbhelgaa", sum := "401975901fb31b60b684960cda326569fca4d073c7ee46233da3cd4c67a7293a", func := "loop.example/g01017/laws.FnExactFewestLate", spec := "fnExactFewestLate", unfollowed := true, recurses := true, apart := false }
def FnExactFewestLateSaid : Prop := fnExactFewestLateRow.holds Try.pinned (OpenSpec.ofChange fnExactFewestLateSpec)

/-- ITS FALSE NEIGHBOUR: 'it returns false'. Refute it at one input. -/
def fnExactFewestLateWrong : ChangeSpec := { name := "fnExactFewestLate", fn := fun _ => fun
  | [d] => { results := [.lit (.bool false)], args := [d] }
  | _ => none }
def FnExactFewestLateWrongFalsely : Prop := fnExactFewestLateRow.holds Try.pinned (OpenSpec.ofChange fnExactFewestLateWrong)

/-- 'laws.FnPlans': WHATEVER THE INPUT: true; the input reads as it did. -/
def fnPlansSpec : ChangeSpec := { name := "fnPlans", fn := fun _ => fun
  | [d] => { results := [.lit (.bool true)], args := [d] }
  | _ => none }
def fnPlansRow : OpenClaim := { program := "ytfdgnjnnbhelgaa", sum := "401975901fb31b60b684960cda326569fca4d073c7ee46233da3cd4c67a7293a", func := "loop.example/g01017/laws.FnPlans", spec := "fnPlans", unfollowed := true, recurses := true, apart := false }
def FnPlansSaid : Prop := fnPlansRow.holds Try.pinned (OpenSpec.ofChange fnPlansSpec)

/-- ITS FALSE NEIGHBOUR: 'it returns false'. Refute it at one input. -/
def fnPlansWrong : ChangeSpec := { name := "fnPlans", fn := fun _ => fun
  | [d] => { results := [.lit (.bool false)], args := [d] }
  | _ => none }
def FnPlansWrongFalsely : Prop := fnPlansRow.holds Try.pinned (OpenSpec.ofChange fnPlansWrong)

/-- 'laws.FnErrands': WHATEVER THE INPUT: true; the input reads as it did. -/
def fnErrandsSpec : ChangeSpec := { name := "fnErrands", fn := fun _ => fun
  | [d] => { results := [.lit (.bool true)], args := [d] }
  | _ => none }
def fnErrandsRow : OpenClaim := { program := "ytfdgnjnnbhelgaa", sum := "401975901fb31b60b684960cda326569fca4d073c7ee46233da3cd4c67a7293a", func := "loop.example/g01017/laws.FnErrands", spec := "fnErrands", unfollowed := true, recurses := true, apart := false }
def FnErrandsSaid : Prop := fnErrandsRow.holds Try.pinned (OpenSpec.ofChange fnErrandsSpec)

/-- ITS FALSE NEIGHBOUR: 'it returns false'. Refute it at one input. -/
def fnErrandsWrong : ChangeSpec := { name := "fnErrands", fn := fun _ => fun
  | [d] => { results := [.lit (.bool false)], args := [d] }
  | _ => none }
def FnErrandsWrongFalsely : Prop := fnErrandsRow.holds Try.pinned (OpenSpec.ofChange fnErrandsWrong)

/- THE SECOND FORM. 'bulk': how many values and letters a reading holds, each counted each time it is reached (what is shared counts as often as it is met; a slice's spare places count too). A statement '..UptoSaid' is the law's where the arguments, and the package variables that the reading takes, are together of bulk at most 1048576: NARROWER than '..Said'. Prove '..Said' where nothing that the law and all that it calls make is longer than what came in: it says more and counts as full. Else prove '..UptoSaid'. A law counts once. -/
mutual
def uptoBulk {H : Type} : DataW H → Nat
  | .lit (.string bytes) => bytes.length + 1
  | .lit _ => 1
  | .nil => 1
  | .ptr d => uptoBulk d + 1
  | .slice elems spare => uptoBulkAll elems + uptoBulkAll spare + 1
  | .agg parts => uptoBulkAll parts + 1
  | .iface _ d => uptoBulk d + 1
  | .map entries => uptoBulkEntries entries + 1
  | .held _ => 1
def uptoBulkAll {H : Type} : List (DataW H) → Nat
  | [] => 0
  | d :: r => uptoBulk d + uptoBulkAll r
def uptoBulkEntries {H : Type} : List (Lit × DataW H) → Nat
  | [] => 0
  | x :: r => uptoBulkEntry x + uptoBulkEntries r
def uptoBulkEntry {H : Type} : Lit × DataW H → Nat
  | (.string bytes, d) => bytes.length + uptoBulk d + 1
  | (_, d) => uptoBulk d + 1
 end
def uptoSmall : (H : Type) → List (DataW H) → Bool := fun _ ds => decide (uptoBulkAll ds ≤ 1048576)
def OpenSpec.upto (s : _root_.Go.ChangeSpec) : _root_.Go.OpenSpec := { _root_.Go.OpenSpec.ofChange s with cond := some uptoSmall }

/-- 'laws.FnBatteries', WHERE WHAT IT READS IS OF BULK AT MOST 1048576: true; the input reads as it did. -/
def fnBatteriesUptoRow : OpenClaim := { program := "ytfdgnjnnbhelgaa", sum := "401975901fb31b60b684960cda326569fca4d073c7ee46233da3cd4c67a7293a", func := "loop.example/g01017/laws.FnBatteries", spec := "fnBatteries", apart := false, narrowed := true }
def FnBatteriesUptoSaid : Prop := fnBatteriesUptoRow.holds Try.pinned (OpenSpec.upto fnBatteriesSpec)

/-- 'laws.FnSun', WHERE WHAT IT READS IS OF BULK AT MOST 1048576: true; the input reads as it did. -/
def fnSunUptoRow : OpenClaim := { program := "ytfdgnjnnbhelgaa", sum := "401975901fb31b60b684960cda326569fca4d073c7ee46233da3cd4c67a7293a", func := "loop.example/g01017/laws.FnSun", spec := "fnSun", apart := false, narrowed := true }
def FnSunUptoSaid : Prop := fnSunUptoRow.holds Try.pinned (OpenSpec.upto fnSunSpec)

/-- 'laws.FnExactFewestLate', WHERE WHAT IT READS IS OF BULK AT MOST 1048576: true; the input reads as it did. -/
def fnExactFewestLateUptoRow : OpenClaim := { program := "ytfdgnjnnbhelgaa", sum := "401975901fb31b60b684960cda326569fca4d073c7ee46233da3cd4c67a7293a", func := "loop.example/g01017/laws.FnExactFewestLate", spec := "fnExactFewestLate", unfollowed := true, recurses := true, apart := false, narrowed := true }
def FnExactFewestLateUptoSaid : Prop := fnExactFewestLateUptoRow.holds Try.pinned (OpenSpec.upto fnExactFewestLateSpec)

/-- 'laws.FnPlans', WHERE WHAT IT READS IS OF BULK AT MOST 1048576: true; the input reads as it did. -/
def fnPlansUptoRow : OpenClaim := { program := "ytfdgnjnnbhelgaa", sum := "401975901fb31b60b684960cda326569fca4d073c7ee46233da3cd4c67a7293a", func := "loop.example/g01017/laws.FnPlans", spec := "fnPlans", unfollowed := true, recurses := true, apart := false, narrowed := true }
def FnPlansUptoSaid : Prop := fnPlansUptoRow.holds Try.pinned (OpenSpec.upto fnPlansSpec)

/-- 'laws.FnErrands', WHERE WHAT IT READS IS OF BULK AT MOST 1048576: true; the input reads as it did. -/
def fnErrandsUptoRow : OpenClaim := { program := "ytfdgnjnnbhelgaa", sum := "401975901fb31b60b684960cda326569fca4d073c7ee46233da3cd4c67a7293a", func := "loop.example/g01017/laws.FnErrands", spec := "fnErrands", unfollowed := true, recurses := true, apart := false, narrowed := true }
def FnErrandsUptoSaid : Prop := fnErrandsUptoRow.holds Try.pinned (OpenSpec.upto fnErrandsSpec)

end Rows
end Go.Proofs.Ytfdgnjnnbhelgaa
