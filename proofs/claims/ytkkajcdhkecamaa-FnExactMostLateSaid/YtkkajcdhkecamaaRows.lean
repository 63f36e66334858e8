/-
  No cell of these rows narrows 'for every input' (looked for: loops, veiled, ifaces, maps, wideKeys, modest, calm, conditions, laid).
  DERIVED. THE GIVEN ROWS OF THIS SEAT. 12 by the template 'for every input the law returns true; each argument reads behind the call as it read before'; 0 by the template 'total and deterministic' (their statements: YtkkajcdhkecamaaTotals.lean).
  GIVEN WITH THE SEED: the statements are not yours to turn. If you find one false, say at which input.
  Laid BY PROGRAM, IN A SANDBOX (cutbox-rows.mjs): the forced cells as the released guide's own fill.sh prints them over the translation d0ca078860ba8add… (all of the seat's roots in one cut). By AI agents, Wed Nov 11 2026. No macro, syntax, notation, axiom, sorry.
-/
import Derived.Test.YtkkajcdhkecamaaChecked
import GoSem.Claim
import GoSem.ClaimJoined
import GoSem.ClaimMapViews
import Derived.JoinedTies
import Derived.KernelRfl
namespace Go.Proofs.Ytkkajcdhkecamaa
/- THE CELL 'sum', in the pinned program and in every row, IS THE sha256 OF THE DUMP (.gsa) THAT YtkkajcdhkecamaaProg.lean LOADS. Nothing in Lean hashes anything: it is a label: what it is worth is what the hold of that sum in a sandbox is worth. -/
noncomputable def Try.pinned : Pinned := { name := "ytkkajcdhkecamaa", sum := "d0ca078860ba8add18bb9006214909f9426c7ccbaae9a60496232880787e8674", checked := Try.checked }
namespace Rows
def none {H : Type} : Left H := { results := [], args := [] }

/-- 'laws.FnExactIsErrand': WHATEVER THE INPUT: true; the input reads as it did. -/
def fnExactIsErrandSpec : ChangeSpec := { name := "fnExactIsErrand", fn := fun _ => fun
  | [d] => { results := [.lit (.bool true)], args := [d] }
  | _ => none }
def fnExactIsErrandRow : OpenClaim := { program := "ytkkajcdhkecamaa", sum := "d0ca078860ba8add18bb9006214909f9426c7ccbaae9a60496232880787e8674", func := "loop.example/g01017/laws.FnExactIsErrand", spec := "fnExactIsErrand", apart := false }
def FnExactIsErrandSaid : Prop := fnExactIsErrandRow.holds Try.pinned (OpenSpec.ofChange fnExactIsErrandSpec)

/-- ITS FALSE NEIGHBOUR: 'it returns false'. Refute it at one input. -/
def fnExactIsErrandWrong : ChangeSpec := { name := "fnExactIsErrand", fn := fun _ => fun
  | [d] => { results := [.lit (.bool false)], args := [d] }
  | _ => none }
def FnExactIsErrandWrongFalsely : Prop := fnExactIsErrandRow.holds Try.pinned (OpenSpec.ofChange fnExactIsErrandWrong)

/-- 'laws.FnExactAreErrands': WHATEVER THE INPUT: true; the input reads as it did. -/
def fnExactAreErrandsSpec : ChangeSpec := { name := "fnExactAreErrands", fn := fun _ => fun
  | [d] => { results := [.lit (.bool true)], args := [d] }
  | _ => none }
def fnExactAreErrandsRow : OpenClaim := { program := "ytkkajcdhkecamaa", sum := "d0ca078860ba8add18bb9006214909f9426c7ccbaae9a60496232880787e8674", func := "loop.example/g01017/laws.FnExactAreErrands", spec := "fnExactAreErrands", unfollowed := true, recurses := true, apart := false }
def FnExactAreErrandsSaid : Prop := fnExactAreErrandsRow.holds Try.pinned (OpenSpec.ofChange fnExactAreErrandsSpec)

/-- ITS FALSE NEIGHBOUR: 'it returns false'. Refute it at one input. -/
def fnExactAreErrandsWrong : ChangeSpec := { name := "fnExactAreErrands", fn := fun _ => fun
  | [d] => { results := [.lit (.bool false)], args := [d] }
  | _ => none }
def FnExactAreErrandsWrongFalsely : Prop := fnExactAreErrandsRow.holds Try.pinned (OpenSpec.ofChange fnExactAreErrandsWrong)

/-- 'laws.FnExactHoursByRank': WHATEVER THE INPUT: true; the input reads as it did. -/
def fnExactHoursByRankSpec : ChangeSpec := { name := "fnExactHoursByRank", fn := fun _ => fun
  | [d] => { results := [.lit (.bool true)], args := [d] }
  | _ => none }
def fnExactHoursByRankRow : OpenClaim := { program := "ytkkajcdhkecamaa", sum := "d0ca078860ba8add18bb9006214909f9426c7ccbaae9a60496232880787e8674", func := "loop.example/g01017/laws.FnExactHoursByRank", spec := "fnExactHoursByRank", unfollowed := true, recurses := true, apart := false }
def FnExactHoursByRankSaid : Prop := fnExactHoursByRankRow.holds Try.pinned (OpenSpec.ofChange fnExactHoursByRankSpec)

/-- ITS FALSE NEIGHBOUR: 'it returns false'. Refute it at one input. -/
def fnExactHoursByRankWrong : ChangeSpec := { name := "fnExactHoursByRank", fn := fun _ => fun
  | [d] => { results := [.lit (.bool false)], args := [d] }
  | _ => none }
def FnExactHoursByRankWrongFalsely : Prop := fnExactHoursByRankRow.holds Try.pinned (OpenSpec.ofChange fnExactHoursByRankWrong)

/-- 'laws.FnExactIsPlan': WHATEVER THE INPUT: true; the input reads as it did. -/
def fnExactIsPlanSpec : ChangeSpec := { name := "fnExactIsPlan", fn := fun _ => fun
  | [d1, d2] => { results := [.lit (.bool true)], args := [d1, d2] }
  | _ => none }
def fnExactIsPlanRow : OpenClaim := { program := "ytkkajcdhkecamaa", sum := "d0ca078860ba8add18bb9006214909f9426c7ccbaae9a60496232880787e8674", func := "loop.example/g01017/laws.FnExactIsPlan", spec := "fnExactIsPlan", unfollowed := true, recurses := true, apart := false }
def FnExactIsPlanSaid : Prop := fnExactIsPlanRow.holds Try.pinned (OpenSpec.ofChange fnExactIsPlanSpec)

/-- ITS FALSE NEIGHBOUR: 'it returns false'. Refute it at one input. -/
def fnExactIsPlanWrong : ChangeSpec := { name := "fnExactIsPlan", fn := fun _ => fun
  | [d1, d2] => { results := [.lit (.bool false)], args := [d1, d2] }
  | _ => none }
def FnExactIsPlanWrongFalsely : Prop := fnExactIsPlanRow.holds Try.pinned (OpenSpec.ofChange fnExactIsPlanWrong)

/-- 'laws.FnExactMostLate': WHATEVER THE INPUT: true; the input reads as it did. -/
def fnExactMostLateSpec : ChangeSpec := { name := "fnExactMostLate", fn := fun _ => fun
  | [d1, d2] => { results := [.lit (.bool true)], args := [d1, d2] }
  | _ => none }
def fnExactMostLateRow : OpenClaim := { program := "ytkkajcdhkecamaa", sum := "d0ca078860ba8add18bb9006214909f9426c7ccbaae9a60496232880787e8674", func := "loop.example/g01017/laws.FnExactMostLate", spec := "fnExactMostLate", unfollowed := true, recurses := true, apart := false }
def FnExactMostLateSaid : Prop := fnExactMostLateRow.holds Try.pinned (OpenSpec.ofChange fnExactMostLateSpec)

/-- ITS FALSE NEIGHBOUR: 'it returns false'. Refute it at one input. -/
def fnExactMostLateWrong : ChangeSpec := { name := "fnExactMostLate", fn := fun _ => fun
  | [d1, d2] => { results := [.lit (.bool false)], args := [d1, d2] }
  | _ => none }
def FnExactMostLateWrongFalsely : Prop := fnExactMostLateRow.holds Try.pinned (OpenSpec.ofChange fnExactMostLateWrong)

/-- 'laws.FnExactEndsOf': WHATEVER THE INPUT: true; the input reads as it did. -/
def fnExactEndsOfSpec : ChangeSpec := { name := "fnExactEndsOf", fn := fun _ => fun
  | [d1, d2] => { results := [.lit (.bool true)], args := [d1, d2] }
  | _ => none }
def fnExactEndsOfRow : OpenClaim := { program := "ytkkajcdhkecamaa", sum := "d0ca078860ba8add18bb9006214909f9426c7ccbaae9a60496232880787e8674", func := "loop.example/g01017/laws.FnExactEndsOf", spec := "fnExactEndsOf", unfollowed := true, recurses := true, apart := false }
def FnExactEndsOfSaid : Prop := fnExactEndsOfRow.holds Try.pinned (OpenSpec.ofChange fnExactEndsOfSpec)

/-- ITS FALSE NEIGHBOUR: 'it returns false'. Refute it at one input. -/
def fnExactEndsOfWrong : ChangeSpec := { name := "fnExactEndsOf", fn := fun _ => fun
  | [d1, d2] => { results := [.lit (.bool false)], args := [d1, d2] }
  | _ => none }
def FnExactEndsOfWrongFalsely : Prop := fnExactEndsOfRow.holds Try.pinned (OpenSpec.ofChange fnExactEndsOfWrong)

/-- 'laws.FnExactLateOnes': WHATEVER THE INPUT: true; the input reads as it did. -/
def fnExactLateOnesSpec : ChangeSpec := { name := "fnExactLateOnes", fn := fun _ => fun
  | [d1, d2] => { results := [.lit (.bool true)], args := [d1, d2] }
  | _ => none }
def fnExactLateOnesRow : OpenClaim := { program := "ytkkajcdhkecamaa", sum := "d0ca078860ba8add18bb9006214909f9426c7ccbaae9a60496232880787e8674", func := "loop.example/g01017/laws.FnExactLateOnes", spec := "fnExactLateOnes", unfollowed := true, recurses := true, apart := false }
def FnExactLateOnesSaid : Prop := fnExactLateOnesRow.holds Try.pinned (OpenSpec.ofChange fnExactLateOnesSpec)

/-- ITS FALSE NEIGHBOUR: 'it returns false'. Refute it at one input. -/
def fnExactLateOnesWrong : ChangeSpec := { name := "fnExactLateOnes", fn := fun _ => fun
  | [d1, d2] => { results := [.lit (.bool false)], args := [d1, d2] }
  | _ => none }
def FnExactLateOnesWrongFalsely : Prop := fnExactLateOnesRow.holds Try.pinned (OpenSpec.ofChange fnExactLateOnesWrong)

/-- 'laws.FnExactByDeadline': WHATEVER THE INPUT: true; the input reads as it did. -/
def fnExactByDeadlineSpec : ChangeSpec := { name := "fnExactByDeadline", fn := fun _ => fun
  | [d] => { results := [.lit (.bool true)], args := [d] }
  | _ => none }
def fnExactByDeadlineRow : OpenClaim := { program := "ytkkajcdhkecamaa", sum := "d0ca078860ba8add18bb9006214909f9426c7ccbaae9a60496232880787e8674", func := "loop.example/g01017/laws.FnExactByDeadline", spec := "fnExactByDeadline", unfollowed := true, recurses := true, apart := false }
def FnExactByDeadlineSaid : Prop := fnExactByDeadlineRow.holds Try.pinned (OpenSpec.ofChange fnExactByDeadlineSpec)

/-- ITS FALSE NEIGHBOUR: 'it returns false'. Refute it at one input. -/
def fnExactByDeadlineWrong : ChangeSpec := { name := "fnExactByDeadline", fn := fun _ => fun
  | [d] => { results := [.lit (.bool false)], args := [d] }
  | _ => none }
def FnExactByDeadlineWrongFalsely : Prop := fnExactByDeadlineRow.holds Try.pinned (OpenSpec.ofChange fnExactByDeadlineWrong)

/-- 'laws.FnExactUrgentFirst': WHATEVER THE INPUT: true; the input reads as it did. -/
def fnExactUrgentFirstSpec : ChangeSpec := { name := "fnExactUrgentFirst", fn := fun _ => fun
  | [d1, d2] => { results := [.lit (.bool true)], args := [d1, d2] }
  | _ => none }
def fnExactUrgentFirstRow : OpenClaim := { program := "ytkkajcdhkecamaa", sum := "d0ca078860ba8add18bb9006214909f9426c7ccbaae9a60496232880787e8674", func := "loop.example/g01017/laws.FnExactUrgentFirst", spec := "fnExactUrgentFirst", unfollowed := true, recurses := true, apart := false }
def FnExactUrgentFirstSaid : Prop := fnExactUrgentFirstRow.holds Try.pinned (OpenSpec.ofChange fnExactUrgentFirstSpec)

/-- ITS FALSE NEIGHBOUR: 'it returns false'. Refute it at one input. -/
def fnExactUrgentFirstWrong : ChangeSpec := { name := "fnExactUrgentFirst", fn := fun _ => fun
  | [d1, d2] => { results := [.lit (.bool false)], args := [d1, d2] }
  | _ => none }
def FnExactUrgentFirstWrongFalsely : Prop := fnExactUrgentFirstRow.holds Try.pinned (OpenSpec.ofChange fnExactUrgentFirstWrong)

/-- 'laws.FnExactFewestLate': WHATEVER THE INPUT: true; the input reads as it did. -/
def fnExactFewestLateSpec : ChangeSpec := { name := "fnExactFewestLate", fn := fun _ => fun
  | [d] => { results := [.lit (.bool true)], args := [d] }
  | _ => none }
def fnExactFewestLateRow : OpenClaim := { program := "ytkkajcdhkecamaa", sum := "d0ca078860ba8add18bb9006214909f9426c7ccbaae9a60496232880787e8674", func := "loop.example/g01017/laws.FnExactFewestLate", spec := "fnExactFewestLate", unfollowed := true, recurses := true, apart := false }
def FnExactFewestLateSaid : Prop := fnExactFewestLateRow.holds Try.pinned (OpenSpec.ofChange fnExactFewestLateSpec)

/-- ITS FALSE NEIGHBOUR: 'it returns false'. Refute it at one input. -/
def fnExactFewestLateWrong : ChangeSpec := { name := "fnExactFewestLate", fn := fun _ => fun
  | [d] => { results := [.lit (.bool false)], args := [d] }
  | _ => none }
def FnExactFewestLateWrongFalsely : Prop := fnExactFewestLateRow.holds Try.pinned (OpenSpec.ofChange fnExactFewestLateWrong)

/-- 'laws.FnPlans': WHATEVER THE INPUT: true; the input reads as it did. -/
def fnPlansSpec : ChangeSpec := { name := "fnPlans", fn := fun _ => fun
  | [d] => { results := [.lit (.bool true)], args := [d] }
  | _ => none }
def fnPlansRow : OpenClaim := { program := "ytkkajcdhkecamaa", sum := "d0ca078860ba8add18bb9006214909f9426c7ccbaae9a60496232880787e8674", func := "loop.example/g01017/laws.FnPlans", spec := "fnPlans", unfollowed := true, recurses := true, apart := false }
def FnPlansSaid : Prop := fnPlansRow.holds Try.pinned (OpenSpec.ofChange fnPlansSpec)

/-- ITS FALSE NEIGHBOUR: 'it returns false'. Refute it at one input. -/
def fnPlansWrong : ChangeSpec := { name := "fnPlans", fn := fun _ => fun
  | [d] => { results := [.lit (.bool false)], args := [d] }
  | _ => none }
def FnPlansWrongFalsely : Prop := fnPlansRow.holds Try.pinned (OpenSpec.ofChange fnPlansWrong)

/-- 'laws.FnErrands': WHATEVER THE INPUT: true; the input reads as it did. -/
def fnErrandsSpec : ChangeSpec := { name := "fnErrands", fn := fun _ => fun
  | [d] => { results := [.lit (.bool true)], args := [d] }
  | _ => none }
def fnErrandsRow : OpenClaim := { program := "ytkkajcdhkecamaa", sum := "d0ca078860ba8add18bb9006214909f9426c7ccbaae9a60496232880787e8674", func := "loop.example/g01017/laws.FnErrands", spec := "fnErrands", unfollowed := true, recurses := true, apart := false }
def FnErrandsSaid : Prop := fnErrandsRow.holds Try.pinned (OpenSpec.ofChange fnErrandsSpec)

/-- ITS FALSE NEIGHBOUR: 'it returns false'. Refute it at one input. -/
def fnErrandsWrong : ChangeSpec := { name := "fnErrands", fn := fun _ => fun
  | [d] => { results := [.lit (.bool false)], args := [d] }
  | _ => none }
def FnErrandsWrongFalsely : Prop := fnErrandsRow.holds Try.pinned (OpenSpec.ofChange fnErrandsWrong)

/- THE SECOND FORM. 'bulk': how many values and letters a reading holds, each counted each time it is reached (what is shared counts as often as it is met; a slice's spare places count too). A statement '..UptoSaid' is the law's where the arguments, and the package variables that the reading takes, are together of bulk at most 1048576: NARROWER than '..Said'. Prove '..Said' where nothing that the law and all that it calls make is longer than what came in: it says more and counts as full. Else prove '..UptoSaid'. A law counts once. -/
mutual
def uptoBulk {H : Type} : DataW H → Nat
  | .lit (.string bytes) => bytes.length + 1
  | .lit _ => 1
  | .nil => 1
  | .ptr d => uptoBulk d + 1
  | .slice elems spare => uptoBulkAll elems + uptoBulkAll spare + 1
  | .agg parts => uptoBulkAll parts + 1
  | .iface _ d => uptoBulk d + 1
  | .map entries => uptoBulkEntries entries + 1
  | .held _ => 1
def uptoBulkAll {H : Type} : List (DataW H) → Nat
  | [] => 0
  | d :: r => uptoBulk d + uptoBulkAll r
def uptoBulkEntries {H : Type} : List (Lit × DataW H) → Nat
  | [] => 0
  | x :: r => uptoBulkEntry x + uptoBulkEntries r
def uptoBulkEntry {H : Type} : Lit × DataW H → Nat
  | (.string bytes, d) => bytes.length + uptoBulk d + 1
  | (_, d) => uptoBulk d + 1
 end
def uptoSmall : (H : Type) → List (DataW H) → Bool := fun _ ds => decide (uptoBulkAll ds ≤ 1048576)
def OpenSpec.upto (s : _root_.Go.ChangeSpec) : _root_.Go.OpenSpec := { _root_.Go.OpenSpec.ofChange s with cond := some uptoSmall }

/-- 'laws.FnExactIsErrand', WHERE WHAT IT READS IS OF BULK AT MOST 1048576: true; the input reads as it did. -/
def fnExactIsErrandUptoRow : OpenClaim := { program := "ytkkajcdhkecamaa", sum := "d0ca078860ba8add18bb9006214909f9426c7ccbaae9a60496232880787e8674", func := "loop.example/g01017/laws.FnExactIsErrand", spec := "fnExactIsErrand", apart := false, narrowed := true }
def FnExactIsErrandUptoSaid : Prop := fnExactIsErrandUptoRow.holds Try.pinned (OpenSpec.upto fnExactIsErrandSpec)

/-- 'laws.FnExactAreErrands', WHERE WHAT IT READS IS OF BULK AT MOST 1048576: true; the input reads as it did. -/
def fnExactAreErrandsUptoRow : OpenClaim := { program := "ytkkajcdhkecamaa", sum := "d0ca078860ba8add18bb9006214909f9426c7ccbaae9a60496232880787e8674", func := "loop.example/g01017/laws.FnExactAreErrands", spec := "fnExactAreErrands", unfollowed := true, recurses := true, apart := false, narrowed := true }
def FnExactAreErrandsUptoSaid : Prop := fnExactAreErrandsUptoRow.holds Try.pinned (OpenSpec.upto fnExactAreErrandsSpec)

/-- 'laws.FnExactHoursByRank', WHERE WHAT IT READS IS OF BULK AT MOST 1048576: true; the input reads as it did. -/
def fnExactHoursByRankUptoRow : OpenClaim := { program := "ytkkajcdhkecamaa", sum := "d0ca078860ba8add18bb9006214909f9426c7ccbaae9a60496232880787e8674", func := "loop.example/g01017/laws.FnExactHoursByRank", spec := "fnExactHoursByRank", unfollowed := true, recurses := true, apart := false, narrowed := true }
def FnExactHoursByRankUptoSaid : Prop := fnExactHoursByRankUptoRow.holds Try.pinned (OpenSpec.upto fnExactHoursByRankSpec)

/-- 'laws.FnExactIsPlan', WHERE WHAT IT READS IS OF BULK AT MOST 1048576: true; the input reads as it did. -/
def fnExactIsPlanUptoRow : OpenClaim := { program := "ytkkajcdhkecamaa", sum := "d0ca078860ba8add18bb9006214909f9426c7ccbaae9a60496232880787e8674", func := "loop.example/g01017/laws.FnExactIsPlan", spec := "fnExactIsPlan", unfollowed := true, recurses := true, apart := false, narrowed := true }
def FnExactIsPlanUptoSaid : Prop := fnExactIsPlanUptoRow.holds Try.pinned (OpenSpec.upto fnExactIsPlanSpec)

/-- 'laws.FnExactMostLate', WHERE WHAT IT READS IS OF BULK AT MOST 1048576: true; the input reads as it did. -/
def fnExactMostLateUptoRow : OpenClaim := { program := "ytkkajcdhkecamaa", sum := "d0ca078860ba8add18bb9006214909f9426c7ccbaae9a60496232880787e8674", func := "loop.example/g01017/laws.FnExactMostLate", spec := "fnExactMostLate", unfollowed := true, recurses := true, apart := false, narrowed := true }
def FnExactMostLateUptoSaid : Prop := fnExactMostLateUptoRow.holds Try.pinned (OpenSpec.upto fnExactMostLateSpec)

/-- 'laws.FnExactEndsOf', WHERE WHAT IT READS IS OF BULK AT MOST 1048576: true; the input reads as it did. -/
def fnExactEndsOfUptoRow : OpenClaim := { program := "ytkkajcdhkecamaa", sum := "d0ca078860ba8add18bb9006214909f9426c7ccbaae9a60496232880787e8674", func := "loop.example/g01017/laws.FnExactEndsOf", spec := "fnExactEndsOf", unfollowed := true, recurses := true, apart := false, narrowed := true }
def FnExactEndsOfUptoSaid : Prop := fnExactEndsOfUptoRow.holds Try.pinned (OpenSpec.upto fnExactEndsOfSpec)

/-- 'laws.FnExactLateOnes', WHERE WHAT IT READS IS OF BULK AT MOST 1048576: true; the input reads as it did. -/
def fnExactLateOnesUptoRow : OpenClaim := { program := "ytkkajcdhkecamaa", sum := "d0ca078860ba8add18bb9006214909f9426c7ccbaae9a60496232880787e8674", func := "loop.example/g01017/laws.FnExactLateOnes", spec := "fnExactLateOnes", unfollowed := true, recurses := true, apart := false, narrowed := true }
def FnExactLateOnesUptoSaid : Prop := fnExactLateOnesUptoRow.holds Try.pinned (OpenSpec.upto fnExactLateOnesSpec)

/-- 'laws.FnExactByDeadline', WHERE WHAT IT READS IS OF BULK AT MOST 1048576: true; the input reads as it did. -/
def fnExactByDeadlineUptoRow : OpenClaim := { program := "ytkkajcdhkecamaa", sum := "d0ca078860ba8add18bb9006214909f9426c7ccbaae9a60496232880787e8674", func := "loop.example/g01017/laws.FnExactByDeadline", spec := "fnExactByDeadline", unfollowed := true, recurses := true, apart := false, narrowed := true }
def FnExactByDeadlineUptoSaid : Prop := fnExactByDeadlineUptoRow.holds Try.pinned (OpenSpec.upto fnExactByDeadlineSpec)

/-- 'laws.FnExactUrgentFirst', WHERE WHAT IT READS IS OF BULK AT MOST 1048576: true; the input reads as it did. -/
def fnExactUrgentFirstUptoRow : OpenClaim := { program := "ytkkajcdhkecamaa", sum := "d0ca078860ba8add18bb9006214909f9426c7ccbaae9a60496232880787e8674", func := "loop.example/g01017/laws.FnExactUrgentFirst", spec := "fnExactUrgentFirst", unfollowed := true, recurses := true, apart := false, narrowed := true }
def FnExactUrgentFirstUptoSaid : Prop := fnExactUrgentFirstUptoRow.holds Try.pinned (OpenSpec.upto fnExactUrgentFirstSpec)

/-- 'laws.FnExactFewestLate', WHERE WHAT IT READS IS OF BULK AT MOST 1048576: true; the input reads as it did. -/
def fnExactFewestLateUptoRow : OpenClaim := { program := "ytkkajcdhkecamaa", sum := "d0ca078860ba8add18bb9006214909f9426c7ccbaae9a60496232880787e8674", func := "loop.example/g01017/laws.FnExactFewestLate", spec := "fnExactFewestLate", unfollowed := true, recurses := true, apart := false, narrowed := true }
def FnExactFewestLateUptoSaid : Prop := fnExactFewestLateUptoRow.holds Try.pinned (OpenSpec.upto fnExactFewestLateSpec)

/-- 'laws.FnPlans', WHERE WHAT IT READS IS OF BULK AT MOST 1048576: true; the input reads as it did. -/
def fnPlansUptoRow : OpenClaim := { program := "ytkkajcdhkecamaa", sum := "d0ca078860ba8add18bb9006214909f9426c7ccbaae9a60496232880787e8674", func := "loop.example/g01017/laws.FnPlans", spec := "fnPlans", unfollowed := true, recurses := true, apart := false, narrowed := true }
def FnPlansUptoSaid : Prop := fnPlansUptoRow.holds Try.pinned (OpenSpec.upto fnPlansSpec)

/-- 'laws.FnErrands', WHERE WHAT IT READS IS OF BULK AT MOST 1048576: true; the input reads as it did. -/
def fnErrandsUptoRow : OpenClaim := { program := "ytkkajcdhkecamaa", sum := "d0ca078860ba8add18bb9006214909f9426c7ccbaae9a60496232880787e8674", func := "loop.example/g01017/laws.FnErrands", spec := "fnErrands", unfollowed := true, recurses := true, apart := false, narrowed := true }
def FnErrandsUptoSaid : Prop := fnErrandsUptoRow.holds Try.pinned (OpenSpec.upto fnErrandsSpec)

end Rows
end Go.Proofs.Ytkkajcdhkecamaa
