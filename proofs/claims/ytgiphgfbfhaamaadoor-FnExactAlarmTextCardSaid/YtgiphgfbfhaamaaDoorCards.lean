/-
  DERIVED. GIVEN WITH THE SEED: THE CARDS: each row of YtgiphgfbfhaamaaDoorRows.lean that lists a variable, with what it lists TIED to the program's text (the seventh form; the later family's looks); each row that meets fmt, with fmt's text TOLD by the authors' own Lean function (tested against real Go, not proved from fmt's source: count such statements apart). THE CARD IS WHAT COUNTS. Prove the row's statement (the work); the ties are given (YtgiphgfbfhaamaaDoorTie.lean); close each card by the builder's one call (the guide's Derived/Test/ToyasCard.lean, 'card_holds'). Laid BY PROGRAM, IN A SANDBOX (cutbox-door.mjs). By AI agents, Wed Nov 11 2026. No macro, syntax, notation, axiom, sorry.
-/
import Derived.Test.YtgiphgfbfhaamaaDoorRows
import GoSem.ClaimSeven
namespace Go.Proofs.YtgiphgfbfhaamaaDoor
namespace Rows

/-- THE TIED CARD OF 'laws.FnExactAlarmText'. -/
def fnExactAlarmTextCard : Claim7 := { stood := { row := fnExactAlarmTextRow, standIns := [], harness := (true, "51185dd1450cd88ea2a5d520ac6c38dcd0f1817c4c30585311bb8b161a91f085"), looks := false }, kinds := [], alts := [], laidByText := true, laidKinds := [.data, .data, .data], laidTests := true, laidLooks := .later }
def FnExactAlarmTextCardSaid : Prop := Claim7.holds Tryd.pinned (.plain (OpenSpec.ofChange fnExactAlarmTextSpec)) fnExactAlarmTextCard

/-- THE SECOND FORM's CARD OF 'laws.FnExactAlarmText'. -/
def fnExactAlarmTextUptoCard : Claim7 := { stood := { row := fnExactAlarmTextUptoRow, standIns := [], harness := (true, "51185dd1450cd88ea2a5d520ac6c38dcd0f1817c4c30585311bb8b161a91f085"), looks := false }, kinds := [], alts := [], laidByText := true, laidKinds := [.data, .data, .data], laidTests := true, laidLooks := .later }
def FnExactAlarmTextUptoCardSaid : Prop := Claim7.holds Tryd.pinned (.plain (OpenSpec.upto fnExactAlarmTextSpec)) fnExactAlarmTextUptoCard
end Rows
end Go.Proofs.YtgiphgfbfhaamaaDoor
