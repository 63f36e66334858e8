/- The law FnExactAlarmText, proved for every input, the library's tables lying as its text lays them (the row's list, tied to the program's text): the row and its card. -/
import Derived.Test.YtgiphgfbfhaamaaDoorRow2
import Derived.Test.YtgiphgfbfhaamaaDoorTxtL
import Derived.Test.YtgiphgfbfhaamaaDoorCards
import Derived.Test.YtgiphgfbfhaamaaDoorTie
import Derived.WalkKit
import Derived.ProofKit
import Derived.OpenShut
import Derived.Deep.DeepHandedRow
import Derived.Lib.LaidTab
import Derived.Stop.LaidErr
import Derived.SevenTiedAt
namespace Go.Proofs.YtgiphgfbfhaamaaDoor
open Go.RowKit Go.ChangeShapes Go.WideShapes Go.ChangeAt
set_option linter.unusedVariables false
set_option linter.unusedSimpArgs false

theorem tab_of {W : World} (h : laidMetH Tryd.prog Rows.fnExactAlarmTextRow.laid W) : Lib.TabIs Tryd.prog W "internal/strconv.uint64pow10" .u64 Lib.pow10Tab := by
  have h1 : laidMet Tryd.prog [("math/bits.deBruijn32tab", Rows.laid_math_bits_deBruijn32tab), ("math/bits.deBruijn64tab", Rows.laid_math_bits_deBruijn64tab), ("internal/strconv.uint64pow10", Rows.laid_internal_strconv_uint64pow10)] W := h
  have h2 := laidMet.tail (laidMet.tail h1)
  exact Lib.tabIs_of_head (g := 0) (t := 65) (rest := []) (by kernel_rfl) (by kernel_rfl) Tryd.underlying65 Tryd.underlying57 (by kernel_rfl) (by kernel_rfl) h2

set_option maxRecDepth 100000 in
theorem alarmText_contract (H : Type) (enc : TypeId × Value → H) (W : World) (base : Nat) (args : Array Value) (ds gs : List (DataW H)) (before : List MemPlace)
    (hval0 : ∀ (j : Nat) t v, Tryd.f3.params[j]? = some t → args[j]? = some v → Value.okWide Tryd.prog W .any base t v)
    (hW : DataW.Whole enc Tryd.prog Tryd.f3.params.toList Rows.fnExactAlarmTextSpec.vars false W args.toList ds gs before) (hL : laidMetH Tryd.prog Rows.fnExactAlarmTextRow.laid W) :
    Calls Tryd.prog 3 args W fun e W' => ∃ v, e = .returned v ∧ Rows.fnExactAlarmTextSpec.post enc Tryd.prog Tryd.f3 false true false false W args v W' := by
  have hval : ∀ (j : Nat) t v, Tryd.f3.params[j]? = some t → args[j]? = some v → Value.okWide Tryd.prog W .any base t v := hval0
  have hW' := hW
  obtain ⟨p, q, hA0, hV, rfl, hfz, hnd⟩ := hW
  have hA : DataW.TrodAll enc Tryd.prog W 0 (fun _ => true) true Tryd.f3.params.toList args.toList ds p := hA0
  rw [Tryd.params3] at hA hval
  obtain ⟨v0, vs0, d0, ds0, p0, q0, hargs, rfl, rfl, h0, r0⟩ := trodAll_cons hA
  obtain ⟨rfl, rfl, rfl⟩ := trodAll_nil r0
  obtain rfl : args = #[v0] := by cases args; simp_all
  obtain ⟨rfl, rfl⟩ := trodVars_none hV
  clear hA0 hval0
  obtain ⟨x0_0, x0_1, A0, n0, c0, X0, x0_3, x0_4, rfl, hnc0, hcm0, hA0⟩ := open_alarm (hval 0 24 v0 rfl rfl) h0
  refine (walk_FnExactAlarmText x0_0 x0_1 A0 n0 c0 X0 x0_3 x0_4 W (Nat.le_trans hnc0 hcm0) hA0 (tab_of hL)).mono fun e W2 ⟨he, hb⟩ => ?_
  subst he
  exact ⟨_, rfl, law_post laidOut (by kernel_rfl) Tryd.underlying4 rfl rfl hW' rfl hb⟩

def tabCells (d : DataW Unit) : Array Value :=
  match d with
  | .agg xs => (xs.map fun x => match x with | .lit (.int k z) => Value.int k z | _ => undef).toArray
  | _ => #[]
def setTab (cs : Array Value) : Obj → Obj
  | .cells _ t frozen => .cells cs t frozen
  | o => o
noncomputable def alarmText_world (os : Os) : World :=
  { World.holding Tryd.prog os ⟨#[], #[], []⟩ with heap := (((World.holding Tryd.prog os ⟨#[], #[], []⟩).heap.modify 0 (setTab (tabCells Rows.laid_internal_strconv_uint64pow10))).modify 1 (setTab (tabCells Rows.laid_math_bits_deBruijn32tab))).modify 2 (setTab (tabCells Rows.laid_math_bits_deBruijn64tab)) }
def alarmText_arg : Value := .agg #[.int .i64 0, .int .i64 0, .slice none 0 0, .int .i64 0, .int .i64 0]
theorem alarmText_met (os : Os) : laidMet Tryd.prog Rows.fnExactAlarmTextRow.laid ((alarmText_world os).forCall (fun _ _ => 0) ⟨#[], #[alarmText_arg], []⟩).memory :=
  laidMet_of_run' 8 (by kernel_rfl) (by kernel_rfl)
theorem alarmText_reads (os : Os) {H : Type} (enc : TypeId × Value → H) : ∃ x, DataW.whole enc Tryd.prog ((alarmText_world os).forCall (fun _ _ => 0) ⟨#[], #[alarmText_arg], []⟩).memory Tryd.f3.params.toList Rows.fnExactAlarmTextSpec.vars false #[alarmText_arg].toList 8 = some x :=
  Option.isSome_iff_exists.1 (by kernel_rfl)

theorem alarmText_own : ownKnob Tryd.prog.godebug = none := by kernel_rfl
set_option maxRecDepth 100000 in
theorem alarmText_lifted (os : Os) (started : os.Started) (H : Type) (enc : TypeId × Value → H) (F : Stop.Interp) :
    ReturnsInHanded {} Tryd.checked os 3 .any ((OpenSpec.ofChange Rows.fnExactAlarmTextSpec).preRow enc Tryd.prog Tryd.f3 Rows.fnExactAlarmTextRow.domain false Rows.fnExactAlarmTextRow.laid) (((OpenSpec.ofChange Rows.fnExactAlarmTextSpec).at F).post enc Tryd.prog Tryd.f3 false true false false) := by
  obtain ⟨x, hx⟩ := alarmText_reads os enc
  refine returnsInHanded_of_row (C := Tryd.checked) (s := OpenSpec.ofChange Rows.fnExactAlarmTextSpec) alarmText_own started (by kernel_rfl) Tryd.func3
    (witness_row_at (enc := enc) (C := Tryd.checked) false (alarmText_world os) #[alarmText_arg] rfl (by kernel_rfl) (by kernel_rfl) (by kernel_rfl)
      (OpenSpec.preRow_of_cond 8 hx rfl (fun k hk => by cases hk) (by kernel_rfl) (alarmText_met os))) ?_
  intro W base args ds gs before hval hW _ _ _ hL _ _
  exact alarmText_contract H enc W base args ds gs before hval hW hL

theorem fnExactAlarmText_said : Rows.FnExactAlarmTextSaid :=
  OpenClaim.holds_of_cond 3 Tryd.f3 rfl rfl rfl rfl rfl rfl rfl ⟨rfl, rfl, rfl, rfl, rfl⟩ rfl rfl rfl rfl rfl (by kernel_rfl) Tryd.func3 (by kernel_rfl)
    (of_decide_eq_true (by kernel_rfl)) (by unfold Func.isWrapper; first | (rw [if_pos (by decide +kernel)]; kernel_rfl) | (rw [if_neg (by decide +kernel)]; exact ⟨rfl, rfl⟩))
    (fun os started H enc _ F => by rw [OpenClaim.pre_eq_preRow]; exact alarmText_lifted os started H enc F)

theorem alarmText_plain (f : FuncId) (fn : Func) (hf : Tryd.pinned.checked.prog.funcNamed "loop.example/g01017/laws.FnExactAlarmText" = some f) (hfn : Tryd.pinned.checked.prog.funcs[f]? = some fn) :
    false = Tryd.pinned.checked.prog.looks [] ∧ ∀ (j : Nat) t, fn.params[j]? = some t → Tryd.pinned.checked.prog.wantsStandIn t = false := by
  obtain rfl : f = 3 := Option.some.inj ((show Tryd.prog.funcNamed "loop.example/g01017/laws.FnExactAlarmText" = some 3 by kernel_rfl).symm.trans hf) |>.symm
  obtain rfl : fn = Tryd.f3 := (Option.some.inj (Tryd.func3.symm.trans hfn)).symm
  refine ⟨by kernel_rfl, fun j t ht => ?_⟩
  rw [Tryd.params3] at ht
  obtain rfl : t = 24 := by simpa using Array.mem_of_getElem? ht
  exact (show Tryd.prog.wantsStandIn 24 = false by kernel_rfl)

theorem fnExactAlarmText_proved : Rows.FnExactAlarmTextCardSaid :=
  Claim7.holds_tied_plain_at .later [] _ _ _ _ fnExactAlarmText_said (fun _ h => by cases h) (by kernel_rfl) (fun _ h => by cases h) fnExactAlarmText_row_tie rfl ⟨rfl, rfl⟩ (by kernel_rfl) rfl alarmText_plain (by kernel_rfl)
#print axioms fnExactAlarmText_proved
end Go.Proofs.YtgiphgfbfhaamaaDoor
