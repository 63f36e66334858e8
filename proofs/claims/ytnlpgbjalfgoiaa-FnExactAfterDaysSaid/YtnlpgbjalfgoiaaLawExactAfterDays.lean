/- The law FnExactAfterDays, proved for every input: the row, out of its walk. -/
import Derived.Test.YtnlpgbjalfgoiaaRow
import Derived.Test.YtnlpgbjalfgoiaaL22A
namespace Go.Proofs.Ytnlpgbjalfgoiaa
open Go.RowKit Go.ChangeShapes Go.WideShapes Go.ChangeAt Go.Deep
set_option linter.unusedVariables false
set_option linter.unusedSimpArgs false

set_option maxRecDepth 100000 in
theorem fnExactAfterDays_lifted (os : Os) (started : os.Started) (H : Type) (enc : TypeId × Value → H) :
    ReturnsInHanded {} Try.checked os 12 .any (Rows.fnExactAfterDaysSpec.pre6 enc Try.prog Try.f12 Rows.fnExactAfterDaysRow.domain false) (Rows.fnExactAfterDaysSpec.post enc Try.prog Try.f12 false true false false) := by
  refine returnsInHanded_of_change (C := Try.checked) own started (by kernel_rfl) Try.func12
    (ChangeSpec.witness6 (enc := enc) (C := Try.checked) false ⟨#[], #[.agg #[.int .i64 0, .int .i64 0, .int .i64 0, .int .i64 0], .slice none 0 0], []⟩ 8 (by kernel_rfl) (by kernel_rfl) (by kernel_rfl) (by kernel_rfl)) ?_
  intro W base args ds gs before hval0 hW hcnd _
  have hval : ∀ (j : Nat) t v, Try.f12.params[j]? = some t → args[j]? = some v → Value.okWide Try.prog W .any base t v := hval0
  have hW' := hW
  obtain ⟨p, q, hA0, hV, rfl, hfz, hnd⟩ := hW
  have hA : DataW.TrodAll enc Try.prog W 0 (fun _ => true) true Try.f12.params.toList args.toList ds p := hA0
  rw [Try.params12] at hA hval
  obtain ⟨v0, vs0, d0, ds0, p0, q0, hargs, rfl, rfl, h0, r0⟩ := trodAll_cons hA
  obtain ⟨v1, vs1, d1, ds1, p1, q1, rfl, rfl, rfl, h1, r1⟩ := trodAll_cons r0
  obtain ⟨rfl, rfl, rfl⟩ := trodAll_nil r1
  obtain rfl : args = #[v0, v1] := by cases args; simp_all
  obtain ⟨rfl, rfl⟩ := trodVars_none hV
  clear hA0 hval0
  obtain ⟨cs0, hv0, hl0, hx0⟩ := open_agg_ints Try.underlying23 (by kernel_rfl) (by kernel_rfl) (hval 0 23 v0 rfl rfl) h0
  obtain ⟨x0_0, x0_1, x0_2, x0_3, rfl⟩ := agg4 rfl hl0 hx0
  subst hv0
  obtain ⟨A1, n1, c1, X1, rfl, hnc1, hcm1, ha1, _⟩ := open_slice_ints Try.underlying30 Try.underlying72 (by kernel_rfl) (by kernel_rfl) (by decide) (hval 1 30 v1 rfl rfl) h1
  have hA1 : Arr W W.heap.size A1 n1 2 (iv X1) := ha1
  refine (walk_FnExactAfterDays x0_0 x0_1 x0_2 x0_3 A1 n1 c1 X1 W (Nat.le_trans hnc1 hcm1) hA1).mono fun e W2 ⟨he, hb⟩ => ?_
  subst he
  exact ⟨_, rfl, law_post laidOut (by kernel_rfl) Try.underlying4 rfl rfl hW' rfl hb⟩

theorem fnExactAfterDays_proved : Rows.FnExactAfterDaysSaid :=
  OpenClaim.holds_of_wide 12 Try.f12 rfl rfl rfl rfl rfl rfl rfl ⟨rfl, rfl, rfl, rfl, rfl⟩ rfl rfl rfl rfl rfl (by kernel_rfl) Try.func12 (by kernel_rfl)
    (of_decide_eq_true (by kernel_rfl)) (by unfold Func.isWrapper; first | (rw [if_pos (by decide +kernel)]; kernel_rfl) | (rw [if_neg (by decide +kernel)]; exact ⟨rfl, rfl⟩))
    (fun os started H enc _ => fnExactAfterDays_lifted os started H enc)
#print axioms fnExactAfterDays_proved
end Go.Proofs.Ytnlpgbjalfgoiaa
