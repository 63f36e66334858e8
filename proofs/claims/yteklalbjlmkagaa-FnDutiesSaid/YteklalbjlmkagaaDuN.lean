/- Chapter 17: a duty is put into a list: the program's AddDuty. -/
import Derived.Test.YteklalbjlmkagaaDuM
import Derived.Test.YteklalbjlmkagaaDuO
import Derived.Test.YteklalbjlmkagaaCells
import Derived.Deep.RegionHeld3
import Derived.Test.YteklalbjlmkagaaReg
import Derived.IntWalk
namespace Go.Proofs.Yteklalbjlmkagaa
open Go.RowKit
set_option linter.unusedVariables false
set_option linter.unusedSimpArgs false

theorem ced_of_row {w : World} {base g n cap : Nat} {L : List Du} (h : w.ownsRow base 39 4 (.slice (some ⟨g, 0, none⟩) n cap) n (L.flatMap dC)) (hl : L.length = n) : CeD (dg L) (cap * 4) w g n (fun p => p) ∧ base ≤ g ∧ n ≤ cap ∧ cap ≤ maxLen := by
  rcases h.2 with ⟨hv, _⟩ | ⟨gg, cp, cur, hv, hg, hh, hc, hm, hs, ht⟩
  · cases hv
  · injection hv with e1 _ e3
    injection e1 with e1
    injection e1 with e1 _ _
    subst e1 e3
    refine ⟨⟨cur, hh, hs, Nat.mul_le_mul_right _ hc, fun p j hp hj => ?_⟩, hg, hc, hm⟩
    have h1 : (cur.toList.take (n * 4))[p * 4 + j]? = (L.flatMap dC)[p * 4 + j]? := by rw [ht]
    rw [List.getElem?_take, if_pos (by omega), Array.getElem?_toList, flat_get (g := dC) (k := 4) (fun _ => rfl) (by omega : p < L.length) hj, dC_get L p j (by omega) hj] at h1
    exact h1
theorem row_of_ced {D : Nat → Du} {w : World} {base g n cap : Nat} {F : Nat → Nat} (h : CeD D (cap * 4) w g n F) (hb : base ≤ g) (hn : n ≤ cap) (hm : cap ≤ maxLen) : w.ownsRow base 39 4 (.slice (some ⟨g, 0, none⟩) n cap) n ((Ln (fun p => D (F p)) n).flatMap dC) := by
  obtain ⟨cur, h1, h2, h3, h4⟩ := h
  refine ⟨by rw [dC_len, Ln_len], .inr ⟨g, cap, cur, rfl, hb, h1, hn, hm, h2, ?_⟩⟩
  apply List.ext_getElem?
  intro i
  by_cases hi : i < n * 4
  · rw [List.getElem?_take, if_pos hi, Array.getElem?_toList]
    have hq : i / 4 < n := by omega
    have e0 : i = i / 4 * 4 + i % 4 := by omega
    have hil : i / 4 < (Ln (fun p => D (F p)) n).length := by rw [Ln_len]; exact hq
    have h5 := h4 (i / 4) (i % 4) hq (by omega)
    have h6 := flat_get (g := dC) (k := 4) (fun _ => rfl) hil (show i % 4 < 4 by omega)
    rw [← e0] at h5 h6
    rw [h5, h6, dC_get _ _ _ hil (by omega)]
    have e4 := dg_Ln (fun p => D (F p)) hq
    rcases (by omega : i % 4 = 0 ∨ i % 4 = 1 ∨ i % 4 = 2 ∨ i % 4 = 3) with e5 | e5 | e5 | e5 <;> rw [e5] <;> simp only [dv, e4]
  · rw [List.getElem?_eq_none (by rw [List.length_take]; omega), List.getElem?_eq_none (by rw [dC_len, Ln_len]; omega)]
set_option maxHeartbeats 2000000 in
theorem impl_copyD (g n c : Nat) (D : Nat → Du) (w : World) (hn : n ≤ 40) (hnc : n ≤ c) (ha : Arr w w.heap.size (some ⟨g, 0, none⟩) n 4 (dv D)) :
    Calls Try.prog 48 #[.slice (some ⟨g, 0, none⟩) n c] w fun e w' => ∃ V, e = .returned V ∧ Below w.heap.size w w' ∧ w'.ownsRow w.heap.size 39 4 V n ((Ln D n).flatMap dC) := by
  obtain ⟨i0, hi0, hy0, hy1, hy2⟩ := info_parts info_duty
  have HA := hide ha
  have hba : Below w.heap.size w (w.alloc (.cells #[] 39)) := below_al (Below.refl _ _)
  have HR0 := hide (row_new_at w w.heap.size w.heap.size 4 39 rfl (Nat.le_refl _))
  have HN := hide (show ∀ j u, ((Ln D n).flatMap dC)[j]? = some u → (w.alloc (.cells #[] 39)).cell? ((⟨g, 0, none⟩ : Addr).add j) = some u from fun j u hu => by rw [addr_atD, Nat.zero_add]; exact arr_news (HA.out.on hba) hu)
  clear ha
  go_enter Try.func48, Try.ntmps48
  go_wp2_with (at_builtin; refine wpList_append_far _ rfl _ _ 24 rfl w.heap.size 39 i0 (.agg #[.int .i64 0, .int .i64 0, .int .i64 0, .bool false]) 4 32 Try.underlying24 hi0 hy0 hy1 hy2 rfl (by decide) _ _ _ (by rfl) HR0.out ⟨g, 0, none⟩ n c ((Ln D n).flatMap dC) (by rfl) (by rw [dC_len, Ln_len]) HN.out (dCs_one _) (by unfold maxLen; omega) (by omega) (by simp) ?_; intro v2 w2 hown2 hgrow2 _)
  rw [Nat.zero_add, List.nil_append] at hown2
  have H1 := hide hown2
  have H2 := hide (hba.grown hgrow2 (by simp) (fun gg hg => by simp only [Value.ownBlock] at hg; injection hg with hg; omega))
  clear hown2 hgrow2 hba
  go_wp2
  go_returns
  exact ⟨v2, rfl, H2.out, H1.out⟩
theorem news_belowD {w w' : World} {b B : Nat} {xs : List Value} (h : ∀ j u, xs[j]? = some u → w.cell? ((⟨b, 0, none⟩ : Addr).add j) = some u) (hb : Below B w w') (hlt : b < B) : ∀ j u, xs[j]? = some u → w'.cell? ((⟨b, 0, none⟩ : Addr).add j) = some u := fun j u hu => by
  have := h j u hu
  rw [addr_atD] at this ⊢
  rw [hb.cell (p := ⟨b, _, none⟩) hlt]
  exact this
end Go.Proofs.Yteklalbjlmkagaa
