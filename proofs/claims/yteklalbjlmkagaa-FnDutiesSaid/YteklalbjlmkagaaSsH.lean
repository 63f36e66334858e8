/- A [][]int of pairs: the helpers of the laws (equal, marked, held). -/
import Derived.Test.YteklalbjlmkagaaMps
import Derived.Test.YteklalbjlmkagaaTyInt
namespace Go.Proofs.Yteklalbjlmkagaa
open Go.RowKit
set_option linter.unusedVariables false
set_option linter.unusedSimpArgs false

def pcel (ps : List (Int × Int)) (i : Nat) (j k : Nat) : Int := if j = 0 then (ps.getD i (0, 0)).1 else (ps.getD i (0, 0)).2
theorem MPs.form {w : World} {base : Nat} {v : Value} {ps : List (Int × Int)} {gs : List Nat} (h : MPs w base v ps gs) : ∃ A c, v = .slice A ps.length c ∧ ps.length ≤ c ∧ Arr w w.heap.size A ps.length 1 (fun i _ => .slice (some ⟨gs.getD i 0, 0, none⟩) 2 2) := by
  rcases h.row.2 with ⟨rfl, hn⟩ | ⟨g, cap, cur, rfl, hg, hb, hc, _⟩
  · exact ⟨none, 0, by rw [hn], by omega, fun hlt => absurd hlt (by omega)⟩
  · refine ⟨_, cap, rfl, hc, fun hlt => ⟨g, 0, rfl, Blk.lt hb, fun i j hi hj => ?_⟩⟩
    obtain rfl : j = 0 := by omega
    have hl := h.len
    have := h.row.cells (g := g) rfl i (.slice (some ⟨gs.getD i 0, 0, none⟩) 2 2) (by simp [gl, List.getD, List.getElem?_eq_getElem (by omega : i < gs.length)])
    rw [← this]
    congr 1
    unfold Addr.add
    by_cases e : i = 0
    · simp [e]
    · simp [e]
theorem MPs.inner {w : World} {base : Nat} {v : Value} {ps : List (Int × Int)} {gs : List Nat} (h : MPs w base v ps gs) {i : Nat} (hi : i < ps.length) : Own w base 3 1 (.slice (some ⟨gs.getD i 0, 0, none⟩) 2 2) 2 (iv (pcel ps i)) := by
  have hl := h.len
  refine .inr ⟨gs.getD i 0, 2, _, rfl, (h.lo _ (gs_in (by omega))).1, h.blk i hi, Nat.le_refl _, by unfold maxLen; omega, by simp, fun a b ha hb => ?_⟩
  rcases (by omega : (a = 0 ∨ a = 1) ∧ b = 0) with ⟨rfl | rfl, rfl⟩ <;> simp [iv, pcel]
/-- One inner list marked. -/
theorem MPs.put {w w' : World} {base q : Nat} {v : Value} {ps : List (Int × Int)} {gs : List Nat} {x y : Int} (h : MPs w base v ps gs) (hq : q < ps.length) (hg : w.grownBy w' (some (gs.getD q 0))) (hb : Blk w' (gs.getD q 0) 3 #[.int .i64 x, .int .i64 y]) : MPs w' base v (ps.set q (x, y)) gs := by
  obtain ⟨h1, h2, h3, h4, h5⟩ := h
  have hs := hg.size
  have hqg : gs.getD q 0 ∈ gs := gs_in (by omega)
  refine ⟨by simp [h1], ?_, fun b hbm => ⟨(h3 b hbm).1, by have := (h3 b hbm).2.1; omega, (h3 b hbm).2.2⟩, h4, fun i hi => ?_⟩
  · rw [List.length_set]
    exact h2.kept hg (.inr (h3 _ hqg).2.2)
  · rw [List.length_set] at hi
    by_cases e : i = q
    · subst e
      simpa [List.getD, List.getElem?_set, hi] using hb
    · have e1 : (ps.set q (x, y)).getD i (0, 0) = ps.getD i (0, 0) := by simp [List.getD, List.getElem?_set, Ne.symm e]
      rw [e1]
      have hne : gs.getD i 0 ≠ gs.getD q 0 := by
        intro e2
        have i1 : i < gs.length := by omega
        have q1 : q < gs.length := by omega
        simp only [List.getD, List.getElem?_eq_getElem i1, List.getElem?_eq_getElem q1, Option.getD_some] at e2
        rcases Nat.lt_or_gt_of_ne e with hlt | hlt
        · exact List.pairwise_iff_getElem.1 h4 i q i1 q1 hlt e2
        · exact List.pairwise_iff_getElem.1 h4 q i q1 i1 hlt e2.symm
      exact (hg.block _ (h3 _ (gs_in (by omega))).2.1 (fun e2 => hne (by injection e2))).trans (h5 i hi)
end Go.Proofs.Yteklalbjlmkagaa
