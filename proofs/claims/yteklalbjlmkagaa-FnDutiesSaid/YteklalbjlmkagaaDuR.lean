/- Chapter 17: who could have another duty: the program's side. -/
import Derived.Test.YteklalbjlmkagaaDuQ
import Derived.Test.YteklalbjlmkagaaDuF
namespace Go.Proofs.Yteklalbjlmkagaa
open Go.RowKit
set_option linter.unusedVariables false
set_option linter.unusedSimpArgs false

theorem take_yesD {L : List Nat} {P : Nat → Bool} {k : Nat} (hk : k < L.length) (hp : P (L.getD k 0) = true) : (L.take (k + 1)).filter P = (L.take k).filter P ++ [L.getD k 0] := by
  have e : L.getD k 0 = L[k] := by simp [List.getD, hk]
  rw [List.take_add_one, List.filter_append, List.getElem?_eq_getElem hk, e]
  rw [e] at hp
  simp [List.filter_cons, hp]
theorem take_noD {L : List Nat} {P : Nat → Bool} {k : Nat} (hk : k < L.length) (hp : P (L.getD k 0) = false) : (L.take (k + 1)).filter P = (L.take k).filter P := by
  have e : L.getD k 0 = L[k] := by simp [List.getD, hk]
  rw [List.take_add_one, List.filter_append, List.getElem?_eq_getElem hk]
  rw [e] at hp
  simp [List.filter_cons, hp]
theorem arr_rowN {w : World} {base n cap g : Nat} {L : List Nat} (h : w.ownsRow base 3 1 (.slice (some ⟨g, 0, none⟩) n cap) n (nl L)) (hl : L.length = n) : Arr w w.heap.size (some ⟨g, 0, none⟩) n 1 (iv fun p _ => (L.getD p 0 : Nat)) := by
  intro hn
  refine ⟨g, 0, rfl, (h.lt g rfl).2, fun i j hi hj => ?_⟩
  obtain rfl : j = 0 := by omega
  have h1 := h.cells (g := g) rfl i (.int .i64 (L.getD i 0 : Nat)) (by
    have e : L.getD i 0 = L[i]'(by omega) := by simp [List.getD, show i < L.length by omega]
    rw [e]
    simp [nl, show i < L.length by omega])
  rw [addr_atD] at h1
  have e0 : 0 + i * 1 + 0 = 0 + i := by omega
  rw [e0]; exact h1
set_option maxHeartbeats 2000000 in
set_option maxRecDepth 100000 in
theorem filter_free (bl bb be : Nat) (A : Option Addr) (n c : Nat) (L : List Nat) (P : Nat → Bool) (w : World) (hn : n ≤ 60) (hL : L.length = n) (ha : Arr w w.heap.size A n 1 (iv fun p _ => (L.getD p 0 : Nat)))
    (hF : ∀ (W : World) (k : Nat), k < n → Below w.heap.size w W → Calls Try.prog 44 #[.int .i64 (L.getD k 0 : Nat), .pointer (some ⟨bl, 0, none⟩), .pointer (some ⟨bb, 0, none⟩), .pointer (some ⟨be, 0, none⟩)] W fun e w' => e = .returned (.bool (P (L.getD k 0))) ∧ Below W.heap.size W w') :
    Calls Try.prog 43 #[.slice A n c, .func (.func 44) #[] #[.pointer (some ⟨bl, 0, none⟩), .pointer (some ⟨bb, 0, none⟩), .pointer (some ⟨be, 0, none⟩)]] w fun e w' => ∃ g cap m, e = .returned (.slice (some ⟨g, 0, none⟩) m cap) ∧ m = (L.filter P).length ∧ Below w.heap.size w w' ∧ w'.ownsRow w.heap.size 3 1 (.slice (some ⟨g, 0, none⟩) m cap) m (nl (L.filter P)) := by
  have hfa := frozen_al; have hfo := frozen_out
  obtain ⟨i0, hi0, hy0, hy1, hy2⟩ := info_parts info_int
  have HA := hide ha; have HF := hide hF; have HLL := hide hL
  clear ha hF hL
  go_enter Try.func43, Try.ntmps43
  go_wp2
  go_loopw [5, 11] (fun v y wr => ∃ (k g cap m : Nat), k ≤ n ∧ y = .int .i64 k ∧ v = .slice (some ⟨g, 0, none⟩) m cap ∧ m = ((L.take k).filter P).length ∧ m ≤ k ∧ Below w.heap.size w wr ∧ wr.ownsRow w.heap.size 3 1 (.slice (some ⟨g, 0, none⟩) m cap) m (nl ((L.take k).filter P))) (fun _ y _ => n - (intOf y).toNat)
  case atStart => exact ⟨0, _, _, 0, Nat.zero_le _, rfl, rfl, rfl, Nat.le_refl _, by go_grown, row_new_at _ _ _ _ _ rfl (Nat.le_refl _)⟩
  case round =>
    obtain ⟨k, g, cap, m, hk, rfl, rfl, hm, hmk, hbw, hown⟩ := hrel
    have HO := hide hown; have HM := hide hm
    clear hown hm
    by_cases hlt : k < n
    · obtain ⟨b, off, hA, hbb, hc⟩ := (HA.out.on hbw) (by omega)
      subst hA
      have c0 := hc k 0 hlt (by omega)
      simp only [Nat.add_zero, Nat.mul_one, iv] at c0
      obtain ⟨x, hx⟩ : ∃ x, L.getD k 0 = x := ⟨_, rfl⟩
      have HC := hide (HF.out wr k hlt hbw)
      rw [hx] at HC c0
      obtain ⟨u, hu⟩ : ∃ u, P x = u := ⟨_, rfl⟩
      rw [hu] at HC
      have HU := hide hu; have HX := hide hx
      have hlk : k < L.length := by rw [HLL.out]; exact hlt
      clear hc hu hx
      go_wp2_with fail
      refine HC.out.mono ?_
      rintro e w1 ⟨rfl, hb1⟩
      have hq1 := below_call hbw hb1
      have HO1 := hide (row_below HO.out hb1)
      have c0' := (hb1.cell (p := ⟨b, off + k, none⟩) hbb).trans c0
      have hbb1 : b < w1.heap.size := by have := hb1.size; omega
      clear HO HC hb1 c0
      cases u
      · have HS := hide (take_noD (P := P) hlk (by rw [HX.out]; exact HU.out))
        clear hlk
        go_wp2
        go_roundw
        case rel => exact ⟨k + 1, g, cap, m, by omega, by go_num, rfl, by rw [HS.out]; exact HM.out, by omega, hq1, by rw [HS.out]; exact HO1.out⟩
        case measure => simp [intOf]; omega
      · have HS := hide (take_yesD (P := P) hlk (by rw [HX.out]; exact HU.out))
        have hlt1 := HO1.out.lt
        have hs1 := hq1.size
        clear hlk
        go_wp2_with (at_builtin; refine wpList_append_far _ rfl _ _ 31 rfl w.heap.size 3 i0 (.int .i64 0) 1 8 Try.underlying31 hi0 hy0 hy1 hy2 rfl (by decide) _ _ _ (by rfl) (HO1.out.alloc _) ⟨w1.heap.size, 0, none⟩ 1 1 [.int .i64 (x : Int)] (by rfl) rfl (cell_one_at _ _ _ _ rfl) (by intro u hu; simp only [List.mem_singleton] at hu; subst hu; rfl) (by unfold maxLen; omega) (by omega) (by simp only [World.size_alloc]; omega) ?_; intro v6 w6 hown6 hgrow6 _; obtain ⟨g6, cap6, rfl⟩ := row_formD hown6 (Nat.succ_pos _))
        have hrow : w6.ownsRow w.heap.size 3 1 (.slice (some ⟨g6, 0, none⟩) (m + 1) cap6) (m + 1) (nl ((L.take (k + 1)).filter P)) := by
          rw [HS.out, HX.out, ← nl_app]; exact hown6
        have hbw6 := (below_al (o := .cells #[.int .i64 (x : Int)] 3) hq1).grown hgrow6 (by simp only [World.size_alloc]; omega) (fun gg hg => (hlt1 gg hg).1)
        have H1 := hide hrow; have H2 := hide hbw6
        clear hown6 hgrow6 hrow hbw6 hlt1
        go_wp2
        go_roundw
        case rel => exact ⟨k + 1, g6, cap6, m + 1, by omega, by go_num, rfl, by rw [HS.out, List.length_append, ← HM.out]; rfl, by omega, H2.out, H1.out⟩
        case measure => simp [intOf]; omega
    · obtain rfl : k = n := by omega
      have h1 := HO.out; have h2 := HM.out
      rw [List.take_of_length_le (by rw [HLL.out]; exact Nat.le_refl _)] at h1 h2
      have H1 := hide h1; have H2 := hide h2
      clear h1 h2
      go_wp2
      go_returns
      exact ⟨g, cap, m, rfl, H2.out, hbw, H1.out⟩
set_option maxHeartbeats 2000000 in
theorem free_one (g n c : Nat) (D : Nat → Du) (x b e : Int) (v : Bool) (hv : addOk n D ⟨x, b, e, false⟩ = v) (bl bb be : Nat) (w : World) (hn : n ≤ 13) (hnc : n ≤ c) (hcm : c ≤ maxLen) (hw : ∀ i, i < n → WhoOk (D i)) (hd : WhoOk ⟨x, b, e, false⟩) (ha : Arr w w.heap.size (some ⟨g, 0, none⟩) n 4 (dv D))
    (h1 : Cells w bl [.slice (some ⟨g, 0, none⟩) n c]) (h2 : Cells w bb [.int .i64 b]) (h3 : Cells w be [.int .i64 e]) :
    Calls Try.prog 44 #[.int .i64 x, .pointer (some ⟨bl, 0, none⟩), .pointer (some ⟨bb, 0, none⟩), .pointer (some ⟨be, 0, none⟩)] w fun e w' => e = .returned (.bool v) ∧ Below w.heap.size w w' := by
  have l1 := h1.2 0 _ rfl; have l2 := h2.2 0 _ rfl; have l3 := h3.2 0 _ rfl
  have k1 := h1.1; have k2 := h2.1; have k3 := h3.1
  have HA := hide ha; have HV := hide hv; have HW := hide hw; have HD := hide hd
  clear h1 h2 h3 ha hv hw hd
  go_enter Try.func44, Try.ntmps44
  go_wp2_with fail
  refine (impl_add g n c D ⟨x, b, e, false⟩ v HV.out _ rfl _ hn hnc hcm HW.out HD.out HA.out).mono ?_
  rintro e w1 ⟨V, rfl, hb1, hr1⟩
  clear hr1
  go_wp2
  go_returns
  exact ⟨rfl, hb1⟩
end Go.Proofs.Yteklalbjlmkagaa
