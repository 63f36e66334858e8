/- A number is put into a list that goes up: the reference's l1Put: made by putgen.py. -/
import Derived.Test.YteklalbjlmkagaaSrt
import Derived.Test.YteklalbjlmkagaaReg
import Derived.IntWalk
namespace Go.Proofs.Yteklalbjlmkagaa
open Go.RowKit
set_option linter.unusedVariables false
set_option linter.unusedSimpArgs false

theorem nl_takeP {l : List Nat} {t j : Nat} {u : Value} (hu : (nl (l.take t))[j]? = some u) : (nl l)[j]? = some u := by
  simp only [nl, List.map_take, List.getElem?_take] at hu ⊢
  split at hu
  · exact hu
  · cases hu
theorem nl_dropP {l : List Nat} {t j : Nat} {u : Value} (hu : (nl (l.drop t))[j]? = some u) : (nl l)[t + j]? = some u := by
  simpa only [nl, List.map_drop, List.getElem?_drop] using hu
theorem news_keptP {w w' : World} {v : Value} {b : Nat} {xs : List Value} (hk : ∀ b o, b < w.heap.size → v.ownBlock ≠ some b → w'.cell? ⟨b, o, none⟩ = w.cell? ⟨b, o, none⟩) (h : ∀ j u, xs[j]? = some u → w.cell? ((⟨b, 0, none⟩ : Addr).add j) = some u) (hb : b < w.heap.size) (hv : v.ownBlock ≠ some b) :
    ∀ j u, xs[j]? = some u → w'.cell? ((⟨b, 0, none⟩ : Addr).add j) = some u := fun j u hu => by
  have e : (⟨b, 0, none⟩ : Addr).add j = ⟨b, j, none⟩ := by unfold Addr.add; split <;> simp_all
  have := h j u hu
  rw [e] at this ⊢
  rw [hk b j hb hv]
  exact this
theorem news_alP {w : World} {o : Obj} {b : Nat} {xs : List Value} (h : ∀ j u, xs[j]? = some u → w.cell? ((⟨b, 0, none⟩ : Addr).add j) = some u) (hb : b < w.heap.size) : ∀ j u, xs[j]? = some u → (w.alloc o).cell? ((⟨b, 0, none⟩ : Addr).add j) = some u := fun j u hu => by
  have e : (⟨b, 0, none⟩ : Addr).add j = ⟨b, j, none⟩ := by unfold Addr.add; split <;> simp_all
  have := h j u hu
  rw [e] at this ⊢
  exact (World.cell?_alloc_lt w o ⟨b, j, none⟩ hb).trans this
theorem row_capP {w : World} {base n cap g s : Nat} {E : TypeId} {xs : List Value} (h : w.ownsRow base E s (.slice (some ⟨g, 0, none⟩) n cap) n xs) : n ≤ cap := by
  rcases h.2 with ⟨hv, _⟩ | ⟨gg, cp, cur, hv, _, _, hc, _⟩
  · cases hv
  · injection hv with _ _ e3
    omega

attribute [local go_sem ↓] Go.wp_at_zero Go.wp_at_succ
set_option maxHeartbeats 4000000 in
set_option maxRecDepth 100000 in
theorem spec_put (g cap m base : Nat) (l : List Nat) (x : Nat) (w : World) (hl : l.length = m) (hm : m ≤ 12) (hx : x ∉ l) (hown : w.ownsRow base 3 1 (.slice (some ⟨g, 0, none⟩) m cap) m (nl l)) :
    Calls Try.prog 53 #[.slice (some ⟨g, 0, none⟩) m cap, .int .i64 (x : Int)] w fun e w' => ∃ g' cap' : Nat, e = .returned (.slice (some ⟨g', 0, none⟩) ((m + 1 : Nat)) cap') ∧ Below w.heap.size w w' ∧ w.heap.size ≤ g' ∧ w'.ownsRow w.heap.size 3 1 (.slice (some ⟨g', 0, none⟩) ((m + 1 : Nat)) cap') (m + 1) (nl (putL x l)) := by
  obtain ⟨i0, hi0, hy0, hy1, hy2⟩ := info_parts info_int
  have hgl : g < w.heap.size := (hown.lt g rfl).2
  have hkc : m ≤ cap := row_capP hown
  have HO := hide hown; have HX := hide hx; have HL := hide hl
  clear hown hx hl
  go_enter Try.func53, Try.ntmps53
  go_wp2
  go_loopw [5] (fun y wr => ∃ t : Nat, t ≤ m ∧ y = .int .i64 t ∧ wr = w ∧ ∀ j, j < t → l.getD j 0 < x) (fun y _ => m - (intOf y).toNat)
  case atStart => exact ⟨0, Nat.zero_le _, rfl, rfl, all_zero⟩
  case round =>
    obtain ⟨t, ht, rfl, rfl, hall⟩ := hrel
    have HA := hide hall
    clear hall
    by_cases hend : t < m ∧ l.getD t 0 < x
    · obtain ⟨htm, hlt⟩ := hend
      have d0 := row_cell HO.out (j := t) (by rw [HL.out]; exact htm)
      obtain ⟨z, hz⟩ : ∃ z, l.getD t 0 = z := ⟨_, rfl⟩
      rw [hz] at d0 hlt
      have HZ := hide hz
      clear hz
      have hb : ((z : Int) < (x : Int)) := by omega
      have hkc2 : t < cap := by omega
      go_wp2
      go_roundw
      case rel => exact ⟨t + 1, by omega, by go_num, by first | rfl | trivial, all_snoc HA.out (by rw [HZ.out]; exact hlt)⟩
      case measure => simp [intOf]; omega
    · have hput : putL x l = l.take t ++ x :: l.drop t := putL_at (by rw [HL.out]; exact ht) HA.out (fun h => by
        have h1 : ¬ l.getD t 0 < x := fun h2 => hend ⟨by rw [← HL.out]; exact h, h2⟩
        have h2 : l.getD t 0 ≠ x := fun e => HX.out (by rw [← e]; simp [List.getD, h])
        omega)
      have HP := hide hput
      clear hput
      have hl : l.length = m := HL.out
      have htc : (t : Int) ≤ (cap : Int) := by omega
      have HO1 := hide (show wr.ownsRow base 3 1 (.slice (some ⟨g, 0, none⟩) m cap) m (nl l) from HO.out)
      have hgl1 : g < wr.heap.size := hgl
      have hA4 : ∃ A4, (if cap = t then some ⟨g, 0, none⟩ else some ⟨g, t, none⟩ : Option Addr) = some A4 ∧ ∀ W, Below wr.heap.size wr W → ∀ j u, (nl (l.drop t))[j]? = some u → W.cell? (A4.add j) = some u := by
        by_cases e : cap = t
        · refine ⟨_, if_pos e, fun W _ j u hu => ?_⟩
          rw [List.drop_of_length_le (by omega)] at hu
          simp [nl] at hu
        · exact ⟨_, if_neg e, fun W hW => news_row HO1.out hW hgl1 (by intro j u hu; exact nl_dropP hu)⟩
      obtain ⟨A4, hA, hnA⟩ := hA4
      have HA4 := hide hnA
      clear hnA
      by_cases htm : t < m
      · have d0 := row_cell HO.out (j := t) (by rw [HL.out]; exact htm)
        obtain ⟨z, hz⟩ : ∃ z, l.getD t 0 = z := ⟨_, rfl⟩
        have hzx : x < z := by
          have h1 : ¬ l.getD t 0 < x := fun h2 => hend ⟨htm, h2⟩
          have h2 : l.getD t 0 ≠ x := fun e => HX.out (by rw [← e]; simp [List.getD, HL.out, htm])
          omega
        rw [hz] at d0
        have e1 : decide ((z : Int) < (x : Int)) = false := decide_eq_false (by omega)
        have e2 : ((z : Int) == (x : Int)) = false := by simp; omega
        have hkc2 : t < cap := by omega
        clear hz hend
        go_wp2
        go_region_held3 (fun w' => Below wr.heap.size wr w') (first | assumption | exact below_al (by assumption) | go_grown) (first
          | (refine step_app_b wr _ (by rfl) _ _ _ (by rfl) 3 i0 (.int .i64 0) 1 8 Try.underlying31 hi0 hy0 hy1 hy2 rfl (by decide) (.slice (some ⟨_, 0, none⟩) 0 0) 0 [] (by rfl) (by first | assumption | exact below_al (by assumption) | go_grown) (by first | exact row_new_at _ _ _ _ _ (by first | rfl | simp) (by first | exact Nat.le_refl _ | simp) | exact (row_new_at _ _ _ _ _ (by first | rfl | simp) (by first | exact Nat.le_refl _ | simp)).alloc _) ⟨g, 0, none⟩ t cap (nl (l.take (t))) (by rfl) (by rw [nl_len, List.length_take]; omega) (news_row HO1.out (by first | assumption | exact below_al (by assumption) | go_grown) hgl1 (by intro j u hu; rw [Nat.zero_add]; exact nl_takeP hu)) (nl_one _) (by unfold maxLen; omega) (by omega) ?_; intro v2 w2 hb2 ho2 hk2 hz2)
          | (refine step_app_b wr _ (by rfl) _ _ _ (by rfl) 3 i0 (.int .i64 0) 1 8 Try.underlying31 hi0 hy0 hy1 hy2 rfl (by decide) _ (0 + (t)) ([] ++ nl (l.take (t))) (by rfl) (by first | assumption | exact below_al (by assumption) | go_grown) (by first | exact ho2.alloc _ | exact ho2) _ 1 1 [.int .i64 (x : Int)] (by rfl) rfl (by first | exact cell_one_at _ _ _ _ (by first | rfl | simp) | exact news_keptP hk2 (cell_one_at _ _ _ _ (by first | rfl | simp)) (by first | (simp; done) | (simp; omega)) (by simp [Value.ownBlock]) | exact news_keptP hk2 (news_alP (cell_one_at _ _ _ _ (by first | rfl | simp)) (by first | (simp; done) | (simp; omega))) (by first | (simp; done) | (simp; omega)) (by simp [Value.ownBlock])) (by intro u hu; simp only [List.mem_singleton] at hu; subst hu; rfl) (by unfold maxLen; omega) (by omega) ?_; intro v3 w3 hb3 ho3 hk3 hz3)
          | (refine step_app_b wr _ (by rfl) _ _ _ (by rfl) 3 i0 (.int .i64 0) 1 8 Try.underlying31 hi0 hy0 hy1 hy2 rfl (by decide) _ (0 + (t) + 1) (([] ++ nl (l.take (t))) ++ [.int .i64 (x : Int)]) (by rfl) (by first | assumption | exact below_al (by assumption) | go_grown) ho3 A4 (m - (t)) (cap - (t)) (nl (l.drop (t))) (by rfl) (by rw [nl_len, List.length_drop]; omega) (HA4.out _ (by first | assumption | exact below_al (by assumption) | go_grown)) (nl_one _) (by unfold maxLen; omega) (by omega) ?_; intro v4 w4 hb4 ho4 hk4 hz4))
        all_goals
          have hrow := ho4
          rw [show 0 + (t) + 1 + (m - (t)) = m + 1 from by omega, List.nil_append, show [Value.int .i64 (x : Int)] = nl [x] from rfl, nl_app, nl_app, show l.take (t) ++ [x] ++ l.drop (t) = putL x l from by rw [HP.out]; simp] at hrow
          obtain ⟨g4, cap4, rfl, hg4, _⟩ := hrow.form (by omega)
          have hgb4 := (hrow.lt g4 rfl).1
          have HR := hide hrow; have HB4 := hide hb4
          clear hb2 ho2 hk2 hb3 ho3 hk3 hb4 ho4 hk4 hrow
          go_wp2
          go_returns
          exact ⟨g4, cap4, by first | rfl | trivial, HB4.out, hgb4, HR.out⟩
      · obtain rfl : t = m := by omega
        clear hend
        go_wp2
        go_region_held3 (fun w' => Below wr.heap.size wr w') (first | assumption | exact below_al (by assumption) | go_grown) (first
          | (refine step_app_b wr _ (by rfl) _ _ _ (by rfl) 3 i0 (.int .i64 0) 1 8 Try.underlying31 hi0 hy0 hy1 hy2 rfl (by decide) (.slice (some ⟨_, 0, none⟩) 0 0) 0 [] (by rfl) (by first | assumption | exact below_al (by assumption) | go_grown) (by first | exact row_new_at _ _ _ _ _ (by first | rfl | simp) (by first | exact Nat.le_refl _ | simp) | exact (row_new_at _ _ _ _ _ (by first | rfl | simp) (by first | exact Nat.le_refl _ | simp)).alloc _) ⟨g, 0, none⟩ t cap (nl (l.take (t))) (by rfl) (by rw [nl_len, List.length_take]; omega) (news_row HO1.out (by first | assumption | exact below_al (by assumption) | go_grown) hgl1 (by intro j u hu; rw [Nat.zero_add]; exact nl_takeP hu)) (nl_one _) (by unfold maxLen; omega) (by omega) ?_; intro v2 w2 hb2 ho2 hk2 hz2)
          | (refine step_app_b wr _ (by rfl) _ _ _ (by rfl) 3 i0 (.int .i64 0) 1 8 Try.underlying31 hi0 hy0 hy1 hy2 rfl (by decide) _ (0 + (t)) ([] ++ nl (l.take (t))) (by rfl) (by first | assumption | exact below_al (by assumption) | go_grown) (by first | exact ho2.alloc _ | exact ho2) _ 1 1 [.int .i64 (x : Int)] (by rfl) rfl (by first | exact cell_one_at _ _ _ _ (by first | rfl | simp) | exact news_keptP hk2 (cell_one_at _ _ _ _ (by first | rfl | simp)) (by first | (simp; done) | (simp; omega)) (by simp [Value.ownBlock]) | exact news_keptP hk2 (news_alP (cell_one_at _ _ _ _ (by first | rfl | simp)) (by first | (simp; done) | (simp; omega))) (by first | (simp; done) | (simp; omega)) (by simp [Value.ownBlock])) (by intro u hu; simp only [List.mem_singleton] at hu; subst hu; rfl) (by unfold maxLen; omega) (by omega) ?_; intro v3 w3 hb3 ho3 hk3 hz3)
          | (refine step_app_b wr _ (by rfl) _ _ _ (by rfl) 3 i0 (.int .i64 0) 1 8 Try.underlying31 hi0 hy0 hy1 hy2 rfl (by decide) _ (0 + (t) + 1) (([] ++ nl (l.take (t))) ++ [.int .i64 (x : Int)]) (by rfl) (by first | assumption | exact below_al (by assumption) | go_grown) ho3 A4 (0) (cap - (t)) (nl (l.drop (t))) (by rfl) (by rw [nl_len, List.length_drop]; omega) (HA4.out _ (by first | assumption | exact below_al (by assumption) | go_grown)) (nl_one _) (by unfold maxLen; omega) (by omega) ?_; intro v4 w4 hb4 ho4 hk4 hz4))
        all_goals
          have hrow := ho4
          rw [show 0 + (t) + 1 + (0) = t + 1 from by omega, List.nil_append, show [Value.int .i64 (x : Int)] = nl [x] from rfl, nl_app, nl_app, show l.take (t) ++ [x] ++ l.drop (t) = putL x l from by rw [HP.out]; simp] at hrow
          obtain ⟨g4, cap4, rfl, hg4, _⟩ := hrow.form (by omega)
          have hgb4 := (hrow.lt g4 rfl).1
          have HR := hide hrow; have HB4 := hide hb4
          clear hb2 ho2 hk2 hb3 ho3 hk3 hb4 ho4 hk4 hrow
          go_wp2
          go_returns
          exact ⟨g4, cap4, by first | rfl | trivial, HB4.out, hgb4, HR.out⟩
end Go.Proofs.Yteklalbjlmkagaa
