/- Chapter 19: for each quake the smallest index of its cluster, both sides. -/
import Derived.Test.YthpagjkkccimiaaLnk
import Derived.Test.YthpagjkkccimiaaCel
import Derived.Test.YthpagjkkccimiaaNumM
namespace Go.Proofs.Ythpagjkkccimiaa
open Go.RowKit
set_option linter.unusedVariables false
set_option linter.unusedSimpArgs false

theorem blk_new_at' (X : World) (g : Nat) (t : TypeId) (cs : Array Value) (h : g = X.heap.size) : Blk (X.alloc (.cells cs t)) g t cs := by
  subst h; exact Blk.new X t cs
theorem own_num {w : World} {base g0 cap n : Nat} {r : Nat → Nat → Bool} {G : Nat → Nat} (hm : IsMin n r G) (h : Cel cap w g0 n G) (hb : base ≤ g0) (hn : n ≤ cap) (hc : cap ≤ maxLen) :
    Own w base 3 1 (.slice (some ⟨g0, 0, none⟩) n cap) n (iv fun i _ => (numN n r i : Nat)) :=
  own_of_cel (h.congr (fun p hp => hm.one (numN_min n r) p hp)) hb hn hc
set_option maxHeartbeats 4000000 in
set_option maxRecDepth 100000 in
theorem spec_nums (A : Option Addr) (n c : Nat) (X : Nat → Nat → Int) (t f g : Int) (w : World) (CX : CatX n X) (HL : LinkIn t f g) (ha : Arr w w.heap.size A n 4 (iv X)) :
    Calls Try.prog 91 #[.slice A n c, .agg #[.int .i64 t, .int .i64 f, .int .i64 g]] w fun e w' => ∃ v, e = .returned v ∧ Below w.heap.size w w' ∧ Own w' w.heap.size 3 1 v n (iv fun i _ => (numN n (rchX t f g X) i : Nat)) := by
  obtain ⟨i0, hi0, hy0, hy1, hy2⟩ := info_parts info_int
  obtain ⟨r, hr⟩ : ∃ r, rchX t f g X = r := ⟨_, rfl⟩
  rw [hr]
  have HR := hide hr; have HAA := hide ha; have HLI := hide HL
  have n10 := CX.n10
  clear hr ha HL
  go_enter Try.func91, Try.ntmps91
  go_wp2
  go_loopw [5, 6] (fun v x wr => ∃ (k gb cap : Nat) (G : Nat → Nat), k ≤ n ∧ x = .int .i64 k ∧ v = .slice (some ⟨gb, 0, none⟩) k cap ∧ Below w.heap.size w wr ∧ Cells wr w.heap.size [.int .i64 t, .int .i64 f, .int .i64 g] ∧ w.heap.size + 1 ≤ gb ∧ k ≤ cap ∧ cap ≤ maxLen ∧ Cel cap wr gb k G ∧ IsMin k (upR r k 0) G) (fun _ x _ => n - (intOf x).toNat)
  case atStart => exact ⟨0, _, _, fun _ => 0, Nat.zero_le _, rfl, rfl, by go_grown, (Cells.new w _ [.int .i64 t, .int .i64 f, .int .i64 g] _ rfl).alloc _, Nat.le_refl _, Nat.le_refl _, Nat.zero_le _, ⟨#[], blk_new_at' _ _ _ _ (by simp), rfl, fun p hp => absurd hp (by omega)⟩, min_zero _ _⟩
  case round =>
    obtain ⟨k, gb, cap, G, hk, rfl, rfl, hbw, hcx, hgb, hkc, hcm, hcel, hmin⟩ := hrel
    have HM := hide hmin; have HCE := hide hcel
    clear hmin hcel
    by_cases hlt : k < n
    · have hown := row_of_cel HCE.out hgb hkc hcm
      go_wp2_with (at_builtin; refine wpList_append_far _ rfl _ _ 37 rfl (w.heap.size + 1) 3 i0 (.int .i64 0) 1 8 Try.underlying37 hi0 hy0 hy1 hy2 rfl (by decide) _ _ _ rfl (hown.alloc _) ⟨wr.heap.size, 0, none⟩ 1 1 [.int .i64 (k : Int)] rfl rfl ?c1 ?c2 ?c3 ?c4 ?c5 ?_)
      case c1 => exact cell_one_at _ _ _ _ rfl
      case c2 => intro u hu; simp only [List.mem_singleton] at hu; subst hu; rfl
      case c3 => unfold maxLen; omega
      case c4 => omega
      case c5 => have := hcx.1; simp only [World.size_alloc]; omega
      intro v1 w1 hown1 hgrow1 _
      have hlt1 := hown.lt
      obtain ⟨g1, cap1, rfl, _, hg1l⟩ := hown1.form (by omega)
      have hnew : w1.ownsRow (w.heap.size + 1) 3 1 (.slice (some ⟨g1, 0, none⟩) (k + 1) cap1) (k + 1) (ints (fun i => ((if i = k then k else G i : Nat) : Int)) (k + 1)) := by
        rw [← ints_snoc]
        simp only [if_true]
        rw [ints_congr (g := fun i => ((G i : Nat) : Int)) (fun i hi => by rw [if_neg (by omega)])]
        exact hown1
      obtain ⟨hcel1, hgb1, hkc1, hcm1⟩ := cel_of_row (F := fun i => if i = k then k else G i) hnew (fun p hp => rfl)
      have hcx1 := (hcx.alloc (.cells #[.int .i64 (k : Int)] 3)).grown hgrow1 (fun gg hg => by have := (hlt1 gg hg).1; omega)
      have hbw1 := (below_al (o := .cells #[.int .i64 (k : Int)] 3) hbw).grown hgrow1 (by have := hbw.size; simp only [World.size_alloc]; omega) (fun gg hg => by have := (hlt1 gg hg).1; omega)
      have hmin1 : IsMin (k + 1) (upR r k 0) (fun i => if i = k then k else G i) := min_next HM.out (fun i hi => by rw [if_neg (by omega)]) (by rw [if_pos rfl])
      have HM1 := hide hmin1; have HC1 := hide hcel1; have HB1 := hide hbw1
      clear hown hown1 hgrow1 hlt1 hnew hcel1 hbw1 hmin1 hcx
      go_wp2
      go_loopw [7] (fun x wr => ∃ (i : Nat) (G : Nat → Nat), i ≤ k ∧ x = .int .i64 i ∧ Below w.heap.size w wr ∧ Cells wr w.heap.size [.int .i64 t, .int .i64 f, .int .i64 g] ∧ Cel cap1 wr g1 (k + 1) G ∧ IsMin (k + 1) (upR r k i) G) (fun x _ => k - (intOf x).toNat)
      case atStart => exact ⟨0, _, Nat.zero_le _, rfl, HB1.out, hcx1, HC1.out, HM1.out⟩
      case round =>
        obtain ⟨i, G, hik, rfl, hbq, hcq, hcel, hmin⟩ := hrel
        have HM := hide hmin; have HCE := hide hcel
        clear hmin hcel
        have hgl := HCE.out.lt
        by_cases hli : i < k
        · obtain ⟨b, off, hA, hbb, hc⟩ := HAA.out (by omega)
          have a0 := (hbq.cell (p := ⟨b, _, none⟩) hbb).trans (hc i 0 (by omega) (by omega)); have a1 := (hbq.cell (p := ⟨b, _, none⟩) hbb).trans (hc i 1 (by omega) (by omega)); have a2 := (hbq.cell (p := ⟨b, _, none⟩) hbb).trans (hc i 2 (by omega) (by omega)); have a3 := (hbq.cell (p := ⟨b, _, none⟩) hbb).trans (hc i 3 (by omega) (by omega))
          have b0 := (hbq.cell (p := ⟨b, _, none⟩) hbb).trans (hc k 0 hlt (by omega)); have b1 := (hbq.cell (p := ⟨b, _, none⟩) hbb).trans (hc k 1 hlt (by omega)); have b2 := (hbq.cell (p := ⟨b, _, none⟩) hbb).trans (hc k 2 hlt (by omega)); have b3 := (hbq.cell (p := ⟨b, _, none⟩) hbb).trans (hc k 3 hlt (by omega))
          simp only [Nat.add_zero, iv] at a0 a1 a2 a3 b0 b1 b2 b3
          have l0 := hcq.2 0 _ rfl; have l1 := hcq.2 1 _ rfl; have l2 := hcq.2 2 _ rfl
          have hcq1 := hcq.1
          have d1 := HCE.out.cell (p := i) (by omega); have d2 := HCE.out.cell (p := k) (by omega)
          have RB := rch_in CX HLI.out (by omega : i ≤ k) hlt
          have hbl : b < wr.heap.size := by have := hbq.size; omega
          have hx := BW.cell (w := wr)
          have hi' : (i : Int) < (k : Int) + 1 := by omega
          have hk' : (k : Int) < (k : Int) + 1 := by omega
          obtain ⟨v2, hv2⟩ : ∃ v2, r i k = v2 := ⟨_, rfl⟩
          have hv2' : rchV t f g (X i 0) (X i 1) (X i 2) (X i 3) (X k 0) (X k 1) (X k 2) = v2 := by rw [← hv2, ← HR.out]; rfl
          have HV2 := hide hv2'; have HV3 := hide hv2
          subst hA
          clear hc hv2 hv2'
          cases v2
          · go_wp2
            refine wp_region_bw (by kernel_rfl) (by kernel_rfl) ?_
            repeat (go_big_quiet_step ((first | (go_at_call 94; exact BW.call (spec_reach _ _ _ _ _ _ _ _ _ _ _ _ HV2.out RB _)))))
            refine wpQuiet_end fun w1 hb1 => ?_
            clear hx
            have hcel1 := HCE.out.below hb1 hgl
            have hcq2 := hcq.on hb1
            have HC2 := hide hcel1
            clear hcel1 l0 l1 l2 a0 a1 a2 a3 b0 b1 b2 b3 d1 d2
            go_wp2
            go_roundw
            case rel => exact ⟨i + 1, G, by omega, by go_num, hbq.trans (hb1.mono hbq.size), hcq2, HC2.out, min_keep hli HM.out (.inl HV3.out)⟩
            case measure => simp [intOf]; omega
          · by_cases heq : G i = G k
            · rw [heq] at d1
              have HEQ := hide heq
              clear heq
              go_wp2
              refine wp_region_bw (by kernel_rfl) (by kernel_rfl) ?_
              repeat (go_big_quiet_step ((first | (go_at_call 94; exact BW.call (spec_reach _ _ _ _ _ _ _ _ _ _ _ _ HV2.out RB _)))))
              refine wpQuiet_end fun w1 hb1 => ?_
              clear hx
              have hcel1 := HCE.out.below hb1 hgl
              have hcq2 := hcq.on hb1
              have HC2 := hide hcel1
              clear hcel1 l0 l1 l2 a0 a1 a2 a3 b0 b1 b2 b3 d1 d2
              go_wp2
              go_roundw
              case rel => exact ⟨i + 1, G, by omega, by go_num, hbq.trans (hb1.mono hbq.size), hcq2, HC2.out, min_keep hli HM.out (.inr HEQ.out)⟩
              case measure => simp [intOf]; omega
            · have hB : (((G i : Nat) : Int) == ((G k : Nat) : Int)) = false := by simp; omega
              obtain ⟨lo, hlo⟩ : ∃ lo : Nat, min (G i) (G k) = lo := ⟨_, rfl⟩
              obtain ⟨hi, hhi⟩ : ∃ hi : Nat, max (G i) (G k) = hi := ⟨_, rfl⟩
              have hlo' : min ((G i : Nat) : Int) ((G k : Nat) : Int) = (lo : Int) := by omega
              have hhi' : max ((G i : Nat) : Int) ((G k : Nat) : Int) = (hi : Int) := by omega
              have HLO := hide hlo'; have HHI := hide hhi'; have HLN := hide hlo; have HHN := hide hhi
              clear heq hlo hhi hlo' hhi'
              go_wp2
              refine wp_region_bw (by kernel_rfl) (by kernel_rfl) ?_
              repeat (go_big_quiet_step ((first | (go_at_call 94; exact BW.call (spec_reach _ _ _ _ _ _ _ _ _ _ _ _ HV2.out RB _)))))
              refine wpQuiet_end fun w1 hb1 => ?_
              clear hx
              have hcel1 := HCE.out.below hb1 hgl
              have hcq2 := hcq.on hb1
              have hbq1 : Below w.heap.size w w1 := hbq.trans (hb1.mono hbq.size)
              have hgl1 := hcel1.lt
              have e1 := hcel1.cell (p := i) (by omega); have e2 := hcel1.cell (p := k) (by omega)
              have HC2 := hide hcel1
              have hx2 := BW.cell (w := w1)
              clear hcel1 l0 l1 l2 a0 a1 a2 a3 b0 b1 b2 b3 d1 d2 hB
              go_wp2
              refine wp_region_bw (by kernel_rfl) (by kernel_rfl) ?_
              repeat (go_big_quiet_step ((first | (go_at_call 121; exact BW.call0 (spec_least _ _ _ HLO.out _)) | (go_at_call 122; exact BW.call0 (spec_most _ _ _ HHI.out _)))))
              refine wpQuiet_end fun w2 hb2 => ?_
              clear hx2
              have hcel2 := HC2.out.below hb2 hgl1
              have hcq3 := hcq2.on hb2
              have hbq2 : Below w.heap.size w w2 := hbq1.trans (hb2.mono hbq1.size)
              have HC3 := hide hcel2; have HB3 := hide hbq2
              clear hcel2 e1 e2 hbq2
              go_wp2
              go_loopw [10] (fun x wr => ∃ j : Nat, j ≤ k + 1 ∧ x = .int .i64 j ∧ Below w.heap.size w wr ∧ Cells wr w.heap.size [.int .i64 t, .int .i64 f, .int .i64 g] ∧ Cel cap1 wr g1 (k + 1) (fun p => if p < j ∧ G p = hi then lo else G p)) (fun x _ => k + 1 - (intOf x).toNat)
              case atStart => exact ⟨0, Nat.zero_le _, rfl, HB3.out, hcq3, HC3.out.congr (fun p hp => by rw [if_neg (by omega)])⟩
              case round =>
                obtain ⟨j, hj, rfl, hbj, hcj, hcel⟩ := hrel
                have HCJ := hide hcel
                clear hcel
                by_cases hlj : j ≤ k
                · have d := HCJ.out.cell (p := j) (by omega); have fz := HCJ.out.frozen j
                  rw [if_neg (by omega)] at d
                  have hj' : (j : Int) < (k : Int) + 1 := by omega
                  by_cases hd : G j = hi
                  · rw [hd] at d
                    have HD := hide hd
                    clear hd
                    go_wp2
                    go_roundw
                    case rel => exact ⟨j + 1, by omega, by go_num, hbj.setCell (p := ⟨g1, j, none⟩) (by show w.heap.size ≤ g1; omega) _, hcj.setCell (by omega), (HCJ.out.set_ j lo).congr (fun p hp => by
                      by_cases e : p = j
                      · subst e; rw [if_pos rfl, if_pos ⟨by omega, HD.out⟩]
                      · rw [if_neg e]
                        by_cases e2 : p < j ∧ G p = hi
                        · rw [if_pos e2, if_pos ⟨by omega, e2.2⟩]
                        · rw [if_neg e2, if_neg (fun h => e2 ⟨by omega, h.2⟩)])⟩
                    case measure => simp [intOf]; omega
                  · have hB : (((G j : Nat) : Int) == (hi : Int)) = false := by simp; omega
                    have HD := hide hd
                    clear hd
                    go_wp2
                    go_roundw
                    case rel => exact ⟨j + 1, by omega, by go_num, hbj, hcj, HCJ.out.congr (fun p hp => by
                      by_cases e2 : p < j ∧ G p = hi
                      · rw [if_pos e2, if_pos ⟨by omega, e2.2⟩]
                      · rw [if_neg e2, if_neg (fun h => e2 ⟨by
                          by_cases e : p = j
                          · subst e; exact absurd h.2 HD.out
                          · omega, h.2⟩)])⟩
                    case measure => simp [intOf]; omega
                · obtain rfl : j = k + 1 := by omega
                  have hmj := min_join hli HM.out HV3.out
                  rw [HLN.out, HHN.out] at hmj
                  have HMJ := hide hmj
                  clear hmj
                  go_wp2
                  go_roundw
                  case rel => exact ⟨i + 1, _, by omega, by go_num, hbj, hcj, HCJ.out.congr (fun p hp => by
                      by_cases e : G p = hi
                      · rw [if_pos ⟨hp, e⟩, if_pos e]
                      · rw [if_neg (fun h => e h.2), if_neg e]), HMJ.out⟩
                  case measure => simp [intOf]; omega
        · obtain rfl : i = k := by omega
          have hup := up_succ HM.out
          have HU := hide hup
          clear hup
          go_wp2
          go_roundw
          case rel => exact ⟨i + 1, g1, cap1, G, by omega, by go_num, rfl, hbq, hcq, by omega, hkc1, hcm1, HCE.out, HU.out⟩
          case measure => simp [intOf]; omega
    · obtain rfl : k = n := by omega
      go_wp2
      go_returns
      exact ⟨_, rfl, hbw, (own_num (up_all HM.out) HCE.out (by omega) hkc hcm)⟩
set_option maxHeartbeats 4000000 in
set_option maxRecDepth 100000 in
theorem impl_nums (A : Option Addr) (n c : Nat) (X : Nat → Nat → Int) (t f g : Int) (w : World) (CX : CatX n X) (HL : LinkIn t f g) (ha : Arr w w.heap.size A n 4 (iv X)) :
    Calls Try.prog 90 #[.agg #[.int .i64 t, .int .i64 f, .int .i64 g], .slice A n c] w fun e w' => ∃ v, e = .returned v ∧ Below w.heap.size w w' ∧ Own w' w.heap.size 3 1 v n (iv fun i _ => (numN n (rchX t f g X) i : Nat)) := by
  obtain ⟨i0, hi0, hy0, hy1, hy2⟩ := info_parts info_int
  obtain ⟨r, hr⟩ : ∃ r, rchX t f g X = r := ⟨_, rfl⟩
  rw [hr]
  have HR := hide hr; have HAA := hide ha; have HLI := hide HL
  have n10 := CX.n10
  clear hr ha HL
  go_enter Try.func90, Try.ntmps90
  go_wp2
  go_loopw [5, 14] (fun v x wr => ∃ (k gb cap : Nat), k ≤ n ∧ x = .int .i64 k ∧ v = .slice (some ⟨gb, 0, none⟩) k cap ∧ Below w.heap.size w wr ∧ Cells wr w.heap.size [.int .i64 t, .int .i64 f, .int .i64 g] ∧ wr.ownsRow (w.heap.size + 1) 3 1 v k (ints (fun i => (i : Int)) k)) (fun _ x _ => n - (intOf x).toNat)
  case atStart => exact ⟨0, _, _, Nat.zero_le _, rfl, rfl, by go_grown, (Cells.new w _ [.int .i64 t, .int .i64 f, .int .i64 g] _ rfl).alloc _, row_new_at _ _ _ _ _ (by simp) (by simp)⟩
  case round =>
    obtain ⟨k, gb, cap, hk, rfl, rfl, hbw, hcx, hown⟩ := hrel
    by_cases hlt : k < n
    · go_wp2_with (at_builtin; refine wpList_append_far _ rfl _ _ 37 rfl (w.heap.size + 1) 3 i0 (.int .i64 0) 1 8 Try.underlying37 hi0 hy0 hy1 hy2 rfl (by decide) _ _ _ rfl (hown.alloc _) ⟨wr.heap.size, 0, none⟩ 1 1 [.int .i64 (k : Int)] rfl rfl ?c1 ?c2 ?c3 ?c4 ?c5 ?_)
      case c1 => exact cell_one_at _ _ _ _ rfl
      case c2 => intro u hu; simp only [List.mem_singleton] at hu; subst hu; rfl
      case c3 => unfold maxLen; omega
      case c4 => omega
      case c5 => have := hcx.1; simp only [World.size_alloc]; omega
      intro v1 w1 hown1 hgrow1 _
      have hlt1 := hown.lt
      obtain ⟨g1, cap1, rfl, _, hg1l⟩ := hown1.form (by omega)
      rw [ints_snoc (fun i => (i : Int)) k] at hown1
      have hcx1 := (hcx.alloc (.cells #[.int .i64 (k : Int)] 3)).grown hgrow1 (fun gg hg => by have := (hlt1 gg hg).1; omega)
      have hbw1 := (below_al (o := .cells #[.int .i64 (k : Int)] 3) hbw).grown hgrow1 (by have := hbw.size; simp only [World.size_alloc]; omega) (fun gg hg => by have := (hlt1 gg hg).1; omega)
      have HO1 := hide hown1; have HB1 := hide hbw1
      clear hown hown1 hgrow1 hlt1 hbw1 hcx
      go_wp2
      go_roundw
      case rel => exact ⟨k + 1, g1, cap1, by omega, by go_num, rfl, HB1.out, hcx1, HO1.out⟩
      case measure => simp [intOf]; omega
    · obtain rfl : k = n := by omega
      obtain ⟨hcel, hgb, hkc, hcm⟩ := cel_of_row (F := fun p => p) hown (fun p hp => rfl)
      have HCE := hide hcel
      clear hown hcel
      go_wp2
      go_loopw [24] (fun x wr => ∃ (q : Nat) (G : Nat → Nat), q ≤ k ∧ x = .int .i64 q ∧ Below w.heap.size w wr ∧ Cells wr w.heap.size [.int .i64 t, .int .i64 f, .int .i64 g] ∧ Cel cap wr gb k G ∧ Snd k r G ∧ Prg k r q G) (fun x _ => k - (intOf x).toNat)
      case atStart => exact ⟨0, fun p => p, Nat.zero_le _, rfl, hbw, hcx, HCE.out, snd_zero _ _, prg_zero _ _⟩
      case round =>
        clear hcx hbw
        obtain ⟨q, G, hq, rfl, hbw, hcx, hcel, hsnd, hprg⟩ := hrel
        have HCE := hide hcel; have HSN := hide hsnd; have HPR := hide hprg
        clear hcel hsnd hprg
        by_cases hlq : q < k
        · go_wp2
          go_loopw [28] (fun x wr => ∃ (a b : Nat) (G : Nat → Nat), a ≤ k ∧ b ≤ a + 1 ∧ x = .int .i64 a ∧ Below w.heap.size w wr ∧ Cells wr w.heap.size [.int .i64 t, .int .i64 f, .int .i64 g] ∧ Cel cap wr gb k G ∧ Rnd k r q a b G) (fun x _ => k - (intOf x).toNat)
          case atStart => exact ⟨0, 0, G, Nat.zero_le _, Nat.zero_le _, rfl, hbw, hcx, HCE.out, Rnd.start HSN.out HPR.out⟩
          case round =>
            clear hcx hbw
            obtain ⟨a, b, G, hak, hba, rfl, hbw, hcx, hcel, hrnd⟩ := hrel
            have HCE := hide hcel; have HRN := hide hrnd
            clear hcel hrnd
            have hgl0 := HCE.out.lt
            by_cases hla : a < k
            · obtain ⟨bb, off, hA, hbb, hc⟩ := HAA.out (by omega)
              have HCC := hide hc
              have hblw : bb < wr.heap.size := by have := hbw.size; omega
              have a0 := (hbw.cell (p := ⟨bb, _, none⟩) hbb).trans (hc a 0 hla (by omega)); have a1 := (hbw.cell (p := ⟨bb, _, none⟩) hbb).trans (hc a 1 hla (by omega)); have a2 := (hbw.cell (p := ⟨bb, _, none⟩) hbb).trans (hc a 2 hla (by omega)); have a3 := (hbw.cell (p := ⟨bb, _, none⟩) hbb).trans (hc a 3 hla (by omega))
              simp only [Nat.add_zero, iv] at a0 a1 a2 a3
              subst hA
              clear hc
              go_wp2
              go_loopw [9] (fun x wq => ∃ (j : Nat) (G : Nat → Nat), a + 1 ≤ j ∧ j ≤ k ∧ x = .int .i64 j ∧ Below w.heap.size w wq ∧ Cells wq w.heap.size [.int .i64 t, .int .i64 f, .int .i64 g] ∧ Cells wq wr.heap.size [.int .i64 (X a 0), .int .i64 (X a 1), .int .i64 (X a 2), .int .i64 (X a 3)] ∧ Cel cap wq gb k G ∧ Rnd k r q a j G) (fun x _ => k - (intOf x).toNat)
              case atStart => exact ⟨a + 1, G, Nat.le_refl _, by omega, by go_num, below_al hbw, hcx.alloc _, Cells.new wr _ [.int .i64 (X a 0), .int .i64 (X a 1), .int .i64 (X a 2), .int .i64 (X a 3)] _ rfl, HCE.out.alloc _, HRN.out.begin hba⟩
              case round =>
                clear a0 a1 a2 a3
                obtain ⟨j, G, haj, hjk, rfl, hbq, hcq, hbx, hcel, hrnd⟩ := hrel
                have HCJ := hide hcel; have HRJ := hide hrnd
                clear hcel hrnd
                have hgl := HCJ.out.lt
                by_cases hlj : j < k
                · have b0 := (hbq.cell (p := ⟨bb, _, none⟩) hbb).trans (HCC.out j 0 hlj (by omega)); have b1 := (hbq.cell (p := ⟨bb, _, none⟩) hbb).trans (HCC.out j 1 hlj (by omega)); have b2 := (hbq.cell (p := ⟨bb, _, none⟩) hbb).trans (HCC.out j 2 hlj (by omega)); have b3 := (hbq.cell (p := ⟨bb, _, none⟩) hbb).trans (HCC.out j 3 hlj (by omega))
                  have a0 := hbx.2 0 _ rfl; have a1 := hbx.2 1 _ rfl; have a2 := hbx.2 2 _ rfl; have a3 := hbx.2 3 _ rfl
                  have hbx1 := hbx.1
                  simp only [Nat.add_zero, iv] at b0 b1 b2 b3
                  have l0 := hcq.2 0 _ rfl; have l1 := hcq.2 1 _ rfl; have l2 := hcq.2 2 _ rfl
                  have hcq1 := hcq.1
                  have RB := rch_in CX HLI.out (by omega : a ≤ j) hlj
                  have hbl : bb < wr.heap.size := by have := hbq.size; omega
                  have hx := BW.cell (w := wr)
                  have ha' : (a : Int) < (k : Int) := by omega
                  have hj' : (j : Int) < (k : Int) := by omega
                  obtain ⟨v2, hv2⟩ : ∃ v2, r a j = v2 := ⟨_, rfl⟩
                  have hv2' : rchV t f g (X a 0) (X a 1) (X a 2) (X a 3) (X j 0) (X j 1) (X j 2) = v2 := by rw [← hv2, ← HR.out]; rfl
                  have HV2 := hide hv2'; have HV3 := hide hv2
                  clear hv2 hv2'
                  cases v2
                  · go_wp2
                    refine wp_region_bw (by kernel_rfl) (by kernel_rfl) ?_
                    repeat (go_big_quiet_step ((first | (go_at_call 93; exact BW.call (impl_reach _ _ _ _ _ _ _ _ _ _ _ _ HV2.out RB _)))))
                    refine wpQuiet_end fun w1 hb1 => ?_
                    clear hx
                    have hcel1 := HCJ.out.below hb1 hgl
                    have hcq2 := hcq.on hb1
                    have hbx2 := hbx.on hb1
                    have HC2 := hide hcel1
                    clear hcel1 l0 l1 l2 a0 a1 a2 a3 b0 b1 b2 b3
                    go_wp2
                    go_roundw
                    case rel => exact ⟨j + 1, G, by omega, by omega, by go_num, hbq.trans (hb1.mono hbq.size), hcq2, hbx2, HC2.out, HRJ.out.skip HV3.out⟩
                    case measure => simp [intOf]; omega
                  · go_wp2
                    refine wp_region_bw (by kernel_rfl) (by kernel_rfl) ?_
                    repeat (go_big_quiet_step ((first | (go_at_call 93; exact BW.call (impl_reach _ _ _ _ _ _ _ _ _ _ _ _ HV2.out RB _)))))
                    refine wpQuiet_end fun w1 hb1 => ?_
                    clear hx
                    have hcel1 := HCJ.out.below hb1 hgl
                    have hcq2 := hcq.on hb1
                    have hbx2 := hbx.on hb1
                    have hbq1 : Below w.heap.size w w1 := hbq.trans (hb1.mono hbq.size)
                    have hgl1 := hcel1.lt
                    have d1 := hcel1.cell (p := a) (by omega); have d2 := hcel1.cell (p := j) (by omega)
                    have HC2 := hide hcel1
                    have hx2 := BW.cell (w := w1)
                    clear hcel1 l0 l1 l2 a0 a1 a2 a3 b0 b1 b2 b3
                    by_cases hle : ((G a : Nat) : Int) ≤ ((G j : Nat) : Int)
                    · go_wp2
                      refine wp_region_bw (by kernel_rfl) (by kernel_rfl) ?_
                      repeat (go_big_quiet_step (fail))
                      refine wpQuiet_end fun w2 hb2 => ?_
                      clear hx2
                      have hcel2 := HC2.out.below hb2 hgl1
                      have hcq3 := hcq2.on hb2
                      have hbx3 := hbx2.on hb2
                      have hbq2 : Below w.heap.size w w2 := hbq1.trans (hb2.mono hbq1.size)
                      have f1 := hcel2.frozen a; have f2 := hcel2.frozen j
                      have d3 := hcel2.cell (p := a) (by omega); have d4 := hcel2.cell (p := j) (by omega)
                      have hgl2 := hcel2.lt
                      have HC3 := hide hcel2
                      clear hcel2
                      go_wp2
                      go_roundw
                      case rel => exact ⟨j + 1, joinG G a j, by omega, by omega, by go_num, (hbq2.setCell (p := ⟨gb, a, none⟩) (by show w.heap.size ≤ gb; omega) _).setCell (p := ⟨gb, j, none⟩) (by show w.heap.size ≤ gb; omega) _, (hcq3.setCell (by omega)).setCell (by omega), (hbx3.setOther (by omega)).setOther (by omega), ((HC3.out.set_ a (G a)).set_ j (G a)).congr (fun p hp => by
                        unfold joinG
                        by_cases e1 : p = j
                        · rw [if_pos e1, if_pos (.inr e1)]; omega
                        · rw [if_neg e1]
                          by_cases e2 : p = a
                          · rw [if_pos e2, if_pos (.inl e2)]; omega
                          · rw [if_neg e2, if_neg (fun h => h.elim e2 e1)]), HRJ.out.join (by omega) hlj HV3.out⟩
                      case measure => simp [intOf]; omega
                    · have hle' : ((G j : Nat) : Int) ≤ ((G a : Nat) : Int) := by omega
                      have hlt' : ((G j : Nat) : Int) < ((G a : Nat) : Int) := by omega
                      go_wp2
                      refine wp_region_bw (by kernel_rfl) (by kernel_rfl) ?_
                      repeat (go_big_quiet_step (fail))
                      refine wpQuiet_end fun w2 hb2 => ?_
                      clear hx2
                      have hcel2 := HC2.out.below hb2 hgl1
                      have hcq3 := hcq2.on hb2
                      have hbx3 := hbx2.on hb2
                      have hbq2 : Below w.heap.size w w2 := hbq1.trans (hb2.mono hbq1.size)
                      have f1 := hcel2.frozen a; have f2 := hcel2.frozen j
                      have d3 := hcel2.cell (p := a) (by omega); have d4 := hcel2.cell (p := j) (by omega)
                      have hgl2 := hcel2.lt
                      have HC3 := hide hcel2
                      clear hcel2
                      go_wp2
                      go_roundw
                      case rel => exact ⟨j + 1, joinG G a j, by omega, by omega, by go_num, (hbq2.setCell (p := ⟨gb, a, none⟩) (by show w.heap.size ≤ gb; omega) _).setCell (p := ⟨gb, j, none⟩) (by show w.heap.size ≤ gb; omega) _, (hcq3.setCell (by omega)).setCell (by omega), (hbx3.setOther (by omega)).setOther (by omega), ((HC3.out.set_ a (G j)).set_ j (G j)).congr (fun p hp => by
                        unfold joinG
                        by_cases e1 : p = j
                        · rw [if_pos e1, if_pos (.inr e1)]; omega
                        · rw [if_neg e1]
                          by_cases e2 : p = a
                          · rw [if_pos e2, if_pos (.inl e2)]; omega
                          · rw [if_neg e2, if_neg (fun h => h.elim e2 e1)]), HRJ.out.join (by omega) hlj HV3.out⟩
                      case measure => simp [intOf]; omega
                · obtain rfl : j = k := by omega
                  have hrn := HRJ.out.next (Nat.le_refl _)
                  have HRN2 := hide hrn
                  clear hrn
                  go_wp2
                  go_roundw
                  case rel => exact ⟨a + 1, a + 2, G, by omega, by omega, by go_num, hbq, hcq, HCJ.out, HRN2.out⟩
                  case measure => simp [intOf]; omega
            · obtain rfl : a = k := by omega
              have hdn := HRN.out.done
              have hsn := HRN.out.1
              have HDN := hide hdn; have HSN2 := hide hsn
              clear hdn hsn
              go_wp2
              go_roundw
              case rel => exact ⟨q + 1, G, by omega, by go_num, hbw, hcx, HCE.out, HSN2.out, HDN.out⟩
              case measure => simp [intOf]; omega
        · obtain rfl : q = k := by omega
          go_wp2
          go_returns
          exact ⟨_, rfl, hbw, (own_num (min_of_prg HSN.out HPR.out) HCE.out (by omega) hkc hcm)⟩
end Go.Proofs.Ythpagjkkccimiaa
