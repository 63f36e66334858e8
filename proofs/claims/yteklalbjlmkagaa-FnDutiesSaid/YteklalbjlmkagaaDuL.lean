/- Chapter 17: a duty is put into a list: the reference's AddDuty. -/
import Derived.Test.YteklalbjlmkagaaDuK
namespace Go.Proofs.Yteklalbjlmkagaa
open Go.RowKit
set_option linter.unusedVariables false
set_option linter.unusedSimpArgs false

def addOk (n : Nat) (D : Nat → Du) (d : Du) : Bool := goodB n D && goodB (n + 1) (dg (putD d (Ln D n)))
def AddPost (w : World) (ok : Bool) (R : List Du) (e : Ending) (w' : World) : Prop := ∃ V, e = .returned (.tuple #[V, .bool ok]) ∧ Below w.heap.size w w' ∧ w'.ownsRow w.heap.size 39 4 V R.length (R.flatMap dC)
theorem add_post {w w' : World} {ok : Bool} {R : List Du} {e : Ending} {V : Value} (he : e = .returned (.tuple #[V, .bool ok])) (hb : Below w.heap.size w w') (hr : w'.ownsRow w.heap.size 39 4 V R.length (R.flatMap dC)) : AddPost w ok R e w' := ⟨V, he, hb, hr⟩
theorem put_row (D : Nat → Du) (d : Du) (n : Nat) : (putD d (Ln D n)).length = n + 1 := by rw [putD_len, Ln_len]
set_option maxHeartbeats 2000000 in
theorem spec_add (g n c : Nat) (D : Nat → Du) (d : Du) (ok : Bool) (hk : addOk n D d = ok) (R : List Du) (hR : (if ok = true then putD d (Ln D n) else []) = R) (w : World) (hn : n ≤ 40) (hnc : n ≤ c) (ha : Arr w w.heap.size (some ⟨g, 0, none⟩) n 4 (dv D)) :
    Calls Try.prog 23 #[.slice (some ⟨g, 0, none⟩) n c, .agg #[.int .i64 d.who, .int .i64 d.beg, .int .i64 d.fin, .bool d.chief]] w (AddPost w ok R) := by
  have HA := hide ha; have HK := hide hk; have HR := hide hR
  clear ha hk hR
  cases hg : goodB n D
  · obtain rfl : false = ok := by rw [← HK.out, addOk, hg]; rfl
    obtain rfl : [] = R := HR.out
    have HG := hide hg
    clear hg
    go_enter Try.func23, Try.ntmps23
    go_wp2_with fail
    refine (spec_good17 (some ⟨g, 0, none⟩) n c D _ HG.out _ (by omega) (HA.out.on (by go_grown))).mono ?_
    rintro e w1 ⟨rfl, hb1⟩
    obtain ⟨qc1, qf1⟩ := bcell hb1
    have hz1 := hb1.size
    try simp only [World.size_alloc, World.size_setCell, World.size_drew] at hz1
    have hq1 : Below w.heap.size w w1 := below_call (by go_grown) hb1
    try have hl0_1 : w.heap.size < w1.heap.size := by omega
    try have hl1_1 : w.heap.size + 1 < w1.heap.size := by omega
    try have hl2_1 : w.heap.size + 2 < w1.heap.size := by omega
    try have hl3_1 : w.heap.size + 3 < w1.heap.size := by omega
    go_wp2
    go_returns
    exact add_post rfl (below_al hq1) (row_new_at _ _ _ _ _ rfl hq1.size)
  · have HG := hide hg
    have HK2 := hide (show goodB (n + 1) (dg (putD d (Ln D n))) = ok by rw [← HK.out, addOk, hg, Bool.true_and])
    clear hg
    go_enter Try.func23, Try.ntmps23
    go_wp2_with fail
    refine (spec_good17 (some ⟨g, 0, none⟩) n c D _ HG.out _ (by omega) (HA.out.on (by go_grown))).mono ?_
    rintro e w1 ⟨rfl, hb1⟩
    obtain ⟨qc1, qf1⟩ := bcell hb1
    have hz1 := hb1.size
    try simp only [World.size_alloc, World.size_setCell, World.size_drew] at hz1
    have hq1 : Below w.heap.size w w1 := below_call (by go_grown) hb1
    try have hl0_1 : w.heap.size < w1.heap.size := by omega
    try have hl1_1 : w.heap.size + 1 < w1.heap.size := by omega
    try have hl2_1 : w.heap.size + 2 < w1.heap.size := by omega
    try have hl3_1 : w.heap.size + 3 < w1.heap.size := by omega
    go_wp2_with fail
    refine (spec_put17 g n c D d _ hn hnc (HA.out.on hq1)).mono ?_
    rintro e w2 ⟨g2, cap2, rfl, hb2, hrow2⟩
    have hq2 := below_call hq1 hb2
    have HW := hide (row_base hrow2 hq1.size)
    have HA2 := hide (arr_row hrow2 (put_row D d n))
    clear hb2 hrow2
    cases ok
    · obtain rfl : [] = R := HR.out
      go_wp2_with fail
      refine (spec_good17 (some ⟨g2, 0, none⟩) (n + 1) cap2 _ _ HK2.out _ (by omega) HA2.out).mono ?_
      rintro e w3 ⟨rfl, hb3⟩
      have hq3 := below_call hq2 hb3
      clear hb3
      go_wp2
      go_returns
      exact add_post rfl (below_al hq3) (row_new_at _ _ _ _ _ rfl hq3.size)
    · obtain rfl : putD d (Ln D n) = R := HR.out
      go_wp2_with fail
      refine (spec_good17 (some ⟨g2, 0, none⟩) (n + 1) cap2 _ _ HK2.out _ (by omega) HA2.out).mono ?_
      rintro e w3 ⟨rfl, hb3⟩
      have hq3 := below_call hq2 hb3
      have HW3 := hide (row_below HW.out hb3)
      clear hb3
      go_wp2
      go_returns
      exact add_post rfl hq3 (by rw [put_row]; exact HW3.out)
end Go.Proofs.Yteklalbjlmkagaa
