/- One more pair in a list of pairs (as XPrsL, without the faults). -/
import Derived.Test.YteklalbjlmkagaaSsH
import Derived.Test.YteklalbjlmkagaaReg
import Derived.Test.YteklalbjlmkagaaDuE
namespace Go.Proofs.Yteklalbjlmkagaa
open Go.RowKit
set_option linter.unusedVariables false
set_option linter.unusedSimpArgs false

theorem info_ints : (Try.prog.info? 31).map (fun i => (i.zero, i.size, i.bytes)) = some (some (.slice none 0 0), 1, 24) := by kernel_rfl
/-- The world in which a pair is ready to be appended. -/
def pairW (W : World) (a b : Int) : World := (W.alloc (.cells #[.int .i64 a, .int .i64 b] 3)).alloc (.cells #[.slice (some ⟨W.heap.size, 0, none⟩) 2 2] 31)
theorem pairW_x (W : World) (a b : Int) : Blk (pairW W a b) W.heap.size 3 #[.int .i64 a, .int .i64 b] := Blk.alloc (Blk.new W _ _) _
theorem pair_run (w0 W V : World) (ty : TypeId) {v : Value} {ps : List (Int × Int)} {gs : List Nat} (hb : Below w0.heap.size w0 W) (hm : MPs W w0.heap.size v ps gs) (hlen : ps.length ≤ 1000000) (a b : Int) (hbw : Below W.heap.size W V) (hz : V.heap.size = W.heap.size + 2)
    (x1 : Blk V W.heap.size 3 #[.int .i64 a, .int .i64 b]) (x3 : V.cell? ⟨W.heap.size + 1, 0, none⟩ = some (.slice (some ⟨W.heap.size, 0, none⟩) 2 2)) :
    ∃ v' w', (Builtin.append_ #[27, 27] 27 #[v, .slice (some ⟨W.heap.size + 1, 0, none⟩) 1 1]).run Try.prog V = .ok v' w' ∧ Below w0.heap.size w0 w' ∧ MPs w' w0.heap.size v' (ps ++ [(a, b)]) (gs ++ [W.heap.size]) ∧ (∀ b, b < W.heap.size → v.ownBlock ≠ some b → w'.heap[b]? = W.heap[b]?) ∧ (∀ g, v'.ownBlock = some g → v.ownBlock = some g ∨ W.heap.size ≤ g) := by
  obtain ⟨i0, hi0, hy0, hy1, hy2⟩ := info_parts info_ints
  have hs := hb.size
  have hown : V.ownsRow w0.heap.size 31 1 v ps.length (gl gs) := row_below hm.row hbw
  have hlt : ∀ g, v.ownBlock = some g → w0.heap.size ≤ g ∧ g < W.heap.size := hm.row.lt
  have hc : ∀ j u, ([.slice (some ⟨W.heap.size, 0, none⟩) 2 2] : List Value)[j]? = some u → V.cell? ((⟨W.heap.size + 1, 0, none⟩ : Addr).add j) = some u := by
    intro j u hu
    rcases j with _ | j
    · simp only [List.getElem?_cons_zero, Option.some.injEq] at hu
      subst hu
      exact x3
    · simp at hu
  obtain ⟨v', w', hr, h2, h3, h4⟩ := run_append_far (P := Try.prog) V w0.heap.size 27 27 31 i0 (.slice none 0 0) 1 24 Try.underlying27 hi0 hy0 hy1 hy2 rfl (by decide) v ps.length (gl gs) hown ⟨W.heap.size + 1, 0, none⟩ 1 1 [.slice (some ⟨W.heap.size, 0, none⟩) 2 2] rfl hc (by intro u hu; simp only [List.mem_singleton] at hu; subst hu; rfl) (by unfold maxLen; omega) (by omega) (by omega)
  exact ⟨v', w', hr, (below_call hb hbw).grown h3 (by omega) (fun g hg => (hlt g hg).1), hm.app hbw (Nat.le_refl _) (by omega) hs x1 (fun g hg => (hlt g hg).2) h3 h2 h4, fun b hb2 hne => (h3.block b (by omega) (fun e => hne e.symm)).trans (hbw.block b hb2), fun g hg => (h4 g hg).imp id (fun h => by omega)⟩
theorem pairW_y (W : World) (a b : Int) : (pairW W a b).cell? ⟨W.heap.size + 1, 0, none⟩ = some (.slice (some ⟨W.heap.size, 0, none⟩) 2 2) := by
  have h := cell_one_at (W.alloc (.cells #[.int .i64 a, .int .i64 b] 3)) (.slice (some ⟨W.heap.size, 0, none⟩) 2 2) 31 (W.heap.size + 1) (by simp) 0 _ rfl
  exact h
theorem pairW_z (W : World) (a b : Int) : (pairW W a b).heap.size = W.heap.size + 2 := by simp [pairW]
theorem pairW_b (W : World) (a b : Int) : Below W.heap.size W (pairW W a b) := below_al (below_al (Below.refl _ _))
theorem step_pair (w0 W : World) {ops : Array Oper} {o : Oper} {a : Act} {K : Act → World → Prop} {Q : Exit → Act → World → Prop} {E : Prop} (hgd : o.guard = none) (s x : Operand)
    (ho : o.op = .call { callee := .builtin .append, args := #[s, x], argTypes := #[27, 27] }) (hty : o.type = 27)
    (v : Value) (ps : List (Int × Int)) (gs : List Nat) (hs : a.eval s = v) (hb : Below w0.heap.size w0 W) (hm : MPs W w0.heap.size v ps gs) (hlen : ps.length ≤ 1000000) (p q : Int) (hx : a.eval x = .slice (some ⟨W.heap.size + 1, 0, none⟩) 1 1)
    (h : ∀ v' w', Below w0.heap.size w0 w' → MPs w' w0.heap.size v' (ps ++ [(p, q)]) (gs ++ [W.heap.size]) → K (a.put o.dst v') w') :
    if Region.wanted o (yielded ops a.tmps) = true then Oper.wp Try.prog o a ((W.alloc (.cells #[.int .i64 p, .int .i64 q] 3)).alloc (.cells #[.slice (some ⟨W.heap.size, 0, none⟩) 2 2] 31)).drew K Q else E := by
  have hw : Region.wanted o (yielded ops a.tmps) = true := by simp [Region.wanted, hgd]
  rw [if_pos hw]
  obtain ⟨v', w', hr, h2, h3, h4, h5⟩ := pair_run w0 W (pairW W p q).drew 27 hb hm hlen p q (pairW_b W p q).drew (pairW_z W p q) (pairW_x W p q) (pairW_y W p q)
  unfold pairW at hr
  unfold Oper.wp execOp
  simp only [ho, hty, resolve, invoke, builtin, Sem.run_bind, Sem.run_pure, Result.andThen_ok, List.map_toArray, List.map_cons, List.map_nil, hs, hx, hr]
  exact h _ _ h2 h3
theorem list_pair (w0 W : World) {ops : Array Oper} {rest : List Oper} {o : Oper} {a : Act} {Q : Exit → Act → World → Prop} (hgd : o.guard = none) (s x : Operand)
    (ho : o.op = .call { callee := .builtin .append, args := #[s, x], argTypes := #[27, 27] }) (hty : o.type = 27)
    (v : Value) (ps : List (Int × Int)) (gs : List Nat) (hs : a.eval s = v) (hb : Below w0.heap.size w0 W) (hm : MPs W w0.heap.size v ps gs) (hlen : ps.length ≤ 1000000) (p q : Int) (hx : a.eval x = .slice (some ⟨W.heap.size + 1, 0, none⟩) 1 1)
    (h : ∀ v' w', Below w0.heap.size w0 w' → MPs w' w0.heap.size v' (ps ++ [(p, q)]) (gs ++ [W.heap.size]) → (∀ b, b < W.heap.size → v.ownBlock ≠ some b → w'.heap[b]? = W.heap[b]?) → (∀ g, v'.ownBlock = some g → v.ownBlock = some g ∨ W.heap.size ≤ g) → wpList Try.prog ops Q rest (a.put o.dst v') w') :
    wpList Try.prog ops Q (o :: rest) a ((W.alloc (.cells #[.int .i64 p, .int .i64 q] 3)).alloc (.cells #[.slice (some ⟨W.heap.size, 0, none⟩) 2 2] 31)) := by
  obtain ⟨v', w', hr, h2, h3, h4, h5⟩ := pair_run w0 W (pairW W p q) 27 hb hm hlen p q (pairW_b W p q) (pairW_z W p q) (pairW_x W p q) (pairW_y W p q)
  unfold pairW at hr
  refine wpList_plain hgd fun K hK => ?_
  unfold Oper.wp execOp
  simp only [ho, hty, resolve, invoke, builtin, Sem.run_bind, Sem.run_pure, Result.andThen_ok, List.map_toArray, List.map_cons, List.map_nil, hs, hx, hr]
  exact hK _ _ (h _ _ h2 h3 h4 h5)
theorem MPs.nil (w : World) : MPs (w.alloc (.cells #[] 31)) w.heap.size (.slice (some ⟨w.heap.size, 0, none⟩) 0 0) [] [] :=
  ⟨rfl, World.ownsRow_made w #[] 0 (Nat.le_refl _) (Nat.zero_le _) (by simp), fun g hg => (by cases hg), List.nodup_nil, fun i hi => absurd hi (by simp)⟩
theorem MPs.at_ {w : World} {base base' : Nat} {v : Value} {ps : List (Int × Int)} {gs : List Nat} (h : MPs w base v ps gs) (hb : base' ≤ base) : MPs w base' v ps gs := by
  obtain ⟨h1, ⟨r0, r2⟩, h3, h4, h5⟩ := h
  refine ⟨h1, ⟨r0, ?_⟩, fun g hg => ⟨Nat.le_trans hb (h3 g hg).1, (h3 g hg).2⟩, h4, h5⟩
  rcases r2 with r | ⟨b, cap, cur, e1, e2, e3⟩
  · exact .inl r
  · exact .inr ⟨b, cap, cur, e1, Nat.le_trans hb e2, e3⟩
theorem MPs.none (w : World) (base : Nat) : MPs w base (.slice none 0 0) [] [] :=
  ⟨rfl, ⟨rfl, .inl ⟨rfl, rfl⟩⟩, fun g hg => (by cases hg), List.nodup_nil, fun i hi => absurd hi (by simp)⟩
theorem sc2_alloc {w : World} {g o1 o2 : Nat} {a c : Int} (o : Obj) (h : g < w.heap.size ∧ w.cell? ⟨g, o1, none⟩ = some (.int .i64 a) ∧ w.cell? ⟨g, o2, none⟩ = some (.int .i64 c)) :
    g < (w.alloc o).heap.size ∧ (w.alloc o).cell? ⟨g, o1, none⟩ = some (.int .i64 a) ∧ (w.alloc o).cell? ⟨g, o2, none⟩ = some (.int .i64 c) :=
  ⟨by simp; omega, (World.cell?_alloc_lt w o ⟨g, o1, none⟩ h.1).trans h.2.1, (World.cell?_alloc_lt w o ⟨g, o2, none⟩ h.1).trans h.2.2⟩
theorem sc2_below {w w' : World} {g o1 o2 : Nat} {a c : Int} (h : g < w.heap.size ∧ w.cell? ⟨g, o1, none⟩ = some (.int .i64 a) ∧ w.cell? ⟨g, o2, none⟩ = some (.int .i64 c)) (hb : Below w.heap.size w w') :
    g < w'.heap.size ∧ w'.cell? ⟨g, o1, none⟩ = some (.int .i64 a) ∧ w'.cell? ⟨g, o2, none⟩ = some (.int .i64 c) :=
  ⟨Nat.lt_of_lt_of_le h.1 hb.size, (hb.cell (p := ⟨g, o1, none⟩) h.1).trans h.2.1, (hb.cell (p := ⟨g, o2, none⟩) h.1).trans h.2.2⟩
def PrsPost (w : World) (u : Bool) (ps : List (Int × Int)) (e : Ending) (w' : World) : Prop := ∃ v gs, e = .returned (.tuple #[v, .bool u]) ∧ Below w.heap.size w w' ∧ MPs w' w.heap.size v ps gs
theorem prs_post {w w' : World} {u : Bool} {ps : List (Int × Int)} {e : Ending} {v : Value} {gs : List Nat} (he : e = .returned (.tuple #[v, .bool u])) (hb : Below w.heap.size w w') (hm : MPs w' w.heap.size v ps gs) : PrsPost w u ps e w' := ⟨v, gs, he, hb, hm⟩
end Go.Proofs.Yteklalbjlmkagaa
