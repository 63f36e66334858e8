/- An append as a step of a region that draws its order. -/
import Derived.Test.YteklalbjlmkagaaApp
import Derived.Deep.AppendLies
import Derived.Deep.DrawnRows
namespace Go.Proofs.Yteklalbjlmkagaa
open Go.RowKit
set_option linter.unusedVariables false
set_option linter.unusedSimpArgs false

theorem step_app {P : Program} (w : World) {ops : Array Oper} {o : Oper} {a : Act} {K : Act → World → Prop} {Q : Exit → Act → World → Prop} {E : Prop} (hgd : o.guard = none) (s x : Operand) (t : TypeId)
    (ho : o.op = .call { callee := .builtin .append, args := #[s, x], argTypes := #[t, t] })
    (base : Nat) (e : TypeId) (i : TypeInfo) (z : Value) (size bytes : Nat) (ht : P.underlying t = some (.slice e)) (hi : P.info? e = some i) (hz : i.zero = some z)
    (hsize : i.size = size) (hby : i.bytes = bytes) (hzs : z.cells.size = size) (hsz : 0 < size)
    (v : Value) (n : Nat) (xs : List Value) (hs : a.eval s = v) (hown : w.ownsRow base e size v n xs)
    (ad : Addr) (m c : Nat) (news : List Value) (hx : a.eval x = .slice (some ad) m c) (hl : news.length = m * size) (hnews : ∀ j u, news[j]? = some u → w.cell? (ad.add j) = some u) (h1 : ∀ u ∈ news, u.oneCell' = true)
    (h63 : n + m ≤ maxLen) (hbytes : (n + m) * bytes ≤ 140737488355328) (hbase : base ≤ w.heap.size)
    (h : ∀ v' w', w'.ownsRow base e size v' (n + m) (xs ++ news) → w.grownBy w' v.ownBlock → (∀ g, v'.ownBlock = some g → v.ownBlock = some g ∨ w.heap.size ≤ g) → K (a.put o.dst v') w') :
    if Region.wanted o (yielded ops a.tmps) = true then Oper.wp P o a w K Q else E := by
  have hw : Region.wanted o (yielded ops a.tmps) = true := by simp [Region.wanted, hgd]
  rw [if_pos hw]
  obtain ⟨v', w', hr, h2, h3, h4⟩ := run_append_far (P := P) w base t o.type e i z size bytes ht hi hz hsize hby hzs hsz v n xs hown ad m c news hl hnews h1 h63 hbytes hbase
  unfold Oper.wp execOp
  simp only [ho, resolve, invoke, builtin, Sem.run_bind, Sem.run_pure, Result.andThen_ok, List.map_toArray, List.map_cons, List.map_nil, hs, hx, hr]
  exact h _ _ h2 h3 h4
/-- The same, for lists that are made within the region: below W's end nothing has changed. -/
theorem step_app_b {P : Program} (W w : World) {ops : Array Oper} {o : Oper} {a : Act} {K : Act → World → Prop} {Q : Exit → Act → World → Prop} {E : Prop} (hgd : o.guard = none) (s x : Operand) (t : TypeId)
    (ho : o.op = .call { callee := .builtin .append, args := #[s, x], argTypes := #[t, t] })
    (e : TypeId) (i : TypeInfo) (z : Value) (size bytes : Nat) (ht : P.underlying t = some (.slice e)) (hi : P.info? e = some i) (hz : i.zero = some z)
    (hsize : i.size = size) (hby : i.bytes = bytes) (hzs : z.cells.size = size) (hsz : 0 < size)
    (v : Value) (n : Nat) (xs : List Value) (hs : a.eval s = v) (hb : Below W.heap.size W w) (hown : w.ownsRow W.heap.size e size v n xs)
    (ad : Addr) (m c : Nat) (news : List Value) (hx : a.eval x = .slice (some ad) m c) (hl : news.length = m * size) (hnews : ∀ j u, news[j]? = some u → w.cell? (ad.add j) = some u) (h1 : ∀ u ∈ news, u.oneCell' = true)
    (h63 : n + m ≤ maxLen) (hbytes : (n + m) * bytes ≤ 140737488355328)
    (h : ∀ v' w', Below W.heap.size W w' → w'.ownsRow W.heap.size e size v' (n + m) (xs ++ news) → (∀ b o, b < w.heap.size → v.ownBlock ≠ some b → w'.cell? ⟨b, o, none⟩ = w.cell? ⟨b, o, none⟩) → w.heap.size ≤ w'.heap.size → K (a.put o.dst v') w') :
    if Region.wanted o (yielded ops a.tmps) = true then Oper.wp P o a w K Q else E :=
  step_app w hgd s x t ho W.heap.size e i z size bytes ht hi hz hsize hby hzs hsz v n xs hs hown ad m c news hx hl hnews h1 h63 hbytes hb.size fun v' w' h2 h3 _ =>
    h v' w' (hb.grown h3 hb.size fun g hg => (hown.lt g hg).1) h2 (fun b o hlt hne => World.cell?_of_block (h3.block b hlt (fun e => hne e.symm))) h3.size
/-- The cells of a row, in a later world. -/
theorem news_row {W w : World} {base n cap g B : Nat} {E : TypeId} {xs news : List Value} {d : Nat} (h : W.ownsRow base E 1 (.slice (some ⟨g, 0, none⟩) n cap) n xs) (hb : Below B W w) (hg : g < B) (hd : ∀ j u, news[j]? = some u → xs[d + j]? = some u) :
    ∀ j u, news[j]? = some u → w.cell? ((⟨g, d, none⟩ : Addr).add j) = some u := by
  intro j u hu
  have h1 := h.cells (g := g) rfl _ _ (hd j u hu)
  have e1 : (⟨g, 0, none⟩ : Addr).add (d + j) = ⟨g, d + j, none⟩ := by
    unfold Addr.add
    split
    · next h => rw [h]
    · simp
  have e2 : (⟨g, d, none⟩ : Addr).add j = ⟨g, d + j, none⟩ := by
    unfold Addr.add
    by_cases hj : j = 0 <;> simp [hj]
  rw [e1] at h1
  rw [e2, hb.cell (p := ⟨g, d + j, none⟩) hg]
  exact h1
theorem news_nil {w : World} {ad : Addr} : ∀ j u, ([] : List Value)[j]? = some u → w.cell? (ad.add j) = some u := by
  intro j u hu; simp at hu
/-- A list of small numbers. -/
def nl (l : List Nat) : List Value := l.map fun (x : Nat) => .int .i64 (x : Int)
theorem nl_one (l : List Nat) : ∀ u ∈ nl l, u.oneCell' = true := by
  intro u hu
  simp only [nl, List.mem_map] at hu
  obtain ⟨x, _, rfl⟩ := hu
  rfl
theorem nl_len (l : List Nat) : (nl l).length = l.length := by simp [nl]
theorem nl_app (l m : List Nat) : nl l ++ nl m = nl (l ++ m) := by simp [nl]
theorem nl_get (l : List Nat) {j : Nat} (hj : j < l.length) : (nl l)[j]? = some (.int .i64 (l.getD j 0 : Nat)) := by
  simp [nl, List.getD, hj]
theorem own_of_nl {w : World} {base n : Nat} {E : TypeId} {v : Value} {l : List Nat} (hn : n = l.length) (h : w.ownsRow base E 1 v n (nl l)) : Own w base E 1 v n (iv fun i _ => (l.getD i 0 : Nat)) := by
  rcases h.2 with ⟨rfl, h0⟩ | ⟨g, cap, cur, rfl, hg, hh, hc, hm, hs, ht⟩
  · exact .inl ⟨rfl, h0⟩
  · refine .inr ⟨g, cap, cur, rfl, hg, hh, hc, hm, hs, fun i j hi hj => ?_⟩
    obtain rfl : j = 0 := by omega
    have h1 : (cur.toList.take (n * 1))[i]? = (nl l)[i]? := by rw [ht]
    rw [List.getElem?_take, if_pos (by omega), nl_get l (by omega), Array.getElem?_toList] at h1
    simpa [iv] using h1
theorem row_cell {w : World} {base n cap g : Nat} {E : TypeId} {l : List Nat} (h : w.ownsRow base E 1 (.slice (some ⟨g, 0, none⟩) n cap) n (nl l)) {j : Nat} (hj : j < l.length) : w.cell? ⟨g, j, none⟩ = some (.int .i64 (l.getD j 0 : Nat)) := by
  have := h.cells (g := g) rfl j _ (nl_get l hj)
  have e : (⟨g, 0, none⟩ : Addr).add j = ⟨g, j, none⟩ := by
    unfold Addr.add
    by_cases hj : j = 0 <;> simp [hj]
  rw [e] at this
  exact this
end Go.Proofs.Yteklalbjlmkagaa
