/- The draw of a list of faults: made by fdsgen.py. -/
import Derived.Test.YtbpeamjgddikjaaFdB
import Derived.Test.YtbpeamjgddikjaaFltQ
import Derived.Test.YtbpeamjgddikjaaReg
import Derived.Test.YtbpeamjgddikjaaMtx
namespace Go.Proofs.Ytbpeamjgddikjaa
open Go.RowKit
set_option linter.unusedVariables false
set_option linter.unusedSimpArgs false

def fC (x : FauE × Nat × Nat) : List Value := [.int .i64 x.1.id, .string x.1.nm, .slice (some ⟨x.2.1, 0, none⟩) x.1.m x.2.2, .int .i64 x.1.sl]
def fD : FauE × Nat × Nat := (⟨0, ByteArray.empty, 0, fun _ _ => 0, 0⟩, 0, 0)
def fE (L : List (FauE × Nat × Nat)) (i : Nat) : FauE := (L.getD i fD).1
def fQ (L : List (FauE × Nat × Nat)) (i : Nat) : Option Addr × Nat := (some ⟨(L.getD i fD).2.1, 0, none⟩, (L.getD i fD).2.2)
theorem fC_one (x : FauE × Nat × Nat) : ∀ u ∈ fC x, u.oneCell' = true := by
  intro u hu
  simp only [fC, List.mem_cons, List.not_mem_nil, or_false] at hu
  rcases hu with rfl | rfl | rfl | rfl <;> rfl
theorem fCs_one (l : List (FauE × Nat × Nat)) : ∀ u ∈ l.flatMap fC, u.oneCell' = true := by
  intro u hu
  rw [List.mem_flatMap] at hu
  obtain ⟨p, _, h⟩ := hu
  exact fC_one p u h
theorem fC_len (l : List (FauE × Nat × Nat)) : (l.flatMap fC).length = l.length * 4 := flat_len (g := fC) (k := 4) (fun _ => rfl) l
theorem fC_get (L : List (FauE × Nat × Nat)) (i j : Nat) (hi : i < L.length) (hj : j < 4) : (fC L[i])[j]? = some (fcv (fE L) (fQ L) i j) := by
  have e : L.getD i fD = L[i] := by simp [List.getD, hi]
  rcases (by omega : j = 0 ∨ j = 1 ∨ j = 2 ∨ j = 3) with rfl | rfl | rfl | rfl <;> simp only [fC, fcv, fE, fQ, e] <;> rfl
theorem FOk.mono {W : World} {lo lo' : Nat} {x : FauE × Nat × Nat} (h : FOk W lo x) (hl : lo' ≤ lo) : FOk W lo' x := ⟨h.1, h.2.1, h.2.2.1, Nat.le_trans hl h.2.2.2.1, h.2.2.2.2⟩
theorem FOk.keep {W W' : World} {lo : Nat} {x : FauE × Nat × Nat} (h : FOk W lo x) (hs : W.heap.size ≤ W'.heap.size) (hk : W'.heap[x.2.1]? = W.heap[x.2.1]?) : FOk W' lo x :=
  ⟨h.1, h.2.1, h.2.2.1, h.2.2.2.1, Nat.lt_of_lt_of_le h.2.2.2.2.1 hs, fun i j hi hj => (World.cell?_of_block hk).trans (h.2.2.2.2.2 i j hi hj)⟩
theorem FOk.drawn {W W' : World} {lo cb M : Nat} {K : Code} {x : FauE × Nat × Nat} (h : FOk W lo x) (hd : Drawn W cb K M W') (hlo : cb < lo) : FOk W' lo x :=
  h.keep hd.1.size (hd.1.block _ h.2.2.2.2.1 (fun e => by injection e with e; have := h.2.2.2.1; omega))
theorem FOk.below {W W' : World} {lo : Nat} {x : FauE × Nat × Nat} (h : FOk W lo x) (hb : Below W.heap.size W W') : FOk W' lo x :=
  h.keep hb.size (hb.block _ h.2.2.2.2.1)
/-- A list of faults in blocks from lo up to top. -/
structure FS (lo : Nat) (W : World) (top g cap q : Nat) (L : List (FauE × Nat × Nat)) : Prop where
  len : L.length = q
  gt : lo ≤ g ∧ g < top
  tw : top ≤ W.heap.size
  row : W.ownsRow lo 36 4 (.slice (some ⟨g, 0, none⟩) q cap) q (L.flatMap fC)
  ok : ∀ x, x ∈ L → FOk W lo x ∧ x.2.1 < top
  ne : ∀ x, x ∈ L → x.2.1 ≠ g
theorem FS.keep {lo : Nat} {W W' : World} {top g cap q : Nat} {L : List (FauE × Nat × Nat)} (h : FS lo W top g cap q L) (hs : W.heap.size ≤ W'.heap.size) (hk : ∀ b, lo ≤ b → b < top → W'.heap[b]? = W.heap[b]?) : FS lo W' top g cap q L := by
  refine ⟨h.len, h.gt, Nat.le_trans h.tw hs, ⟨h.row.1, ?_⟩, fun x hx => ⟨(h.ok x hx).1.keep hs (hk _ (h.ok x hx).1.2.2.2.1 (h.ok x hx).2), (h.ok x hx).2⟩, h.ne⟩
  rcases h.row.2 with e | ⟨b, cp, cur, h1, h2, h3, h4⟩
  · exact .inl e
  · refine .inr ⟨b, cp, cur, h1, h2, (hk b h2 ?_).trans h3, h4⟩
    injection h1 with e1
    injection e1 with e1
    injection e1 with e1
    subst e1
    exact h.gt.2
theorem FS.drawn {lo : Nat} {W W' : World} {top g cap q cb M : Nat} {K : Code} {L : List (FauE × Nat × Nat)} (h : FS lo W top g cap q L) (hd : Drawn W cb K M W') (hlo : cb < lo) : FS lo W' top g cap q L :=
  h.keep hd.1.size fun b h1 h2 => hd.1.block b (Nat.lt_of_lt_of_le h2 h.tw) (fun e => by injection e with e; omega)
theorem FS.below {lo : Nat} {W W' : World} {top g cap q : Nat} {L : List (FauE × Nat × Nat)} (h : FS lo W top g cap q L) (hb : Below W.heap.size W W') : FS lo W' top g cap q L :=
  h.keep hb.size fun b _ h2 => hb.block b (Nat.lt_of_lt_of_le h2 h.tw)
theorem FS.more {lo : Nat} {W : World} {top top' g cap q : Nat} {L : List (FauE × Nat × Nat)} (h : FS lo W top g cap q L) (h1 : top ≤ top') (h2 : top' ≤ W.heap.size) : FS lo W top' g cap q L :=
  ⟨h.len, ⟨h.gt.1, by have := h.gt.2; omega⟩, h2, h.row, fun x hx => ⟨(h.ok x hx).1, by have := (h.ok x hx).2; omega⟩, h.ne⟩
theorem FS.list {lo : Nat} {W : World} {top g cap q : Nat} {L : List (FauE × Nat × Nat)} (h : FS lo W top g cap q L) : FauL W (some ⟨g, 0, none⟩) q (fE L) (fQ L) := by
  have hl := h.len
  refine ⟨fun hq => ⟨g, 0, rfl, Nat.lt_of_lt_of_le h.gt.2 h.tw, fun i j hi hj => ?_⟩, fun i hi hm => ?_⟩
  · have h1 := h.row.cells (g := g) rfl (i * 4 + j) (fcv (fE L) (fQ L) i j) (by rw [flat_get (g := fC) (k := 4) (fun _ => rfl) (by omega : i < L.length) hj, fC_get L i j (by omega) hj])
    rw [addr_atF] at h1
    have e0 : 0 + i * 4 + j = 0 + (i * 4 + j) := by omega
    rw [e0]; exact h1
  · have e : L.getD i fD = L[i]'(by omega) := by simp [List.getD, show i < L.length by omega]
    have hx := (h.ok (L[i]'(by omega)) (List.getElem_mem _)).1
    have e1 : fE L i = (L[i]'(by omega)).1 := by unfold fE; rw [e]
    have e2 : fQ L i = (some ⟨(L[i]'(by omega)).2.1, 0, none⟩, (L[i]'(by omega)).2.2) := by unfold fQ; rw [e]
    rw [e1] at hm ⊢
    rw [e2]
    exact ⟨_, 0, rfl, hx.2.2.2.2.1, fun a b ha hb => by
      have := hx.2.2.2.2.2 a b ha hb
      rw [Nat.zero_add]
      exact this⟩
theorem FS.cell2 {lo : Nat} {W : World} {top g cap q d : Nat} {L : List (FauE × Nat × Nat)} (h : FS lo W top g cap q L) (hd : d < q) : W.cell? ⟨g, d * 4 + 2, none⟩ = some (.slice (some ⟨(L.getD d fD).2.1, 0, none⟩) (L.getD d fD).1.m (L.getD d fD).2.2) := by
  have hl := h.len
  have h1 := h.row.cells (g := g) rfl (d * 4 + 2) (fcv (fE L) (fQ L) d 2) (by rw [flat_get (g := fC) (k := 4) (fun _ => rfl) (by omega : d < L.length) (by omega), fC_get L d 2 (by omega) (by omega)])
  rw [addr_atF, Nat.zero_add] at h1
  exact h1
theorem FS.at_ {lo : Nat} {W : World} {top g cap q d : Nat} {L : List (FauE × Nat × Nat)} (h : FS lo W top g cap q L) (hd : d < q) : FOk W lo (L.getD d fD) ∧ (L.getD d fD).2.1 < top := by
  have hl := h.len
  have e : L.getD d fD = L[d]'(by omega) := by simp [List.getD, show d < L.length by omega]
  rw [e]
  exact h.ok _ (List.getElem_mem _)
theorem row_frozenF {w : World} {base n s g cap : Nat} {E : TypeId} {xs : List Value} (h : w.ownsRow base E s (.slice (some ⟨g, 0, none⟩) n cap) n xs) : ∀ i, w.frozen? ⟨g, i, none⟩ = false := by
  rcases h.2 with ⟨e, _⟩ | ⟨b, cp, cur, h1, _, h3, _⟩
  · cases e
  · injection h1 with e1
    injection e1 with e1
    injection e1 with e1
    subst e1
    exact Blk.frozen h3
theorem row_farF' {w : World} {base n s : Nat} {E : TypeId} {v : Value} {xs : List Value} (h : w.ownsRow base E s v n xs) {p : Addr} (hp : p.block < base) (x : Value) : (w.setCell p x).ownsRow base E s v n xs := row_farF h hp x
/-- The bends of a fault as a list. -/
def lxF (x : FauE × Nat × Nat) : List (Int × Int) := (List.range x.1.m).map fun i => (x.1.Y i 0, x.1.Y i 1)
theorem lxF_len (x : FauE × Nat × Nat) : (lxF x).length = x.1.m := by simp [lxF]
theorem bC_len (l : List (Int × Int)) : (l.flatMap bC).length = l.length * 2 := flat_len (g := bC) (k := 2) (fun _ => rfl) l
theorem bCs_one (l : List (Int × Int)) : ∀ u ∈ l.flatMap bC, u.oneCell' = true := by
  intro u hu
  rw [List.mem_flatMap] at hu
  obtain ⟨p, _, h⟩ := hu
  exact bC_one p u h
theorem lxF_X (x : FauE × Nat × Nat) {i j : Nat} (hi : i < x.1.m) (hj : j < 2) : bX (lxF x) i j = x.1.Y i j := by
  have e : (lxF x).getD i (0, 0) = (x.1.Y i 0, x.1.Y i 1) := by simp [lxF, List.getD, hi]
  rcases (by omega : j = 0 ∨ j = 1) with rfl | rfl <;> simp only [bX, e] <;> rfl
theorem FOk.news {W : World} {lo : Nat} {x : FauE × Nat × Nat} (h : FOk W lo x) : ∀ j u, ((lxF x).flatMap bC)[j]? = some u → W.cell? ((⟨x.2.1, 0, none⟩ : Addr).add j) = some u := by
  intro j u hu
  have hj : j < ((lxF x).flatMap bC).length := (List.getElem?_eq_some_iff.1 hu).1
  rw [bC_len, lxF_len] at hj
  have e : j = (j / 2) * 2 + j % 2 := by omega
  have hi : j / 2 < x.1.m := by omega
  have hb : j % 2 < 2 := by omega
  rw [e, flat_get (g := bC) (k := 2) (fun _ => rfl) (by rw [lxF_len]; exact hi) hb, bC_get _ _ _ (by rw [lxF_len]; exact hi) hb, lxF_X x hi hb] at hu
  rw [addr_atF, Nat.zero_add, e, h.2.2.2.2.2 _ _ hi hb]
  exact hu
theorem FS.bd {lo : Nat} {W : World} {top g cap q : Nat} {L : List (FauE × Nat × Nat)} (h : FS lo W top g cap q L) : ∀ i, i < q → (fE L i).nm.size ≤ 1048576 ∧ (fE L i).m ≤ 1048576 := by
  intro i hi
  have hl := h.len
  have e : L.getD i fD = L[i]'(by omega) := by simp [List.getD, show i < L.length by omega]
  have hx := (h.ok (L[i]'(by omega)) (List.getElem_mem _)).1
  unfold fE
  rw [e]
  have h1 := hx.2.1; have h2 := hx.2.2.1
  omega
theorem FS.caps {lo : Nat} {W : World} {top g cap q : Nat} {L : List (FauE × Nat × Nat)} (h : FS lo W top g cap q L) : q ≤ cap ∧ cap ≤ maxLen := by
  rcases h.row.2 with ⟨e, _⟩ | ⟨b, cp, cur, h1, _, _, h4, h5, _⟩
  · cases e
  · injection h1 with _ _ e3; subst e3; exact ⟨h4, h5⟩
/-- One more. -/
theorem FS.snoc {lo : Nat} {W W' : World} {top g cap q g' cap' : Nat} {L : List (FauE × Nat × Nat)} {x : FauE × Nat × Nat} (h : FS lo W top g cap q L) (hx : FOk W lo x) (hb : Below W.heap.size W W') (hlo : lo ≤ W.heap.size) (hr : W'.ownsRow W.heap.size 36 4 (.slice (some ⟨g', 0, none⟩) (q + 1) cap') (q + 1) ((L ++ [x]).flatMap fC)) : FS lo W' W'.heap.size g' cap' (q + 1) (L ++ [x]) := by
  have hg := hr.lt g' rfl
  have hs := hb.size
  have hok : ∀ y, y ∈ L ++ [x] → FOk W' lo y ∧ y.2.1 < W.heap.size := fun y hy => by
    rcases List.mem_append.1 hy with hy | hy
    · exact ⟨(h.ok y hy).1.below hb, (h.ok y hy).1.2.2.2.2.1⟩
    · rw [List.mem_singleton] at hy
      subst hy
      exact ⟨hx.below hb, hx.2.2.2.2.1⟩
  exact ⟨by simp [h.len], ⟨by omega, hg.2⟩, Nat.le_refl _, row_base hr hlo, fun y hy => ⟨(hok y hy).1, by have := (hok y hy).2; omega⟩, fun y hy => by have := (hok y hy).2; omega⟩
/-- One more, at the end of the row itself. -/
theorem FS.grow {lo : Nat} {W V W' : World} {top g cap q g' cap' : Nat} {L : List (FauE × Nat × Nat)} {x : FauE × Nat × Nat} (h : FS lo W top g cap q L) (hb : Below W.heap.size W V) (hx : FOk V lo x) (hxg : W.heap.size ≤ x.2.1) (hgr : V.grownBy W' (some g)) (hf : g' = g ∨ V.heap.size ≤ g') (hr : W'.ownsRow lo 36 4 (.slice (some ⟨g', 0, none⟩) (q + 1) cap') (q + 1) ((L ++ [x]).flatMap fC)) : FS lo W' W'.heap.size g' cap' (q + 1) (L ++ [x]) := by
  have hg := hr.lt g' rfl
  have hs := hb.size; have hs2 := hgr.size
  have hgt := h.gt; have htw := h.tw
  have hok : ∀ y, y ∈ L ++ [x] → FOk W' lo y ∧ y.2.1 < V.heap.size ∧ y.2.1 ≠ g := fun y hy => by
    rcases List.mem_append.1 hy with hy | hy
    · have h1 := (h.ok y hy).1
      have h2 := h1.2.2.2.2.1
      refine ⟨(h1.below hb).keep hs2 (hgr.block _ (by omega) (fun e => h.ne y hy (by injection e))), by omega, h.ne y hy⟩
    · rw [List.mem_singleton] at hy
      subst hy
      exact ⟨hx.keep hs2 (hgr.block _ hx.2.2.2.2.1 (fun e => by injection e with e; omega)), hx.2.2.2.2.1, by omega⟩
  exact ⟨by simp [h.len], hg, Nat.le_refl _, hr, fun y hy => ⟨(hok y hy).1, by have := (hok y hy).2.1; omega⟩, fun y hy => by have := (hok y hy).2; omega⟩
def firstY (a b : Int) (l : List (Int × Int)) (i j : Nat) : Int := if i = 0 then (if j = 0 then a else b) else bX l i j
theorem first_cell {W : World} {base g cap m : Nat} {l : List (Int × Int)} (h : W.ownsRow base 26 2 (.slice (some ⟨g, 0, none⟩) m cap) m (l.flatMap bC)) (a b : Int) {i j : Nat} (hi : i < l.length) (hj : j < 2) :
    (((W.setCell ⟨g, 0, none⟩ (.int .i64 a)).setCell ⟨g, 1, none⟩ (.int .i64 b)).drew).cell? ⟨g, i * 2 + j, none⟩ = some (iv (firstY a b l) i j) := by
  have hc := fun (k j : Nat) (hk : k < l.length) (hj : j < 2) => b_cell h hk hj
  rcases h.2 with ⟨e, _⟩ | ⟨b0, cp, cur, h1, _, h3, _⟩
  · cases e
  · injection h1 with e1
    injection e1 with e1
    injection e1 with e1
    subst e1
    have hb3 : Blk W g 26 cur := h3
    have hb5 : Blk (((W.setCell ⟨g, 0, none⟩ (.int .i64 a)).setCell ⟨g, 1, none⟩ (.int .i64 b)).drew) g 26 ((cur.setIfInBounds 0 (.int .i64 a)).setIfInBounds 1 (.int .i64 b)) := blk_drewF ((hb3.set_ 0 _).set_ 1 _)
    have hck := hc i j hi hj
    rw [hb3.cell] at hck
    have hlt : i * 2 + j < cur.size := (Array.getElem?_eq_some_iff.1 hck).1
    rw [hb5.cell]
    simp only [Array.getElem?_setIfInBounds, Array.size_setIfInBounds, firstY, iv]
    by_cases h0 : i = 0
    · subst h0
      rcases (by omega : j = 0 ∨ j = 1) with rfl | rfl
      · rw [if_neg (by omega), if_pos (by omega), if_pos (by omega), if_pos rfl, if_pos rfl]
      · rw [if_pos (by omega), if_pos (by omega), if_pos rfl, if_neg (by omega)]
    · rw [if_neg (by omega), if_neg (by omega), if_neg h0]
      exact hck
theorem sF_of {W w' : World} {g : Nat} {x y z u : Value} (hc : Cells W g [x, y, z, u]) (h : Below W.heap.size W w') : Below W.heap.size W w' ∧ w'.cell? ⟨g, 0, none⟩ = some x ∧ w'.cell? ⟨g, 1, none⟩ = some y ∧ w'.cell? ⟨g, 2, none⟩ = some z ∧ w'.cell? ⟨g, 3, none⟩ = some u :=
  have k := hc.on h
  ⟨h, k.2 0 _ rfl, k.2 1 _ rfl, k.2 2 _ rfl, k.2 3 _ rfl⟩
theorem news_rowF {W w : World} {base n cap g B s : Nat} {E : TypeId} {xs : List Value} (h : W.ownsRow base E s (.slice (some ⟨g, 0, none⟩) n cap) n xs) (hb : Below B W w) (hg : g < B) :
    ∀ j u, xs[j]? = some u → w.cell? ((⟨g, 0, none⟩ : Addr).add j) = some u := by
  intro j u hu
  have h1 := h.cells (g := g) rfl _ _ hu
  rw [addr_atF, Nat.zero_add] at h1 ⊢
  rw [hb.cell (p := ⟨g, j, none⟩) hg]
  exact h1
theorem news_keptF {w w' : World} {v : Value} {b : Nat} {xs : List Value} (hk : ∀ b o, b < w.heap.size → v.ownBlock ≠ some b → w'.cell? ⟨b, o, none⟩ = w.cell? ⟨b, o, none⟩) (h : ∀ j u, xs[j]? = some u → w.cell? ((⟨b, 0, none⟩ : Addr).add j) = some u) (hb : b < w.heap.size) (hv : v.ownBlock ≠ some b) :
    ∀ j u, xs[j]? = some u → w'.cell? ((⟨b, 0, none⟩ : Addr).add j) = some u := fun j u hu => by
  have := h j u hu
  rw [addr_atF] at this ⊢
  rw [hk b _ hb hv]
  exact this
theorem news_alF {w : World} {o : Obj} {b : Nat} {xs : List Value} (h : ∀ j u, xs[j]? = some u → w.cell? ((⟨b, 0, none⟩ : Addr).add j) = some u) (hb : b < w.heap.size) : ∀ j u, xs[j]? = some u → (w.alloc o).cell? ((⟨b, 0, none⟩ : Addr).add j) = some u := fun j u hu => by
  have := h j u hu
  rw [addr_atF] at this ⊢
  exact (World.cell?_alloc_lt w o ⟨b, _, none⟩ hb).trans this
theorem cells_blk {w : World} {g : Nat} {t : TypeId} {x y z u : Value} (h : Blk w g t #[x, y, z, u]) : Cells w g [x, y, z, u] :=
  ⟨h.lt, fun j v hj => by
    rcases (by have := (List.getElem?_eq_some_iff.1 hj).1; simp at this; omega : j = 0 ∨ j = 1 ∨ j = 2 ∨ j = 3) with rfl | rfl | rfl | rfl <;> · simp at hj; subst hj; rw [h.cell]; rfl⟩
theorem info_faultD : (Try.prog.info? 36).map (fun i => (i.zero, i.size, i.bytes)) = some (some (.agg #[.int .i64 0, .string ByteArray.empty, .slice none 0 0, .int .i64 0]), 4, 56) := by kernel_rfl
set_option maxHeartbeats 8000000 in
set_option maxRecDepth 100000 in
theorem spec_faultsD (cb : Nat) (K : Code) (M : Nat) (w : World) (hM : M ≤ 700000000000) (h : Cur w cb K M) :
    Calls Try.prog 70 #[.pointer (some ⟨cb, 0, none⟩)] w fun e w' => ∃ (g cap q top : Nat) (L : List (FauE × Nat × Nat)), e = .returned (.slice (some ⟨g, 0, none⟩) q cap) ∧ q ≤ 8 ∧ FS w.heap.size w' top g cap q L ∧ Drawn w cb K (M + 2000) w' := by
  obtain ⟨i0, hi0, hy0, hy1, hy2⟩ := info_parts info_faultD
  have hcb := h.lt
  go_enter Try.func70, Try.ntmps70
  go_wp2_with fail
  refine (spec_pick cb K M 6 _ (by omega) (by omega) (h.alloc _)).mono ?_
  rintro e w2 ⟨N, rfl, n0, n1, _, hd⟩
  have n2 := n1 (by omega)
  obtain ⟨N, rfl⟩ : ∃ m : Nat, N = m := ⟨N.toNat, by omega⟩
  have hN : N ≤ 5 := by omega
  have HG2 := hide (show w.grownBy w2 (some cb) from World.grownBy.trans (by (repeat (first | with_reducible assumption | (with_reducible refine World.grownBy.trans ?_ (World.grownBy_alloc _ _ _)) | (with_reducible refine grown_setNew ?_ (by (first | with_reducible assumption | omega | (simp; done) | (simp; omega))) _) | with_reducible exact grown_refl _ _))) hd.1)
  have HC2 := hide hd.2
  have hfs0 : FS w.heap.size (w.alloc (.cells #[] 36)) (w.heap.size + 1) w.heap.size 0 0 [] := ⟨rfl, ⟨Nat.le_refl _, by omega⟩, by simp, row_new_at w w.heap.size w.heap.size 4 36 rfl (Nat.le_refl _), fun x hx => (by cases hx), fun x hx => (by cases hx)⟩
  have HS2 := hide (hfs0.drawn hd hcb)
  clear hd n0 n1 n2 hfs0
  go_wp2
  go_loopw [3, 4, 5] (fun s st y wr => ∃ (k m q g cap top : Nat) (z : Int) (L : List (FauE × Nat × Nat)), y = .int .i64 k ∧ m + k = N ∧ q ≤ m ∧ st = .int .i64 z ∧ 0 ≤ z ∧ z ≤ 3 * m ∧ s = .slice (some ⟨g, 0, none⟩) q cap ∧ w.grownBy wr (some cb) ∧ Cur wr cb K (M + 2 + 210 * m) ∧ FS w.heap.size wr top g cap q L) (fun _ _ y _ => (intOf y).toNat)
  case atStart => exact ⟨N, 0, 0, w.heap.size, 0, _, 0, [], rfl, by omega, by omega, rfl, by omega, by omega, rfl, HG2.out, HC2.out.more (by omega), HS2.out⟩
  case round =>
    obtain ⟨k, m, q, g, cap, top, z, L, rfl, hmk, hqm, rfl, z0, z1, rfl, hg, hc, hs⟩ := hrel
    clear HG2 HC2 HS2
    by_cases hk0 : 0 < k
    · have hkk : (k : Int) - 1 = ((k - 1 : Nat) : Int) := by omega
      go_wp2_with fail
      refine (spec_pick cb K (M + 2 + 210 * m) 3 _ (by omega) (by omega) hc).mono ?_
      rintro e w1 ⟨p, rfl, p0, p1, _, hd⟩
      have p2 := p1 (by omega)
      have hg1 := (show w.grownBy wr (some cb) from hg).trans hd.1
      have hc1 := hd.2
      have hs1 := hs.drawn hd hcb
      clear hd hg hc hs p1
      go_wp2_with fail
      refine (spec_faultD cb K _ _ _ (by omega) hc1).mono ?_
      rintro e w2 ⟨x, rfl, hx, hd⟩
      have hg2 := hg1.trans hd.1
      have hz2 := hg1.size
      have HX2 := hide (hx.mono (by omega) : FOk w2 w.heap.size x)
      have HXB := hide (show x.2.1 ≠ w2.heap.size from Nat.ne_of_lt hx.2.2.2.2.1)
      have hs2 := hs1.drawn hd hcb
      have HAL := hide (show Below w2.heap.size w2 (w2.alloc (.cells #[.int .i64 x.1.id, .string x.1.nm, .slice (some ⟨x.2.1, 0, none⟩) x.1.m x.2.2, .int .i64 x.1.sl] 36)) from below_al (Below.refl _ _))
      have HF2 := hide (Blk.new w2 36 #[.int .i64 x.1.id, .string x.1.nm, .slice (some ⟨x.2.1, 0, none⟩) x.1.m x.2.2, .int .i64 x.1.sl])
      have HG2 := hide hg2
      have HC2 := hide hd.2
      have HS2 := hide (hs2.more hs2.tw (Nat.le_refl _))
      have hsz2 := hg2.size
      have hcf : cb < w2.heap.size := by omega
      have hxm := HX2.out.1
      clear hd hg1 hc1 hs1 hx hg2 hs2
      by_cases hq0 : q = 0
      · subst hq0
        have HS := hide (HS2.out.below HAL.out)
        have HG := hide (grown_belowC HG2.out HAL.out)
        have HC := hide (HC2.out.on HAL.out)
        have HF := hide HF2.out
        have HX := hide (HX2.out.below HAL.out)
        clear HS2 HG2 HC2 HF2 HX2 HAL
        have HCL := hide (cells_blk HF.out)
        have l0 := HCL.out.2 0 _ rfl; have l1 := HCL.out.2 1 _ rfl; have l2 := HCL.out.2 2 _ rfl; have l3 := HCL.out.2 3 _ rfl; have l4 := HCL.out.1
        have hlw : w.heap.size ≤ (w2.alloc (.cells #[.int .i64 x.1.id, .string x.1.nm, .slice (some ⟨x.2.1, 0, none⟩) x.1.m x.2.2, .int .i64 x.1.sl] 36)).heap.size := HG.out.size
        have hgw : g < (w2.alloc (.cells #[.int .i64 x.1.id, .string x.1.nm, .slice (some ⟨x.2.1, 0, none⟩) x.1.m x.2.2, .int .i64 x.1.sl] 36)).heap.size := Nat.lt_of_lt_of_le HS.out.gt.2 HS.out.tw
        have hcaps := HS.out.caps
        have hS0 := sF_of HCL.out (Below.refl _ _).drew
        go_wp2
        go_region_held3 (fun w' => Below (w2.alloc (.cells #[.int .i64 x.1.id, .string x.1.nm, .slice (some ⟨x.2.1, 0, none⟩) x.1.m x.2.2, .int .i64 x.1.sl] 36)).heap.size (w2.alloc (.cells #[.int .i64 x.1.id, .string x.1.nm, .slice (some ⟨x.2.1, 0, none⟩) x.1.m x.2.2, .int .i64 x.1.sl] 36)) w' ∧ w'.cell? ⟨w2.heap.size, 0, none⟩ = some (.int .i64 x.1.id) ∧ w'.cell? ⟨w2.heap.size, 1, none⟩ = some (.string x.1.nm) ∧ w'.cell? ⟨w2.heap.size, 2, none⟩ = some (.slice (some ⟨x.2.1, 0, none⟩) x.1.m x.2.2) ∧ w'.cell? ⟨w2.heap.size, 3, none⟩ = some (.int .i64 x.1.sl)) (first | assumption | exact sF_of HCL.out (by first | assumption | exact And.left (by assumption) | exact below_al (by assumption) | exact below_al (And.left (by assumption)) | go_grown)) (first
          | (refine step_app_b (w2.alloc (.cells #[.int .i64 x.1.id, .string x.1.nm, .slice (some ⟨x.2.1, 0, none⟩) x.1.m x.2.2, .int .i64 x.1.sl] 36)) _ (by rfl) _ _ _ (by rfl) 36 i0 (.agg #[.int .i64 0, .string ByteArray.empty, .slice none 0 0, .int .i64 0]) 4 56 Try.underlying47 hi0 hy0 hy1 hy2 rfl (by decide) (.slice (some ⟨_, 0, none⟩) 0 0) 0 [] (by rfl) (by first | assumption | exact And.left (by assumption) | exact below_al (by assumption) | exact below_al (And.left (by assumption)) | go_grown) (by first | exact row_new_at _ _ _ _ _ (by first | rfl | simp) (by first | exact Nat.le_refl _ | simp) | exact (row_new_at _ _ _ _ _ (by first | rfl | simp) (by first | exact Nat.le_refl _ | simp)).alloc _) ⟨g, 0, none⟩ 0 cap (L.flatMap fC) (by rfl) (by rw [fC_len, HS.out.len]) (news_rowF HS.out.row (by first | assumption | exact And.left (by assumption) | exact below_al (by assumption) | exact below_al (And.left (by assumption)) | go_grown) hgw) (fCs_one _) (by unfold maxLen; omega) (by omega) ?_; intro v2 wa hb2 ho2 hk2 hz2)
          | (refine step_app_b (w2.alloc (.cells #[.int .i64 x.1.id, .string x.1.nm, .slice (some ⟨x.2.1, 0, none⟩) x.1.m x.2.2, .int .i64 x.1.sl] 36)) _ (by rfl) _ _ _ (by rfl) 36 i0 (.agg #[.int .i64 0, .string ByteArray.empty, .slice none 0 0, .int .i64 0]) 4 56 Try.underlying47 hi0 hy0 hy1 hy2 rfl (by decide) _ (0 + 0) ([] ++ L.flatMap fC) (by rfl) (by first | assumption | exact And.left (by assumption) | exact below_al (by assumption) | exact below_al (And.left (by assumption)) | go_grown) (by first | exact ho2.alloc _ | exact ho2) _ 1 1 (fC x) (by rfl) rfl (by first | exact cells_at _ _ _ _ (by first | rfl | simp) | exact news_keptF hk2 (cells_at _ _ _ _ (by first | rfl | simp)) (by first | (simp; done) | (simp; omega)) (by simp [Value.ownBlock]) | exact news_keptF hk2 (news_alF (cells_at _ _ _ _ (by first | rfl | simp)) (by first | (simp; done) | (simp; omega))) (by first | (simp; done) | (simp; omega)) (by simp [Value.ownBlock])) (fC_one _) (by unfold maxLen; omega) (by omega) ?_; intro v3 wb hb3 ho3 hk3 hz3))
        all_goals
          have hrow := ho3
          rw [show 0 + 0 + 1 = 0 + 1 from by omega, List.nil_append, flat_snoc] at hrow
          obtain ⟨g3, cap3, rfl, _, _⟩ := row_formF hrow (Nat.succ_pos _)
          have HS3 := hide (HS.out.snoc HX.out hb3 hlw hrow)
          have HG3 := hide (grown_belowC HG.out hb3)
          have HC3 := hide (HC.out.on hb3)
          have HO3 := hide (HS.out.below hb3)
          obtain ⟨v, hv⟩ : ∃ v, fausB (0 + 1) (fE (L ++ [x])) = v := ⟨_, rfl⟩
          have HV := hide hv
          clear hb2 ho2 hk2 hz2 hb3 ho3 hk3 hz3 hrow l0 l1 l2 l3 l4 HCL hS0 HF HX hv
          go_wp2_with fail
          refine (spec_good18 _ (0 + 1) cap3 (fE (L ++ [x])) (fQ (L ++ [x])) v HV.out _ (by omega) HS3.out.bd HS3.out.list).mono ?_
          rintro e w6 ⟨rfl, hb6⟩
          have HS6 := hide (HS3.out.below hb6); have HO6 := hide (HO3.out.below hb6); have HG6 := hide (grown_belowC HG3.out hb6); have HC6 := hide (HC3.out.on hb6)
          clear HS3 HO3 HG3 HC3 hb6
          cases v
          · go_wp2_with fail
            refine (spec_one cb K (M + 2 + 210 * m + 2 + 200) 50 _ (by omega) (by omega) HC6.out).mono ?_
            rintro e w7 ⟨u7, rfl, hd7⟩
            have HS7 := hide (HS6.out.drawn hd7 hcb); have HO7 := hide (HO6.out.drawn hd7 hcb); have HG7 := hide (HG6.out.trans hd7.1); have HC7 := hide hd7.2
            clear HS6 HO6 HG6 HC6 hd7
            cases u7
            · go_wp2
              go_roundw
              case rel => exact ⟨k - 1, m + 1, 0, g, cap, _, _, L, by go_num, by omega, by omega, rfl, by omega, by omega, rfl, HG7.out, HC7.out.more (by omega), HO7.out⟩
              case measure => simp [intOf]; omega
            · go_wp2
              go_roundw
              case rel => exact ⟨k - 1, m + 1, 0 + 1, g3, cap3, _, _, _, by go_num, by omega, by omega, rfl, by omega, by omega, rfl, HG7.out, HC7.out.more (by omega), HS7.out⟩
              case measure => simp [intOf]; omega
          · go_wp2
            go_roundw
            case rel => exact ⟨k - 1, m + 1, 0 + 1, g3, cap3, _, _, _, by go_num, by omega, by omega, rfl, by omega, by omega, rfl, HG6.out, HC6.out.more (by omega), HS6.out⟩
            case measure => simp [intOf]; omega
      · have hq1 : (0 : Int) < (q : Int) := by omega
        have hqd : decide ((0 : Int) < (q : Int)) = true := decide_eq_true hq1
        go_wp2_with fail
        refine (spec_one cb K _ 3 _ (by omega) (by omega) (HC2.out.on HAL.out)).mono ?_
        rintro e w3 ⟨u, rfl, hd⟩
        have HS := hide ((HS2.out.below HAL.out).drawn hd hcb)
        have HG := hide ((grown_belowC HG2.out HAL.out).trans hd.1)
        have HC := hide hd.2
        have HF := hide (blk_drawn hd HF2.out hcf)
        have HX := hide ((HX2.out.below HAL.out).drawn hd hcb)
        have hsz3 := HG.out.size
        clear hd HS2 HG2 HC2 HF2 HX2 HAL
        cases u
        · skip
          have HCL := hide (cells_blk HF.out)
          have l0 := HCL.out.2 0 _ rfl; have l1 := HCL.out.2 1 _ rfl; have l2 := HCL.out.2 2 _ rfl; have l3 := HCL.out.2 3 _ rfl; have l4 := HCL.out.1
          have hlw : w.heap.size ≤ w3.heap.size := HG.out.size
          have hgw : g < w3.heap.size := Nat.lt_of_lt_of_le HS.out.gt.2 HS.out.tw
          have hcaps := HS.out.caps
          have hS0 := sF_of HCL.out (Below.refl _ _).drew
          go_wp2
          go_region_held3 (fun w' => Below w3.heap.size w3 w' ∧ w'.cell? ⟨w2.heap.size, 0, none⟩ = some (.int .i64 x.1.id) ∧ w'.cell? ⟨w2.heap.size, 1, none⟩ = some (.string x.1.nm) ∧ w'.cell? ⟨w2.heap.size, 2, none⟩ = some (.slice (some ⟨x.2.1, 0, none⟩) x.1.m x.2.2) ∧ w'.cell? ⟨w2.heap.size, 3, none⟩ = some (.int .i64 x.1.sl)) (first | assumption | exact sF_of HCL.out (by first | assumption | exact And.left (by assumption) | exact below_al (by assumption) | exact below_al (And.left (by assumption)) | go_grown)) (first
            | (refine step_app_b w3 _ (by rfl) _ _ _ (by rfl) 36 i0 (.agg #[.int .i64 0, .string ByteArray.empty, .slice none 0 0, .int .i64 0]) 4 56 Try.underlying47 hi0 hy0 hy1 hy2 rfl (by decide) (.slice (some ⟨_, 0, none⟩) 0 0) 0 [] (by rfl) (by first | assumption | exact And.left (by assumption) | exact below_al (by assumption) | exact below_al (And.left (by assumption)) | go_grown) (by first | exact row_new_at _ _ _ _ _ (by first | rfl | simp) (by first | exact Nat.le_refl _ | simp) | exact (row_new_at _ _ _ _ _ (by first | rfl | simp) (by first | exact Nat.le_refl _ | simp)).alloc _) ⟨g, 0, none⟩ q cap (L.flatMap fC) (by rfl) (by rw [fC_len, HS.out.len]) (news_rowF HS.out.row (by first | assumption | exact And.left (by assumption) | exact below_al (by assumption) | exact below_al (And.left (by assumption)) | go_grown) hgw) (fCs_one _) (by unfold maxLen; omega) (by omega) ?_; intro v2 wa hb2 ho2 hk2 hz2)
            | (refine step_app_b w3 _ (by rfl) _ _ _ (by rfl) 36 i0 (.agg #[.int .i64 0, .string ByteArray.empty, .slice none 0 0, .int .i64 0]) 4 56 Try.underlying47 hi0 hy0 hy1 hy2 rfl (by decide) _ (0 + q) ([] ++ L.flatMap fC) (by rfl) (by first | assumption | exact And.left (by assumption) | exact below_al (by assumption) | exact below_al (And.left (by assumption)) | go_grown) (by first | exact ho2.alloc _ | exact ho2) _ 1 1 (fC x) (by rfl) rfl (by first | exact cells_at _ _ _ _ (by first | rfl | simp) | exact news_keptF hk2 (cells_at _ _ _ _ (by first | rfl | simp)) (by first | (simp; done) | (simp; omega)) (by simp [Value.ownBlock]) | exact news_keptF hk2 (news_alF (cells_at _ _ _ _ (by first | rfl | simp)) (by first | (simp; done) | (simp; omega))) (by first | (simp; done) | (simp; omega)) (by simp [Value.ownBlock])) (fC_one _) (by unfold maxLen; omega) (by omega) ?_; intro v3 wb hb3 ho3 hk3 hz3))
          all_goals
            have hrow := ho3
            rw [show 0 + q + 1 = q + 1 from by omega, List.nil_append, flat_snoc] at hrow
            obtain ⟨g3, cap3, rfl, _, _⟩ := row_formF hrow (Nat.succ_pos _)
            have HS3 := hide (HS.out.snoc HX.out hb3 hlw hrow)
            have HG3 := hide (grown_belowC HG.out hb3)
            have HC3 := hide (HC.out.on hb3)
            have HO3 := hide (HS.out.below hb3)
            obtain ⟨v, hv⟩ : ∃ v, fausB (q + 1) (fE (L ++ [x])) = v := ⟨_, rfl⟩
            have HV := hide hv
            clear hb2 ho2 hk2 hz2 hb3 ho3 hk3 hz3 hrow l0 l1 l2 l3 l4 HCL hS0 HF HX hv
            go_wp2_with fail
            refine (spec_good18 _ (q + 1) cap3 (fE (L ++ [x])) (fQ (L ++ [x])) v HV.out _ (by omega) HS3.out.bd HS3.out.list).mono ?_
            rintro e w6 ⟨rfl, hb6⟩
            have HS6 := hide (HS3.out.below hb6); have HO6 := hide (HO3.out.below hb6); have HG6 := hide (grown_belowC HG3.out hb6); have HC6 := hide (HC3.out.on hb6)
            clear HS3 HO3 HG3 HC3 hb6
            cases v
            · go_wp2_with fail
              refine (spec_one cb K (M + 2 + 210 * m + 2 + 200 + 2) 50 _ (by omega) (by omega) HC6.out).mono ?_
              rintro e w7 ⟨u7, rfl, hd7⟩
              have HS7 := hide (HS6.out.drawn hd7 hcb); have HO7 := hide (HO6.out.drawn hd7 hcb); have HG7 := hide (HG6.out.trans hd7.1); have HC7 := hide hd7.2
              clear HS6 HO6 HG6 HC6 hd7
              cases u7
              · go_wp2
                go_roundw
                case rel => exact ⟨k - 1, m + 1, q, g, cap, _, _, L, by go_num, by omega, by omega, rfl, by omega, by omega, rfl, HG7.out, HC7.out.more (by omega), HO7.out⟩
                case measure => simp [intOf]; omega
              · go_wp2
                go_roundw
                case rel => exact ⟨k - 1, m + 1, q + 1, g3, cap3, _, _, _, by go_num, by omega, by omega, rfl, by omega, by omega, rfl, HG7.out, HC7.out.more (by omega), HS7.out⟩
                case measure => simp [intOf]; omega
            · go_wp2
              go_roundw
              case rel => exact ⟨k - 1, m + 1, q + 1, g3, cap3, _, _, _, by go_num, by omega, by omega, rfl, by omega, by omega, rfl, HG6.out, HC6.out.more (by omega), HS6.out⟩
              case measure => simp [intOf]; omega
        · skip
          obtain ⟨d, rfl⟩ : ∃ d, q = d + 1 := ⟨q - 1, by omega⟩
          obtain ⟨j0, hj0, hk1, hk2, hk3⟩ := info_parts info_bend
          have hy := HS.out.at_ (d := d) (by omega)
          have hcl := HS.out.cell2 (d := d) (by omega)
          obtain ⟨y, hye⟩ : ∃ y, L.getD d fD = y := ⟨_, rfl⟩
          rw [hye] at hy hcl
          clear hye
          have hgt := HS.out.gt; have htw := HS.out.tw
          have hyl := hy.1.2.2.2.2.1
          obtain ⟨r, hr⟩ : ∃ r, y.1.m = r + 1 := ⟨y.1.m - 1, by have := hy.1.1; omega⟩
          have o0 := hy.1.2.2.2.2.2 r 0 (by omega) (by omega); have o1 := hy.1.2.2.2.2.2 r 1 (by omega) (by omega)
          simp only [Nat.add_zero, iv] at o0 o1
          rw [hr] at hcl
          have k2 := HF.out.cell 2
          simp at k2
          have kf := HF.out.frozen 2
          have kl := HF.out.lt
          have hgl : g < w3.heap.size := by omega
          have HY := hide hy.2
          have hxlt := HX.out.2.2.2.2.1
          have hxm2 := HX.out.2.1
          go_wp2_with (at_builtin; refine wpList_append_far _ rfl _ _ 34 rfl w3.heap.size 26 j0 (.agg #[.int .i64 0, .int .i64 0]) 2 16 Try.underlying34 hj0 hk1 hk2 hk3 rfl (by decide) _ _ _ (by rfl) (row_new_at w3 w3.heap.size w3.heap.size 2 26 rfl (Nat.le_refl _)) ⟨x.2.1, 0, none⟩ x.1.m x.2.2 ((lxF x).flatMap bC) (by rfl) (by rw [bC_len, lxF_len]) (HX.out.below (below_al (Below.refl _ _))).news (bCs_one _) (by unfold maxLen; omega) (by omega) (by simp only [World.size_alloc]; omega) ?_; intro v6 w6 hown6 hgrow6 _; obtain ⟨g6, cap6, rfl, hm6, hx6⟩ := row_formF hown6 (by omega); have hF6 := blk_apart (HF.out.alloc (.cells #[] 26)) hgrow6 (fun b hb => by simp only [Value.ownBlock, Option.some.injEq] at hb; omega); have q2 := hF6.cell 2; have qf2 := hF6.frozen 2; simp at q2; have ql := hF6.lt)
          rw [Nat.zero_add, List.nil_append] at hown6
          have hown7 := row_farF' hown6 (p := ⟨w2.heap.size, 2, none⟩) (by show w2.heap.size < w3.heap.size; exact kl) (.slice (some ⟨g6, 0, none⟩) x.1.m cap6)
          have hz6 : w3.heap.size < w6.heap.size := by have := hgrow6.size; simp only [World.size_alloc] at this; omega
          have hbb : ∀ b, b < w3.heap.size → b ≠ w2.heap.size → (w6.setCell ⟨w2.heap.size, 2, none⟩ (.slice (some ⟨g6, 0, none⟩) x.1.m cap6)).heap[b]? = w3.heap[b]? := fun b h1 h2 =>
            (Below.heap_setCell _ _ _ b h2).trans ((hgrow6.block b (by simp only [World.size_alloc]; omega) (fun e => by simp only [Value.ownBlock, Option.some.injEq] at e; omega)).trans (Below.heap_alloc w3 _ b h1))
          have hF7 := blk_set_toF hF6 2 (.slice (some ⟨g6, 0, none⟩) x.1.m cap6) (cs' := #[.int .i64 x.1.id, .string x.1.nm, .slice (some ⟨g6, 0, none⟩) x.1.m cap6, .int .i64 x.1.sl]) rfl
          have HS7 := hide (HS.out.keep (W' := w6.setCell ⟨w2.heap.size, 2, none⟩ (.slice (some ⟨g6, 0, none⟩) x.1.m cap6)) (by simp only [World.size_setCell]; omega) (fun b _ h2 => hbb b (by omega) (by omega)))
          have hxb : x.2.1 ≠ w2.heap.size := HXB.out
          have HX7 := hide (HX.out.keep (W' := w6.setCell ⟨w2.heap.size, 2, none⟩ (.slice (some ⟨g6, 0, none⟩) x.1.m cap6)) (by simp only [World.size_setCell]; omega) (hbb _ hxlt hxb))
          have hg7 : w.grownBy (w6.setCell ⟨w2.heap.size, 2, none⟩ (.slice (some ⟨g6, 0, none⟩) x.1.m cap6)) (some cb) := grown_setNew (grown_new (HG.out.trans (World.grownBy_alloc _ _ _)) hgrow6 (fun b hb => by simp only [Value.ownBlock, Option.some.injEq] at hb; omega)) (p := ⟨w2.heap.size, 2, none⟩) (by show w.heap.size ≤ w2.heap.size; omega) _
          have hc7 := ((HC.out.alloc (.cells #[] 26)).apart hgrow6 (fun b hb => by simp only [Value.ownBlock, Option.some.injEq] at hb; omega)).setCell (p := ⟨w2.heap.size, 2, none⟩) hcf (.slice (some ⟨g6, 0, none⟩) x.1.m cap6)
          have o2 := (World.cell?_of_block (a := ⟨y.2.1, r * 2, none⟩) (hbb y.2.1 hyl (by omega))).trans o0
          have o3 := (World.cell?_of_block (a := ⟨y.2.1, r * 2 + 1, none⟩) (hbb y.2.1 hyl (by omega))).trans o1
          have hgl6 := (hown7.lt g6 rfl)
          have q3 := hF7.cell 2
          simp at q3
          have t0 := b_cell hown7 (k := 0) (j := 0) (by rw [lxF_len]; omega) (by omega)
          have t1 := b_cell hown7 (k := 0) (j := 1) (by rw [lxF_len]; omega) (by omega)
          have tf := row_frozenF hown7
          have HG7 := hide hg7; have HC7 := hide hc7; have HF7 := hide hF7; have HW7 := hide hown7
          have hz7 : (w6.setCell ⟨w2.heap.size, 2, none⟩ (.slice (some ⟨g6, 0, none⟩) x.1.m cap6)).heap.size = w6.heap.size := by simp only [World.size_setCell]
          obtain ⟨w7, hw7⟩ : ∃ X, X = w6.setCell ⟨w2.heap.size, 2, none⟩ (.slice (some ⟨g6, 0, none⟩) x.1.m cap6) := ⟨_, rfl⟩
          rw [← hw7] at HS7 HX7 HG7 HC7 HF7 HW7 o2 o3 q3 t0 t1 tf hgl6 hz7 ⊢
          have tf0 := tf 0; have tf1 := tf 1
          have hjr : IntKind.i64.wrap (r : Int) = (r : Int) := IntWalk.i64_in _ (by have := hy.1.2.1; omega)
          have hj1 : (0 : Int) ≤ (r : Int) := by omega
          have hj2 : (r : Int) < (r : Int) + 1 := by omega
          have hxp : 0 < x.1.m := by omega
          have hxp2 : (0 : Int) < (x.1.m : Int) := by omega
          simp only [Nat.zero_mul, Nat.zero_add, Nat.add_zero] at t0 t1
          clear hown6 hgrow6 hF6 q2 qf2 ql hown7 hg7 hc7 hF7 hbb tf o0 o1 hcl k2 kf hw7 HS HG HC HF HX
          go_wp2
          go_region
          clear o2 o3 q3 t0 t1 tf0 tf1 hjr hj1 hj2
          obtain ⟨a, ha⟩ : ∃ a, y.1.Y r 0 = a := ⟨_, rfl⟩
          obtain ⟨b, hb⟩ : ∃ b, y.1.Y r 1 = b := ⟨_, rfl⟩
          rw [ha, hb]
          have hg36 : w3.heap.size ≤ g6 := hgl6.1
          have HS := hide (HS7.out.keep (W' := ((w7.setCell ⟨g6, 0, none⟩ (.int .i64 a)).setCell ⟨g6, 1, none⟩ (.int .i64 b)).drew) (by simp only [World.size_drew, World.size_setCell]; omega) (fun c _ h2 => (Below.heap_setCell _ _ _ c (by show c ≠ g6; omega)).trans (Below.heap_setCell _ _ _ c (by show c ≠ g6; omega))))
          have HG := hide (grown_drewF (grown_setNew (grown_setNew HG7.out (p := ⟨g6, 0, none⟩) (by show w.heap.size ≤ g6; omega) (.int .i64 a)) (p := ⟨g6, 1, none⟩) (by show w.heap.size ≤ g6; omega) (.int .i64 b)))
          have HC := hide (Cur.drewF ((HC7.out.setCell (p := ⟨g6, 0, none⟩) (by show cb < g6; omega) (.int .i64 a)).setCell (p := ⟨g6, 1, none⟩) (by show cb < g6; omega) (.int .i64 b)))
          obtain ⟨x8, HX, HF⟩ : ∃ x8 : FauE × Nat × Nat, Hid (FOk (((w7.setCell ⟨g6, 0, none⟩ (.int .i64 a)).setCell ⟨g6, 1, none⟩ (.int .i64 b)).drew) w.heap.size x8) ∧ Hid (Blk (((w7.setCell ⟨g6, 0, none⟩ (.int .i64 a)).setCell ⟨g6, 1, none⟩ (.int .i64 b)).drew) w2.heap.size 36 #[.int .i64 x8.1.id, .string x8.1.nm, .slice (some ⟨x8.2.1, 0, none⟩) x8.1.m x8.2.2, .int .i64 x8.1.sl]) :=
            ⟨(⟨x.1.id, x.1.nm, x.1.m, firstY a b (lxF x), x.1.sl⟩, g6, cap6), hide ⟨hxm, hxm2, HX7.out.2.2.1, by show w.heap.size ≤ g6; omega, by show g6 < _; simp only [World.size_drew, World.size_setCell]; exact hgl6.2, fun i j hi hj => first_cell HW7.out a b (by rw [lxF_len]; exact hi) hj⟩,
             hide (blk_drewF (blk_set_farF (blk_set_farF HF7.out (b := g6) (i := 0) (by omega) _) (b := g6) (i := 1) (by omega) _))⟩
          obtain ⟨w8, hw8⟩ : ∃ X, X = ((w7.setCell ⟨g6, 0, none⟩ (.int .i64 a)).setCell ⟨g6, 1, none⟩ (.int .i64 b)).drew := ⟨_, rfl⟩
          rw [← hw8] at HS HG HC HX HF ⊢
          clear hw8 HS7 HG7 HC7 HX7 HF7 HW7 ha hb hgl6 hy hgt htw hyl hr HY hxlt hz7 HXB
          have HCL := hide (cells_blk HF.out)
          have l0 := HCL.out.2 0 _ rfl; have l1 := HCL.out.2 1 _ rfl; have l2 := HCL.out.2 2 _ rfl; have l3 := HCL.out.2 3 _ rfl; have l4 := HCL.out.1
          have hlw : w.heap.size ≤ w8.heap.size := HG.out.size
          have hgw : g < w8.heap.size := Nat.lt_of_lt_of_le HS.out.gt.2 HS.out.tw
          have hcaps := HS.out.caps
          have hS0 := sF_of HCL.out (Below.refl _ _).drew
          go_wp2
          go_region_held3 (fun w' => Below w8.heap.size w8 w' ∧ w'.cell? ⟨w2.heap.size, 0, none⟩ = some (.int .i64 x8.1.id) ∧ w'.cell? ⟨w2.heap.size, 1, none⟩ = some (.string x8.1.nm) ∧ w'.cell? ⟨w2.heap.size, 2, none⟩ = some (.slice (some ⟨x8.2.1, 0, none⟩) x8.1.m x8.2.2) ∧ w'.cell? ⟨w2.heap.size, 3, none⟩ = some (.int .i64 x8.1.sl)) (first | assumption | exact sF_of HCL.out (by first | assumption | exact And.left (by assumption) | exact below_al (by assumption) | exact below_al (And.left (by assumption)) | go_grown)) (first
            | (refine step_app_b w8 _ (by rfl) _ _ _ (by rfl) 36 i0 (.agg #[.int .i64 0, .string ByteArray.empty, .slice none 0 0, .int .i64 0]) 4 56 Try.underlying47 hi0 hy0 hy1 hy2 rfl (by decide) (.slice (some ⟨_, 0, none⟩) 0 0) 0 [] (by rfl) (by first | assumption | exact And.left (by assumption) | exact below_al (by assumption) | exact below_al (And.left (by assumption)) | go_grown) (by first | exact row_new_at _ _ _ _ _ (by first | rfl | simp) (by first | exact Nat.le_refl _ | simp) | exact (row_new_at _ _ _ _ _ (by first | rfl | simp) (by first | exact Nat.le_refl _ | simp)).alloc _) ⟨g, 0, none⟩ (d + 1) cap (L.flatMap fC) (by rfl) (by rw [fC_len, HS.out.len]) (news_rowF HS.out.row (by first | assumption | exact And.left (by assumption) | exact below_al (by assumption) | exact below_al (And.left (by assumption)) | go_grown) hgw) (fCs_one _) (by unfold maxLen; omega) (by omega) ?_; intro v2 wa hb2 ho2 hk2 hz2)
            | (refine step_app_b w8 _ (by rfl) _ _ _ (by rfl) 36 i0 (.agg #[.int .i64 0, .string ByteArray.empty, .slice none 0 0, .int .i64 0]) 4 56 Try.underlying47 hi0 hy0 hy1 hy2 rfl (by decide) _ (0 + (d + 1)) ([] ++ L.flatMap fC) (by rfl) (by first | assumption | exact And.left (by assumption) | exact below_al (by assumption) | exact below_al (And.left (by assumption)) | go_grown) (by first | exact ho2.alloc _ | exact ho2) _ 1 1 (fC x8) (by rfl) rfl (by first | exact cells_at _ _ _ _ (by first | rfl | simp) | exact news_keptF hk2 (cells_at _ _ _ _ (by first | rfl | simp)) (by first | (simp; done) | (simp; omega)) (by simp [Value.ownBlock]) | exact news_keptF hk2 (news_alF (cells_at _ _ _ _ (by first | rfl | simp)) (by first | (simp; done) | (simp; omega))) (by first | (simp; done) | (simp; omega)) (by simp [Value.ownBlock])) (fC_one _) (by unfold maxLen; omega) (by omega) ?_; intro v3 wb hb3 ho3 hk3 hz3))
          all_goals
            have hrow := ho3
            rw [show 0 + (d + 1) + 1 = (d + 1) + 1 from by omega, List.nil_append, flat_snoc] at hrow
            obtain ⟨g3, cap3, rfl, _, _⟩ := row_formF hrow (Nat.succ_pos _)
            have HS3 := hide (HS.out.snoc HX.out hb3 hlw hrow)
            have HG3 := hide (grown_belowC HG.out hb3)
            have HC3 := hide (HC.out.on hb3)
            have HO3 := hide (HS.out.below hb3)
            obtain ⟨v, hv⟩ : ∃ v, fausB ((d + 1) + 1) (fE (L ++ [x8])) = v := ⟨_, rfl⟩
            have HV := hide hv
            clear hb2 ho2 hk2 hz2 hb3 ho3 hk3 hz3 hrow l0 l1 l2 l3 l4 HCL hS0 HF HX hv
            go_wp2_with fail
            refine (spec_good18 _ ((d + 1) + 1) cap3 (fE (L ++ [x8])) (fQ (L ++ [x8])) v HV.out _ (by omega) HS3.out.bd HS3.out.list).mono ?_
            rintro e w6 ⟨rfl, hb6⟩
            have HS6 := hide (HS3.out.below hb6); have HO6 := hide (HO3.out.below hb6); have HG6 := hide (grown_belowC HG3.out hb6); have HC6 := hide (HC3.out.on hb6)
            clear HS3 HO3 HG3 HC3 hb6
            cases v
            · go_wp2_with fail
              refine (spec_one cb K (M + 2 + 210 * m + 2 + 200 + 2) 50 _ (by omega) (by omega) HC6.out).mono ?_
              rintro e w7 ⟨u7, rfl, hd7⟩
              have HS7 := hide (HS6.out.drawn hd7 hcb); have HO7 := hide (HO6.out.drawn hd7 hcb); have HG7 := hide (HG6.out.trans hd7.1); have HC7 := hide hd7.2
              clear HS6 HO6 HG6 HC6 hd7
              cases u7
              · go_wp2
                go_roundw
                case rel => exact ⟨k - 1, m + 1, (d + 1), g, cap, _, _, L, by go_num, by omega, by omega, rfl, by omega, by omega, rfl, HG7.out, HC7.out.more (by omega), HO7.out⟩
                case measure => simp [intOf]; omega
              · go_wp2
                go_roundw
                case rel => exact ⟨k - 1, m + 1, (d + 1) + 1, g3, cap3, _, _, _, by go_num, by omega, by omega, rfl, by omega, by omega, rfl, HG7.out, HC7.out.more (by omega), HS7.out⟩
                case measure => simp [intOf]; omega
            · go_wp2
              go_roundw
              case rel => exact ⟨k - 1, m + 1, (d + 1) + 1, g3, cap3, _, _, _, by go_num, by omega, by omega, rfl, by omega, by omega, rfl, HG6.out, HC6.out.more (by omega), HS6.out⟩
              case measure => simp [intOf]; omega
    · obtain rfl : k = 0 := by omega
      go_wp2_with fail
      refine (spec_one cb K (M + 2 + 210 * m) 24 _ (by omega) (by omega) hc).mono ?_
      rintro e w3 ⟨u, rfl, hd⟩
      have HS := hide (hs.drawn hd hcb)
      have HG := hide ((show w.grownBy wr (some cb) from hg).trans hd.1)
      have HC := hide hd.2
      clear hd hg hc hs
      cases u
      · go_wp2
        go_returns
        exact ⟨g, cap, q, top, L, by first | rfl | trivial, by omega, HS.out, HG.out, HC.out.more (by omega)⟩
      · have hz3 := HG.out.size
        have hfs0 : FS w.heap.size (w3.alloc (.cells #[] 36)) (w3.heap.size + 1) w3.heap.size 0 0 [] := ⟨rfl, ⟨hz3, Nat.lt_succ_self _⟩, by simp, row_new_at w3 w3.heap.size w.heap.size 4 36 rfl hz3, fun x hx => (by cases hx), fun x hx => (by cases hx)⟩
        have HS3 := hide hfs0
        have HG3 := hide (HG.out.trans (World.grownBy_alloc _ (.cells #[] 36) _))
        have HC3 := hide (HC.out.alloc (.cells #[] 36))
        clear HS HG HC hfs0
        go_wp2
        go_loopw [3, 9] (fun s y wr => ∃ (k g cap top : Nat) (L : List (FauE × Nat × Nat)), y = .int .i64 k ∧ k ≤ 7 ∧ s = .slice (some ⟨g, 0, none⟩) k cap ∧ w.grownBy wr (some cb) ∧ Cur wr cb K (M + 1100 + 2 * k) ∧ FS w.heap.size wr top g cap k L) (fun _ y _ => 8 - (intOf y).toNat)
        case atStart => exact ⟨0, w3.heap.size, 0, _, [], rfl, Nat.zero_le _, rfl, HG3.out, HC3.out.more (by omega), HS3.out⟩
        case round =>
          clear HS3 HG3 HC3
          obtain ⟨k, g, cap, top, L, rfl, hk7, rfl, hg, hc, hs⟩ := hrel
          go_wp2_with fail
          refine (spec_pick cb K (M + 1100 + 2 * k) 2 _ (by omega) (by omega) hc).mono ?_
          rintro e w4 ⟨P, rfl, P0, P1, _, hd⟩
          have P2 := P1 (by omega)
          have HS4 := hide (hs.drawn hd hcb)
          have HG4 := hide ((show w.grownBy wr (some cb) from hg).trans hd.1)
          have HC4 := hide hd.2
          clear hd hg hc hs P1
          by_cases hlt : (k : Int) < 6 + P
          · obtain ⟨nm, hnm, hcv⟩ : ∃ nm : ByteArray, nm.size = 1 ∧ (convert 54 9 (.slice (some ⟨w4.heap.size, 0, none⟩) 1 1)).run Try.prog (w4.alloc (.cells #[.int .u8 (97 + (k : Int))] 5)) = .ok (.string nm) (w4.alloc (.cells #[.int .u8 (97 + (k : Int))] 5)) := ⟨_, rfl, conv1 w4 (97 + (k : Int)) (by omega) (by omega)⟩
            have hk255 : (k : Int) ≤ 7 := by omega
            have hk0 : (0 : Int) ≤ (k : Int) := by omega
            have hz4 := HG4.out.size
            have hgt := HS4.out.gt; have htw := HS4.out.tw
            obtain ⟨x, hxd⟩ : ∃ x : FauE × Nat × Nat, x = (⟨(k : Int) + 1, nm, 2, fun i j => if i * 2 + j = 1 then 0 else if i * 2 + j = 3 then 5 else (k : Int), 0⟩, w4.heap.size + 1, 2) := ⟨_, rfl⟩
            have hfx : fC x = [.int .i64 ((k : Int) + 1), .string nm, .slice (some ⟨w4.heap.size + 1, 0, none⟩) 2 2, .int .i64 0] := by rw [hxd]; rfl
            have HFX := hide hfx
            clear hfx
            go_wp2_with (at_builtin; refine wpList_append_far _ rfl _ _ 47 rfl w.heap.size 36 i0 (.agg #[.int .i64 0, .string ByteArray.empty, .slice none 0 0, .int .i64 0]) 4 56 Try.underlying47 hi0 hy0 hy1 hy2 rfl (by decide) _ _ _ (by rfl) (((HS4.out.row.alloc _).alloc _).alloc _) ⟨w4.heap.size + 2, 0, none⟩ 1 1 (fC x) (by rfl) (by rw [HFX.out]; rfl) (by rw [HFX.out]; exact cells_at ((w4.alloc (.cells #[.int .u8 (97 + (k : Int))] 5)).alloc (.cells #[.int .i64 (k : Int), .int .i64 0, .int .i64 (k : Int), .int .i64 5] 26)) _ _ _ (by simp)) (fC_one _) (by unfold maxLen; omega) (by omega) (by simp only [World.size_alloc]; omega) ?_; intro v6 w6 hown6 hgrow6 hfar6)
            obtain ⟨g6, cap6, rfl, hm6, hx6⟩ := row_formF hown6 (Nat.succ_pos _)
            have hb4 : Below w4.heap.size w4 (((w4.alloc (.cells #[.int .u8 (97 + (k : Int))] 5)).alloc (.cells #[.int .i64 (k : Int), .int .i64 0, .int .i64 (k : Int), .int .i64 5] 26)).alloc (.cells #[.int .i64 ((k : Int) + 1), .string nm, .slice (some ⟨w4.heap.size + 1, 0, none⟩) 2 2, .int .i64 0] 36)) := below_al (below_al (below_al (Below.refl _ _)))
            have hB : Blk (((w4.alloc (.cells #[.int .u8 (97 + (k : Int))] 5)).alloc (.cells #[.int .i64 (k : Int), .int .i64 0, .int .i64 (k : Int), .int .i64 5] 26)).alloc (.cells #[.int .i64 ((k : Int) + 1), .string nm, .slice (some ⟨w4.heap.size + 1, 0, none⟩) 2 2, .int .i64 0] 36)) (w4.heap.size + 1) 26 #[.int .i64 (k : Int), .int .i64 0, .int .i64 (k : Int), .int .i64 5] := Blk.alloc (blk_new_atC (w4.alloc (.cells #[.int .u8 (97 + (k : Int))] 5)) (w4.heap.size + 1) _ _ (by simp)) _
            have hxx : x.2.1 = w4.heap.size + 1 := by rw [hxd]
            have hok : FOk (((w4.alloc (.cells #[.int .u8 (97 + (k : Int))] 5)).alloc (.cells #[.int .i64 (k : Int), .int .i64 0, .int .i64 (k : Int), .int .i64 5] 26)).alloc (.cells #[.int .i64 ((k : Int) + 1), .string nm, .slice (some ⟨w4.heap.size + 1, 0, none⟩) 2 2, .int .i64 0] 36)) w.heap.size x := by
              refine ⟨by rw [hxd]; show 1 ≤ 2; omega, by rw [hxd]; show 2 ≤ 12; omega, by rw [hxd]; show nm.size ≤ 11; omega, by omega, by rw [hxx]; exact hB.lt, fun i j hi hj => ?_⟩
              rw [hxx, hB.cell]
              rw [hxd] at hi ⊢
              have hi2 : i < 2 := hi
              rcases (by omega : (i = 0 ∨ i = 1) ∧ (j = 0 ∨ j = 1)) with ⟨rfl | rfl, rfl | rfl⟩ <;> rfl
            have hrow : w6.ownsRow w.heap.size 36 4 (.slice (some ⟨g6, 0, none⟩) (k + 1) cap6) (k + 1) ((L ++ [x]).flatMap fC) := by rw [← flat_snoc]; exact hown6
            have HS6 := hide (HS4.out.grow hb4 hok (by omega) hgrow6 (by
              rcases hfar6 g6 rfl with e | e
              · simp only [Value.ownBlock, Option.some.injEq] at e; exact .inl e.symm
              · exact .inr e) hrow)
            have HG6 := hide (grown_new (HG4.out.trans (((World.grownBy_alloc _ _ _).trans (World.grownBy_alloc _ _ _)).trans (World.grownBy_alloc _ _ _))) hgrow6 (fun b hb => by simp only [Value.ownBlock, Option.some.injEq] at hb; omega))
            have HC6 := hide (((((HC4.out.alloc _).alloc _).alloc _)).apart hgrow6 (fun b hb => by simp only [Value.ownBlock, Option.some.injEq] at hb; omega))
            clear hown6 hgrow6 hfar6 hrow hok hB hb4
            go_roundw
            case rel => exact ⟨k + 1, g6, cap6, _, _, by go_num, by omega, rfl, HG6.out, HC6.out.more (by omega), HS6.out⟩
            case measure => simp [intOf]; omega
          · go_wp2
            go_returns
            exact ⟨g, cap, k, top, L, by first | rfl | trivial, by omega, HS4.out, HG4.out, HC4.out.more (by omega)⟩
end Go.Proofs.Ytbpeamjgddikjaa
