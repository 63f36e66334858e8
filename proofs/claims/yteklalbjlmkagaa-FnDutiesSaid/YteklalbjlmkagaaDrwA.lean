/- Draws of numbers, quakes and linkings: made by drwgen.py. -/
import Derived.Test.YteklalbjlmkagaaCur
namespace Go.Proofs.Yteklalbjlmkagaa
open Go.RowKit
set_option linter.unusedVariables false
set_option linter.unusedSimpArgs false

theorem Cur.alloc {w : World} {cb M : Nat} {K : Code} (h : Cur w cb K M) (o : Obj) : Cur (w.alloc o) cb K M := h.on (below_al (Below.refl _ _))
theorem grown_setNew {w a : World} {row : Option Nat} (h : w.grownBy a row) {p : Addr} (hp : w.heap.size ≤ p.block) (x : Value) : w.grownBy (a.setCell p x) row :=
  ⟨h.os, h.tape, h.output, by simpa [World.setCell] using h.size, fun g hg hne => (Below.heap_setCell a p x g (by omega)).trans (h.block g hg hne)⟩
theorem Cur.setCell {w : World} {cb M : Nat} {K : Code} (h : Cur w cb K M) {p : Addr} (hp : cb < p.block) (x : Value) : Cur (w.setCell p x) cb K M := by
  obtain ⟨⟨h0, h1, h2⟩, a, s, h3, h4⟩ := h
  refine ⟨⟨h0, fun hn => ?_, h2⟩, a, s, h3, (Below.heap_setCell w p x cb (by omega)).trans h4⟩
  obtain ⟨b, off, e, hb, hc⟩ := h1 hn
  exact ⟨b, off, e, hb, fun i j hi hj => (World.cell?_of_block (Below.heap_setCell w p x b (by omega))).trans (hc i j hi hj)⟩
theorem grown_set4 {w a : World} {row : Option Nat} {b : Nat} (h : w.grownBy a row) (hb : w.heap.size ≤ b) (v0 v1 v2 v3 : Value) : w.grownBy ((((a.setCell ⟨b, 0, none⟩ v0).setCell ⟨b, 1, none⟩ v1).setCell ⟨b, 2, none⟩ v2).setCell ⟨b, 3, none⟩ v3) row :=
  grown_setNew (grown_setNew (grown_setNew (grown_setNew h (p := ⟨b, 0, none⟩) hb v0) (p := ⟨b, 1, none⟩) hb v1) (p := ⟨b, 2, none⟩) hb v2) (p := ⟨b, 3, none⟩) hb v3
theorem Cur.set4 {w : World} {cb M b : Nat} {K : Code} (h : Cur w cb K M) (hb : cb < b) (v0 v1 v2 v3 : Value) : Cur ((((w.setCell ⟨b, 0, none⟩ v0).setCell ⟨b, 1, none⟩ v1).setCell ⟨b, 2, none⟩ v2).setCell ⟨b, 3, none⟩ v3) cb K M :=
  (((h.setCell (p := ⟨b, 0, none⟩) hb v0).setCell (p := ⟨b, 1, none⟩) hb v1).setCell (p := ⟨b, 2, none⟩) hb v2).setCell (p := ⟨b, 3, none⟩) hb v3
theorem blk_new_atC (X : World) (g : Nat) (t : TypeId) (cs : Array Value) (h : g = X.heap.size) : Blk (X.alloc (.cells cs t)) g t cs := by
  subst h; exact Blk.new X t cs
theorem blk_drawn {W w' : World} {cb M g : Nat} {K : Code} {t : TypeId} {cs : Array Value} (hd : Drawn W cb K M w') (hb : Blk W g t cs) (hne : cb < g) : Blk w' g t cs :=
  (hd.1.block g hb.lt (fun e => by injection e with e; omega)).trans hb
theorem spec_amongX (cb : Nat) (K : Code) (M : Nat) (l : List Int) (n g : Nat) (w : World) (hl : l.length = n) (h0 : 0 < n) (hn : n ≤ 1000) (cs : Array Value) (hcs : cs = (l.map (Value.int .i64)).toArray) (hb : Blk w g 3 cs) (hg : cb < g) (hM : M ≤ 1000000000000) (h : Cur w cb K M) :
    Calls Try.prog 34 #[.pointer (some ⟨cb, 0, none⟩), .slice (some ⟨g, 0, none⟩) n n] w fun e w' => ∃ x : Int, e = .returned (.int .i64 x) ∧ Drawn w cb K (M + 2) w' := by
  subst hl hcs
  refine (spec_among cb K M _ _ _ _ w h0 (by omega) (arr_lit hb) (fun b o e => by injection e with e; injection e with e; omega) hM h).mono ?_
  rintro e w' ⟨j, hj, rfl, hd⟩
  exact ⟨_, rfl, hd⟩

end Go.Proofs.Yteklalbjlmkagaa
