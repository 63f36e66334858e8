/- Plain words for memory, over any program: arrays that read as functions; a block that is known whole. -/
import Derived.Test.YteklalbjlmkagaaRows
import Derived.WalkKit
import Derived.ProofKit
import Derived.WalkSpells
import Derived.Handy
import Derived.Deep.Slices
import Derived.Deep.Fields
import Derived.Deep.QuietTactic
import Derived.BigQuiet
import Derived.Deep.RegionHeld3
import Derived.Deep.LoopGhost
import Derived.Laws.MakeOwn
import Derived.Laws.OwnMore
import Derived.Lib.Hide
namespace Go.Proofs.Yteklalbjlmkagaa
open Go.RowKit
set_option linter.unusedVariables false
set_option linter.unusedSimpArgs false

/-- A slice's address A reads as n elements of k cells: cell j of element i is f i j; it lies below block B. -/
def Arr (w : World) (B : Nat) (A : Option Addr) (n k : Nat) (f : Nat → Nat → Value) : Prop :=
  0 < n → ∃ b off, A = some ⟨b, off, none⟩ ∧ b < B ∧ ∀ i j, i < n → j < k → w.cell? ⟨b, off + i * k + j, none⟩ = some (f i j)

theorem Arr.keep {w w' : World} {B n k : Nat} {A : Option Addr} {f : Nat → Nat → Value} (h : Arr w B A n k f) (hk : ∀ b o, b < B → w'.cell? ⟨b, o, none⟩ = w.cell? ⟨b, o, none⟩) : Arr w' B A n k f := by
  intro hn
  obtain ⟨b, off, rfl, hb, hc⟩ := h hn
  exact ⟨b, off, rfl, hb, fun i j hi hj => (hk _ _ hb).trans (hc i j hi hj)⟩
theorem Arr.below {w w' : World} {B B' n k : Nat} {A : Option Addr} {f : Nat → Nat → Value} (h : Arr w B A n k f) (hb : Below B' w w') (hB : B ≤ B') : Arr w' B A n k f :=
  h.keep fun b o hlt => hb.cell (p := ⟨b, o, none⟩) (Nat.lt_of_lt_of_le hlt hB)
theorem Arr.more {w : World} {B B' n k : Nat} {A : Option Addr} {f : Nat → Nat → Value} (h : Arr w B A n k f) (hB : B ≤ B') : Arr w B' A n k f := by
  intro hn
  obtain ⟨b, off, rfl, hb, hc⟩ := h hn
  exact ⟨b, off, rfl, by omega, hc⟩

theorem Arr.on {w w' : World} {n k : Nat} {A : Option Addr} {f : Nat → Nat → Value} (h : Arr w w.heap.size A n k f) (hb : Below w.heap.size w w') : Arr w' w'.heap.size A n k f := (h.below hb (Nat.le_refl _)).more hb.size

theorem bcell {B : Nat} {W w1 : World} (hb : Below B W w1) : (∀ b o, b < B → w1.cell? ⟨b, o, none⟩ = W.cell? ⟨b, o, none⟩) ∧ (∀ b o, b < B → w1.frozen? ⟨b, o, none⟩ = W.frozen? ⟨b, o, none⟩) :=
  ⟨fun b o h => hb.cell (p := ⟨b, o, none⟩) h, fun b o h => hb.frozen (p := ⟨b, o, none⟩) h⟩

/-- make([]T, n): the new block, whatever the element's size. -/
theorem mk_row {P : Program} {t e : TypeId} (z : Value) (k by_ : Nat) (ht : P.underlying t = some (.slice e)) (hi : (P.info? e).map (fun i => (i.zero, i.size, i.bytes)) = some (some z, k, by_))
    (n : Nat) (hn : n ≤ 1048576) (hb : by_ ≤ 1048576) (w : World) :
    (Instr.makeSlice t (.int .i64 (n : Int)) (.int .i64 (n : Int))).run P w = .ok (.slice (some ⟨w.heap.size, 0, none⟩) n n) (w.alloc (.cells (madeCells z.cells (n * k)) e)) := by
  obtain ⟨i, hi', hz, hs, hby⟩ := info_parts hi
  have hbb : (i.bytes : Int) * (n : Int) ≤ 281474976710656 := by
    rw [hby]
    have h1 : by_ * n ≤ 1048576 * 1048576 := Nat.mul_le_mul hb hn
    have h2 : ((by_ * n : Nat) : Int) ≤ 281474976710656 := by omega
    rwa [Int.natCast_mul] at h2
  have hr := run_make (P := P) w t e i z ht hi' hz .i64 .i64 n n (by omega) (by omega) hbb (by omega)
  simp only [Int.toNat_natCast, hs] at hr
  exact hr

/-- Block g is just the cells cs of element type t, none of them frozen. -/
def Blk (w : World) (g : Nat) (t : TypeId) (cs : Array Value) : Prop := w.heap[g]? = some (.cells cs t (0, 0))
theorem Blk.lt {w : World} {g : Nat} {t : TypeId} {cs : Array Value} (h : Blk w g t cs) : g < w.heap.size := by
  by_cases hlt : g < w.heap.size
  · exact hlt
  · unfold Blk at h; rw [Array.getElem?_eq_none (by omega)] at h; cases h
theorem Blk.cell {w : World} {g : Nat} {t : TypeId} {cs : Array Value} (h : Blk w g t cs) (i : Nat) : w.cell? ⟨g, i, none⟩ = cs[i]? := cell_of_row w g i cs t (0, 0) h
theorem Blk.frozen {w : World} {g : Nat} {t : TypeId} {cs : Array Value} (h : Blk w g t cs) (i : Nat) : w.frozen? ⟨g, i, none⟩ = false := by
  unfold Blk at h
  simp [World.frozen?, h]
theorem Blk.new (w : World) (t : TypeId) (cs : Array Value) : Blk (w.alloc (.cells cs t)) w.heap.size t cs := heap_alloc_new w _
theorem Blk.set_ {w : World} {g : Nat} {t : TypeId} {cs : Array Value} (h : Blk w g t cs) (i : Nat) (u : Value) : Blk (w.setCell ⟨g, i, none⟩ u) g t (cs.setIfInBounds i u) := by
  unfold Blk at h ⊢
  simp [World.setCell, Array.getElem?_modify, h]
theorem Blk.below {w w' : World} {g : Nat} {t : TypeId} {cs : Array Value} {B : Nat} (h : Blk w g t cs) (hb : Below B w w') (hg : g < B) : Blk w' g t cs := (hb.block g hg).trans h

/-- A slice of the call's own (nil let in): its block lies from base on; cell j of element i is F i j. -/
def Own (w : World) (base : Nat) (E : TypeId) (k : Nat) (v : Value) (n : Nat) (F : Nat → Nat → Value) : Prop :=
  (v = .slice none 0 0 ∧ n = 0) ∨ ∃ g cap cur, v = .slice (some ⟨g, 0, none⟩) n cap ∧ base ≤ g ∧ Blk w g E cur ∧ n ≤ cap ∧ cap ≤ maxLen ∧ cur.size = cap * k ∧ ∀ i j, i < n → j < k → cur[i * k + j]? = some (F i j)

theorem Own.arr {w : World} {base k n : Nat} {E : TypeId} {v : Value} {F : Nat → Nat → Value} (h : Own w base E k v n F) : ∃ A cap, v = .slice A n cap ∧ n ≤ cap ∧ Arr w w.heap.size A n k F := by
  rcases h with ⟨rfl, rfl⟩ | ⟨g, cap, cur, rfl, _, hb, hc, _, _, hF⟩
  · exact ⟨none, 0, rfl, Nat.le_refl _, fun h => absurd h (by omega)⟩
  · refine ⟨_, cap, rfl, hc, fun _ => ⟨g, 0, rfl, hb.lt, fun i j hi hj => ?_⟩⟩
    rw [Nat.zero_add, hb.cell]
    exact hF i j hi hj
theorem Own.arr1 {w : World} {base k n c : Nat} {E : TypeId} {A : Option Addr} {F : Nat → Nat → Value} (h : Own w base E k (.slice A n c) n F) : Arr w w.heap.size A n k F := by
  obtain ⟨A', c', hv, _, ha⟩ := h.arr
  injection hv with h1 _ _
  subst h1
  exact ha
theorem Own.below {w w' : World} {base k n B : Nat} {E : TypeId} {v : Value} {F : Nat → Nat → Value} (h : Own w base E k v n F) (hb : Below B w w') (hB : w.heap.size ≤ B) : Own w' base E k v n F := by
  rcases h with h | ⟨g, cap, cur, rfl, h1, h2, h3⟩
  · exact .inl h
  · exact .inr ⟨g, cap, cur, rfl, h1, h2.below hb (Nat.lt_of_lt_of_le h2.lt hB), h3⟩
theorem Own.base {w : World} {base base' k n : Nat} {E : TypeId} {v : Value} {F : Nat → Nat → Value} (h : Own w base E k v n F) (hb : base' ≤ base) : Own w base' E k v n F := by
  rcases h with h | ⟨g, cap, cur, rfl, h1, h3⟩
  · exact .inl h
  · exact .inr ⟨g, cap, cur, rfl, by omega, h3⟩
theorem Own.made {w : World} {base g n k : Nat} {E : TypeId} {cur : Array Value} {F : Nat → Nat → Value} (hn : n ≤ 1048576) (hg : base ≤ g) (hb : Blk w g E cur) (hs : cur.size = n * k) (hF : ∀ i j, i < n → j < k → cur[i * k + j]? = some (F i j)) :
    Own w base E k (.slice (some ⟨g, 0, none⟩) n n) n F := .inr ⟨g, n, cur, rfl, hg, hb, Nat.le_refl _, by unfold maxLen; omega, hs, hF⟩

/-- What a region that holds calls keeps: the old cells, and 'Below'. -/
theorem S_of {B : Nat} {w w' : World} (h : Below B w w') : (∀ b o, b < B → w'.cell? ⟨b, o, none⟩ = w.cell? ⟨b, o, none⟩) ∧ Below B w w' := ⟨fun b o hl => h.cell (p := ⟨b, o, none⟩) hl, h⟩

/-! Regions that draw their order, whose operations read, and whose callees may make blocks: one walk, in every world that is w with new blocks behind it. -/
def BW (w : World) : Type := { w' : World // Below w.heap.size w w' }
def BW.val {w : World} (x : BW w) : World := x.1
theorem BW.prop {w : World} (x : BW w) : Below w.heap.size w x.val := x.2
instance BW.inst (w : World) : Nonempty (BW w) := ⟨⟨w, Below.refl _ _⟩⟩
theorem BW.cell {w : World} (x : BW w) (b o : Nat) (h : b < w.heap.size) : x.val.cell? ⟨b, o, none⟩ = w.cell? ⟨b, o, none⟩ := x.prop.cell (p := ⟨b, o, none⟩) h
theorem BW.call {P : Program} {f : FuncId} {args : Array Value} {w : World} {x : BW w} {v : Value} (h : Calls P f args x.val fun e w' => e = .returned v ∧ Below x.val.heap.size x.val w') :
    Calls P f args x.val fun e w'' => e = .returned v ∧ ∃ y : BW w, w'' = y.val :=
  h.mono fun _ w' ⟨he, hb⟩ => ⟨he, ⟨w', x.prop.trans (hb.mono x.prop.size)⟩, rfl⟩
theorem BW.call0 {P : Program} {f : FuncId} {args : Array Value} {w : World} {x : BW w} {v : Value} (h : Calls P f args x.val fun e w' => e = .returned v ∧ x.val = w') :
    Calls P f args x.val fun e w'' => e = .returned v ∧ ∃ y : BW w, w'' = y.val :=
  h.mono fun _ w' ⟨he, hb⟩ => ⟨he, x, hb.symm⟩
theorem wp_region_bw {P : Program} {id : Nat} {Q : Exit → Act → World → Prop} {a : Act} {w : World} {l : List Oper} (hm : P.follows .mixedOrders = true) (hB : Region.lexB .any l.toArray = true)
    (h : wpQuiet P l.toArray (fun w' => ∃ x : BW w, w' = x.val) (fun a' => ∀ w', (∃ x : BW w, w' = x.val) → Q .normal a' w') l a) : (Code.region id l.toArray true).wp P Q a w :=
  wp_region_quiet (C := fun w' => ∃ x : BW w, w' = x.val) hm hB ⟨⟨w.drew, (Below.refl _ _).drew⟩, rfl⟩ (by simpa using h)
theorem wpQuiet_end {P : Program} {ops : Array Oper} {C : World → Prop} {Q : Act → World → Prop} {a : Act} {w : World} (h : ∀ w1, Below w.heap.size w w1 → Q a w1) :
    wpQuiet P ops C (fun a' => ∀ w', (∃ x : BW w, w' = x.val) → Q a' w') [] a := wpQuiet_nil (by rintro w' ⟨x, rfl⟩; exact h _ x.prop)

theorem below_call {w a w1 : World} (h : Below w.heap.size w a) (h1 : Below a.heap.size a w1) : Below w.heap.size w w1 := h.trans (h1.mono h.size)
theorem below_al {w a : World} {o : Obj} (h : Below w.heap.size w a) : Below w.heap.size w (a.alloc o) := h.alloc h.size o
theorem frozen_al (w : World) (c : Array Value) (t : TypeId) (b o : Nat) : (w.alloc (.cells c t)).frozen? ⟨b, o, none⟩ = w.frozen? ⟨b, o, none⟩ := frozen?_alloc_cells _ _ _ _
theorem frozen_out (w : World) (b o : Nat) (h : w.heap.size ≤ b) : w.frozen? ⟨b, o, none⟩ = false := by simp [World.frozen?, h]
theorem Blk.alloc {w : World} {g : Nat} {t : TypeId} {cs : Array Value} (h : Blk w g t cs) (o : Obj) : Blk (w.alloc o) g t cs := (Below.heap_alloc w o g h.lt).trans h
theorem ret_bool {v : Value} {b : Bool} (h : v = .bool b) : Ending.returned v = .returned (.bool b) := by rw [h]

theorem all_snoc {P : Nat → Prop} {k : Nat} (h : ∀ i, i < k → P i) (hk : P k) : ∀ i, i < k + 1 → P i := fun i hi => by
  by_cases e : i = k
  · rw [e]; exact hk
  · exact h i (by omega)
theorem all_zero {P : Nat → Prop} : ∀ i, i < 0 → P i := fun i h => absurd h (by omega)

/-- Numbers in cells. -/
def iv (X : Nat → Nat → Int) (i j : Nat) : Value := .int .i64 (X i j)
/-- Two lists of n and m elements of k numbers each are one. -/
def eqX (k n m : Nat) (X Y : Nat → Nat → Int) : Bool := decide (n = m) && decide (∀ i, i < n → ∀ j, j < k → X i j = Y i j)
theorem eqX_no {k n : Nat} {X Y : Nat → Nat → Int} (h : ¬ ∀ i, i < n → ∀ j, j < k → X i j = Y i j) : eqX k n n X Y = false := by
  unfold eqX; rw [decide_eq_false h]; simp
theorem eqX_yes {k n : Nat} {X Y : Nat → Nat → Int} (h : ∀ i, i < n → ∀ j, j < k → X i j = Y i j) : eqX k n n X Y = true := by
  unfold eqX; rw [decide_eq_true h]; simp
theorem eqX_self (k n : Nat) (X : Nat → Nat → Int) : eqX k n n X X = true := eqX_yes fun _ _ _ _ => rfl

/-! Writing into a slice of the call's own. -/
theorem grown_trans {a b c : World} {row : Option Nat} (h : a.grownBy b row) (k : b.grownBy c row) : a.grownBy c row :=
  ⟨k.os.trans h.os, k.tape.trans h.tape, k.output.trans h.output, Nat.le_trans h.size k.size, fun i hi hne => (k.block i (Nat.lt_of_lt_of_le hi h.size) hne).trans (h.block i hi hne)⟩
theorem grown_refl (w : World) (row : Option Nat) : w.grownBy w row := ⟨rfl, rfl, rfl, Nat.le_refl _, fun _ _ _ => rfl⟩
theorem grown_setCell {a w : World} {g : Nat} (h : a.grownBy w (some g)) (o : Nat) (u : Value) : a.grownBy (w.setCell ⟨g, o, none⟩ u) (some g) :=
  ⟨h.os, h.tape, h.output, by simpa [World.setCell] using h.size, fun i hi hne => (Below.heap_setCell w _ u i (fun e => hne (by rw [e]))).trans (h.block i hi hne)⟩
theorem grown_drew {a w : World} {row : Option Nat} (h : a.grownBy w row) : a.grownBy w.drew row := ⟨h.os, h.tape, h.output, h.size, h.block⟩
/-- A slice whose block is another one stays. -/
theorem Own.other {w w' : World} {base k n : Nat} {E : TypeId} {v : Value} {F : Nat → Nat → Value} {row : Option Nat} (h : Own w base E k v n F) (hg : w.grownBy w' row) (hlt : ∀ g, row = some g → g < base) : Own w' base E k v n F := by
  rcases h with h | ⟨g, cap, cur, rfl, h1, h2, h3⟩
  · exact .inl h
  · exact .inr ⟨g, cap, cur, rfl, h1, (hg.block g h2.lt (fun e => by have := hlt g e.symm; omega)).trans h2, h3⟩
theorem Own.apart {w w' : World} {base k n : Nat} {E : TypeId} {v : Value} {F : Nat → Nat → Value} {row : Option Nat} (h : Own w base E k v n F) (hg : w.grownBy w' row) (hne : ∀ g, row = some g → v.ownBlock ≠ some g) : Own w' base E k v n F := by
  rcases h with h | ⟨g, cap, cur, rfl, h1, h2, h3⟩
  · exact .inl h
  · exact .inr ⟨g, cap, cur, rfl, h1, (hg.block g h2.lt (fun e => hne g e.symm rfl)).trans h2, h3⟩
theorem Own.blk {w : World} {base k n : Nat} {E : TypeId} {v : Value} {F : Nat → Nat → Value} (h : Own w base E k v n F) : ∀ g, v.ownBlock = some g → base ≤ g ∧ g < w.heap.size := by
  intro g hg
  rcases h with ⟨rfl, _⟩ | ⟨g', cap, cur, rfl, h1, h2, h3⟩
  · simp [Value.ownBlock] at hg
  · simp [Value.ownBlock] at hg; subst hg; exact ⟨h1, h2.lt⟩
theorem Below.writes {B : Nat} {a w w' : World} {row : Option Nat} (h : Below B a w) (hg : w.grownBy w' row) (hB : B ≤ w.heap.size) (hr : ∀ g, row = some g → B ≤ g) : Below B a w' := h.grown hg hB hr

theorem hide {p : Prop} (h : p) : Hid p := h
end Go.Proofs.Yteklalbjlmkagaa
