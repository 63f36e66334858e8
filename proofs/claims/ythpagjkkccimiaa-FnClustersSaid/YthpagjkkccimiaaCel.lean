/- Lists of small numbers in a block, written in place. -/
import Derived.Test.YthpagjkkccimiaaApp
import Derived.Test.YthpagjkkccimiaaCells
import Derived.Deep.AppendLies
namespace Go.Proofs.Ythpagjkkccimiaa
open Go.RowKit
set_option linter.unusedVariables false
set_option linter.unusedSimpArgs false

/-- A list of numbers, laid cell by cell. -/
def ints (f : Nat → Int) (k : Nat) : List Value := (List.range k).map fun i => .int .i64 (f i)
theorem ints_snoc (f : Nat → Int) (k : Nat) : ints f k ++ [.int .i64 (f k)] = ints f (k + 1) := by
  simp [ints, List.range_succ]
theorem ints_congr {f g : Nat → Int} {k : Nat} (h : ∀ i, i < k → f i = g i) : ints f k = ints g k := by
  unfold ints
  apply List.map_congr_left
  intro i hi
  rw [h i (List.mem_range.1 hi)]
/-- The cells of a block, as numbers. -/
def Cel (S : Nat) (w : World) (g n : Nat) (F : Nat → Nat) : Prop := ∃ cur, Blk w g 3 cur ∧ cur.size = S ∧ ∀ p, p < n → cur[p]? = some (.int .i64 (F p : Nat))
theorem Cel.cell {S : Nat} {w : World} {g n : Nat} {F : Nat → Nat} (h : Cel S w g n F) {p : Nat} (hp : p < n) : w.cell? ⟨g, p, none⟩ = some (.int .i64 (F p : Nat)) := by
  obtain ⟨cur, hb, hs, hc⟩ := h
  rw [hb.cell, hc p hp]
theorem Cel.frozen {S : Nat} {w : World} {g n : Nat} {F : Nat → Nat} (h : Cel S w g n F) (p : Nat) : w.frozen? ⟨g, p, none⟩ = false := by
  obtain ⟨cur, hb, hs, hc⟩ := h
  exact hb.frozen p
theorem Cel.lt {S : Nat} {w : World} {g n : Nat} {F : Nat → Nat} (h : Cel S w g n F) : g < w.heap.size := by
  obtain ⟨cur, hb, hs, hc⟩ := h
  exact hb.lt
theorem Cel.below {S : Nat} {w w' : World} {g n B : Nat} {F : Nat → Nat} (h : Cel S w g n F) (hb : Below B w w') (hg : g < B) : Cel S w' g n F := by
  obtain ⟨cur, h1, hs0, h2⟩ := h
  exact ⟨cur, h1.below hb hg, hs0, h2⟩
theorem Cel.drew {S : Nat} {w : World} {g n : Nat} {F : Nat → Nat} (h : Cel S w g n F) : Cel S w.drew g n F := h
theorem Cel.congr {S : Nat} {w : World} {g n : Nat} {F G : Nat → Nat} (h : Cel S w g n F) (e : ∀ p, p < n → F p = G p) : Cel S w g n G := by
  obtain ⟨cur, h1, hs0, h2⟩ := h
  exact ⟨cur, h1, hs0, fun p hp => by rw [← e p hp]; exact h2 p hp⟩
theorem Cel.set_ {S : Nat} {w : World} {g n : Nat} {F : Nat → Nat} (h : Cel S w g n F) (q x : Nat) : Cel S (w.setCell ⟨g, q, none⟩ (.int .i64 (x : Nat))) g n (fun p => if p = q then x else F p) := by
  obtain ⟨cur, h1, hs0, h2⟩ := h
  refine ⟨_, h1.set_ q _, by simpa using hs0, fun p hp => ?_⟩
  rw [Array.getElem?_setIfInBounds]
  show (if q = p then _ else _) = some (Value.int .i64 ((if p = q then x else F p : Nat) : Int))
  by_cases e : q = p
  · subst e
    have hs : q < cur.size := by
      by_cases hs : q < cur.size
      · exact hs
      · have := h2 q hp
        rw [Array.getElem?_eq_none (by omega)] at this
        cases this
    rw [if_pos rfl, if_pos hs, if_pos rfl]
  · have e' : ¬ p = q := by omega
    rw [if_neg e, if_neg e', h2 p hp]
theorem cel_of_row {w : World} {base g n cap : Nat} {f : Nat → Int} {F : Nat → Nat} (h : w.ownsRow base 3 1 (.slice (some ⟨g, 0, none⟩) n cap) n (ints f n)) (hf : ∀ p, p < n → f p = (F p : Nat)) : Cel cap w g n F ∧ base ≤ g ∧ n ≤ cap ∧ cap ≤ maxLen := by
  rcases h.2 with ⟨hv, _⟩ | ⟨gg, cp, cur, hv, hg, hh, hc, hm, hs, ht⟩
  · cases hv
  · injection hv with e1 _ e3
    injection e1 with e1
    injection e1 with e1 _ _
    subst e1 e3
    refine ⟨⟨cur, hh, by rw [hs, Nat.mul_one], fun p hp => ?_⟩, hg, hc, hm⟩
    have h1 : (cur.toList.take (n * 1))[p]? = (ints f n)[p]? := by rw [ht]
    rw [List.getElem?_take, if_pos (by omega), Array.getElem?_toList] at h1
    simp only [ints, List.getElem?_map, List.getElem?_range hp, Option.map_some] at h1
    rw [h1, hf p hp]
theorem own_of_cel {w : World} {base g n cap : Nat} {F : Nat → Nat} (h : Cel cap w g n F) (hb : base ≤ g) (hn : n ≤ cap) (hc : cap ≤ maxLen) : Own w base 3 1 (.slice (some ⟨g, 0, none⟩) n cap) n (iv fun i _ => (F i : Nat)) := by
  obtain ⟨cur, h1, h2, h3⟩ := h
  refine .inr ⟨g, cap, cur, rfl, hb, h1, hn, hc, by rw [h2, Nat.mul_one], fun i j hi hj => ?_⟩
  obtain rfl : j = 0 := by omega
  rw [Nat.mul_one, Nat.add_zero]
  exact h3 i hi
theorem row_of_cel {w : World} {base g n cap : Nat} {F : Nat → Nat} (h : Cel cap w g n F) (hb : base ≤ g) (hn : n ≤ cap) (hc : cap ≤ maxLen) : w.ownsRow base 3 1 (.slice (some ⟨g, 0, none⟩) n cap) n (ints (fun i => (F i : Nat)) n) := by
  obtain ⟨cur, h1, h2, h3⟩ := h
  refine ⟨by simp [ints], .inr ⟨g, cap, cur, rfl, hb, h1, hn, hc, by rw [h2, Nat.mul_one], ?_⟩⟩
  apply List.ext_getElem?
  intro i
  rw [Nat.mul_one, List.getElem?_take]
  by_cases hi : i < n
  · rw [if_pos hi, Array.getElem?_toList, h3 i hi]
    simp [ints, List.getElem?_map, List.getElem?_range hi]
  · rw [if_neg hi, List.getElem?_eq_none (by simp [ints]; omega)]
theorem Cel.alloc {S : Nat} {w : World} {g n : Nat} {F : Nat → Nat} (h : Cel S w g n F) (o : Obj) : Cel S (w.alloc o) g n F := by
  obtain ⟨cur, h1, h2⟩ := h
  exact ⟨cur, h1.alloc o, h2⟩
theorem Cells.setOther {w : World} {b g o : Nat} {l : List Value} {x : Value} (h : Cells w b l) (hne : b ≠ g) : Cells (w.setCell ⟨g, o, none⟩ x) b l :=
  ⟨by simpa [World.setCell] using h.1, fun j u hu => (World.cell?_of_block ((grown_setCell (grown_refl w (some g)) o x).block b h.1 (fun e => hne (by injection e)))).trans (h.2 j u hu)⟩
end Go.Proofs.Ythpagjkkccimiaa
