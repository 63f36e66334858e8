/- Errands left out: the plain law. -/
import Derived.Test.YtfdgnjnnbhelgaaVisC
import Derived.Test.YtfdgnjnnbhelgaaSrt
namespace Go.Proofs.Ytfdgnjnnbhelgaa
set_option linter.unusedVariables false
set_option linter.unusedSimpArgs false

/-! Errands left out, one by one. -/
def keptY (l : List Nat) (i _j : Nat) : Int := ((l.getD i 0 : Nat) : Int)
def worstOf (X : Nat → Nat → Int) (l : List Nat) : Nat → Nat
  | 0 => 0
  | k + 1 => if X (l.getD (worstOf X l k) 0) 1 ≤ X (l.getD k 0) 1 then k else worstOf X l k
theorem worst_lt (X : Nat → Nat → Int) (l : List Nat) : ∀ k, worstOf X l (k + 1) < k + 1
  | 0 => by simp [worstOf]
  | k + 1 => by
    have := worst_lt X l k
    rw [worstOf]; split <;> omega
theorem worst_one (X : Nat → Nat → Int) (l : List Nat) : worstOf X l 1 = 0 := by simp [worstOf]
def fwS (X : Nat → Nat → Int) (order : List Nat) : Nat → List Nat × List Nat
  | 0 => ([], [])
  | q + 1 =>
    let s := fwS X order q
    let i := order.getD q 0
    let kp := s.1 ++ [i]
    if endH X (keptY kp) kp.length ≤ X i 3 then (kp, s.2) else (kp.eraseIdx (worstOf X kp kp.length), s.2 ++ [kp.getD (worstOf X kp kp.length) 0])
theorem fwS_keep {X : Nat → Nat → Int} {order : List Nat} {q : Nat} {kp : List Nat} (hk : kp = (fwS X order q).1 ++ [order.getD q 0]) (h : endH X (keptY kp) kp.length ≤ X (order.getD q 0) 3) : fwS X order (q + 1) = (kp, (fwS X order q).2) := by
  subst hk; simp only [fwS]; rw [if_pos h]
theorem fwS_drop {X : Nat → Nat → Int} {order : List Nat} {q : Nat} {kp : List Nat} (hk : kp = (fwS X order q).1 ++ [order.getD q 0]) (h : ¬ endH X (keptY kp) kp.length ≤ X (order.getD q 0) 3) :
    fwS X order (q + 1) = (kp.eraseIdx (worstOf X kp kp.length), (fwS X order q).2 ++ [kp.getD (worstOf X kp kp.length) 0]) := by
  subst hk; simp only [fwS]; rw [if_neg h]
theorem erase_cons : ∀ {l : List Nat} {w : Nat} (h : w < l.length), (l[w] :: l.eraseIdx w).Perm l
  | a :: t, 0, _ => by simp
  | a :: t, w + 1, h => by
    simp only [List.getElem_cons_succ, List.eraseIdx_cons_succ]
    exact (List.Perm.swap _ _ _).trans (List.Perm.cons _ (erase_cons (by simpa using h)))
theorem erase_perm {l : List Nat} {w : Nat} (h : w < l.length) : (l.eraseIdx w ++ [l.getD w 0]).Perm l := by
  rw [getD_lt h]
  exact (List.perm_append_singleton _ _).trans (erase_cons h)
theorem fw_perm {X : Nat → Nat → Int} {order : List Nat} : ∀ {q : Nat}, q ≤ order.length → ((fwS X order q).1 ++ (fwS X order q).2).Perm (order.take q)
  | 0, _ => by simp [fwS]
  | q + 1, hq => by
    have ih := fw_perm (X := X) (order := order) (q := q) (by omega)
    have ht : order.take (q + 1) = order.take q ++ [order.getD q 0] := by
      rw [List.take_succ_eq_append_getElem (by omega), getD_lt (by omega)]
    generalize hkp : (fwS X order q).1 ++ [order.getD q 0] = kp
    have h1 : (kp ++ (fwS X order q).2).Perm (order.take (q + 1)) := by
      rw [ht, ← hkp]
      refine List.Perm.trans ?_ (ih.append_right _)
      rw [List.append_assoc, List.append_assoc]
      exact List.Perm.append_left _ List.perm_append_comm
    by_cases h : endH X (keptY kp) kp.length ≤ X (order.getD q 0) 3
    · rw [fwS_keep hkp.symm h]; exact h1
    · rw [fwS_drop hkp.symm h]
      refine List.Perm.trans ?_ h1
      have hl : worstOf X kp kp.length < kp.length := by
        have : kp.length = (fwS X order q).1.length + 1 := by rw [← hkp]; simp
        rw [this]; exact worst_lt _ _ _
      have h2 := (erase_perm hl).append_right (fwS X order q).2
      refine List.Perm.trans ?_ h2
      rw [List.append_assoc]
      exact List.Perm.append_left _ List.perm_append_comm
theorem fw_mem {X : Nat → Nat → Int} {order : List Nat} {q x : Nat} (hq : q ≤ order.length) (h : x ∈ (fwS X order q).1 ∨ x ∈ (fwS X order q).2) : x ∈ order := by
  have := (fw_perm (X := X) hq).mem_iff (a := x)
  exact List.mem_of_mem_take (this.1 (by simpa using h))
theorem fw_len {X : Nat → Nat → Int} {order : List Nat} {q : Nat} (hq : q ≤ order.length) : (fwS X order q).1.length + (fwS X order q).2.length = q := by
  have := (fw_perm (X := X) hq).length_eq
  simp at this; omega
theorem fw_nodup {X : Nat → Nat → Int} {order : List Nat} (h : order.Nodup) {q : Nat} (hq : q ≤ order.length) : (fwS X order q).1.Nodup ∧ (fwS X order q).2.Nodup := by
  have h1 := (fw_perm (X := X) hq).nodup_iff.2 (h.sublist (List.take_sublist _ _))
  have h2 := List.nodup_append.1 h1
  exact ⟨h2.1, h2.2.1⟩
theorem nodup_insAt {l : List Nat} {x k : Nat} (h : l.Nodup) (hx : x ∉ l) : (insAt l x k).Nodup := by
  have : (insAt l x k).Perm (x :: l) := by
    unfold insAt
    refine List.perm_middle.trans ?_
    rw [List.take_append_drop]
  exact this.nodup_iff.2 (List.nodup_cons.2 ⟨hx, h⟩)
theorem insL_nodup {f : Nat → Int} : ∀ {k : Nat}, (insL f k).Nodup
  | 0 => by simp [insL]
  | k + 1 => nodup_insAt insL_nodup (fun h => by have := mem_insL.1 h; omega)
end Go.Proofs.Ytfdgnjnnbhelgaa
