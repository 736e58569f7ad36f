/- A world with more blocks behind it: what cells of older blocks hold there. -/
import Derived.WalkKit
import Derived.WalkLawsBesides
import Derived.WalkSpells
import Derived.Handy
set_option linter.unusedSimpArgs false
set_option linter.unusedVariables false
namespace Go.Proofs.Ytbocjicihamahaa
open Go.RowKit

/-- The world w with the blocks 'os' behind its own, and another count of draws. -/
def _root_.Go.World.plus (w : World) (os : Array Obj) (d : Nat) : World := { w with heap := w.heap ++ os, drawn := d }
theorem plus_of_below {w w' : World} (h : Below w.heap.size w w') : ∃ os d, w' = w.plus os d := by
  refine ⟨w'.heap.extract w.heap.size w'.heap.size, w'.drawn, ?_⟩
  have hh : w'.heap = w.heap ++ w'.heap.extract w.heap.size w'.heap.size := by
    apply Array.ext_getElem?
    intro k
    have hs := h.size
    by_cases hk : k < w.heap.size
    · rw [h.block k hk, Array.getElem?_append_left hk]
    · rw [Array.getElem?_append_right (by omega), Array.getElem?_extract]
      split
      · congr 1; omega
      · rw [Array.getElem?_eq_none]; omega
  cases w with
  | mk heap tape drawn os output =>
    cases w' with
    | mk heap' tape' drawn' os' output' =>
      have h1 : tape' = tape := h.tape
      have h2 : os' = os := h.os
      have h3 : output' = output := h.output
      subst h1 h2 h3
      simp only [World.plus] at hh ⊢
      rw [← hh]
@[simp] theorem size_plus (w : World) (os : Array Obj) (d : Nat) : (w.plus os d).heap.size = w.heap.size + os.size := by simp [World.plus]
theorem block_plus (w : World) (os : Array Obj) (d : Nat) (k : Nat) (h : k < w.heap.size) : (w.plus os d).heap[k]? = w.heap[k]? := by
  simp only [World.plus]
  rw [Array.getElem?_append_left h]
/-! Sizes by the shape of a world: an order among sums that is read off their shape. -/
class LeN (a b : Nat) : Prop where
  le : a ≤ b
class LtN (a b : Nat) : Prop where
  lt : a < b
instance leN_refl (a : Nat) : LeN a a := ⟨Nat.le_refl a⟩
instance (priority := 900) leN_add (a b k : Nat) [h : LeN a b] : LeN a (b + k) := ⟨Nat.le_trans h.le (Nat.le_add_right b k)⟩
instance ltN_one (a b : Nat) [h : LeN a b] : LtN a (b + 1) := ⟨Nat.lt_succ_of_le h.le⟩
instance (priority := 900) ltN_add (a b k : Nat) [h : LtN a b] : LtN a (b + k) := ⟨Nat.lt_of_lt_of_le h.lt (Nat.le_add_right b k)⟩
class HasSize (w : World) (s : outParam Nat) : Prop where
  eq : w.heap.size = s
instance (priority := 100) hasSize_self (w : World) : HasSize w w.heap.size := ⟨rfl⟩
instance hasSize_alloc (w : World) (o : Obj) (s : Nat) [h : HasSize w s] : HasSize (w.alloc o) (s + 1) := ⟨by rw [World.size_alloc, h.eq]⟩
instance hasSize_plus (w : World) (os : Array Obj) (d s : Nat) [h : HasSize w s] : HasSize (w.plus os d) (s + os.size) := ⟨by rw [size_plus, h.eq]⟩
instance hasSize_drew (w : World) (s : Nat) [h : HasSize w s] : HasSize w.drew s := ⟨h.eq⟩
instance hasSize_setCell (w : World) (a : Addr) (v : Value) (s : Nat) [h : HasSize w s] : HasSize (w.setCell a v) s := ⟨by rw [World.size_setCell, h.eq]⟩
class Has (w : World) (n : Nat) : Prop where
  lt : n < w.heap.size
instance has_of (w : World) (n s : Nat) [h : HasSize w s] [k : LtN n s] : Has w n := ⟨by rw [h.eq]; exact k.lt⟩
instance (priority := 500) has_plus (w : World) (os : Array Obj) (d n : Nat) [h : Has w n] : Has (w.plus os d) n := ⟨by rw [size_plus]; exact Nat.lt_of_lt_of_le h.lt (Nat.le_add_right _ _)⟩
instance (priority := 500) has_alloc (w : World) (o : Obj) (n : Nat) [h : Has w n] : Has (w.alloc o) n := ⟨by rw [World.size_alloc]; exact Nat.lt_succ_of_lt h.lt⟩
instance (priority := 500) has_drew (w : World) (n : Nat) [h : Has w n] : Has w.drew n := ⟨h.lt⟩
instance (priority := 500) has_setCell (w : World) (a : Addr) (v : Value) (n : Nat) [h : Has w n] : Has (w.setCell a v) n := ⟨by rw [World.size_setCell]; exact h.lt⟩
theorem cell_plus0 (w : World) (os : Array Obj) (d n i : Nat) (h : n < w.heap.size) : (w.plus os d).cell? ⟨n, i, none⟩ = w.cell? ⟨n, i, none⟩ := by
  simp only [World.cell?, block_plus w os d n h]
theorem frozen_plus0 (w : World) (os : Array Obj) (d n i : Nat) (h : n < w.heap.size) : (w.plus os d).frozen? ⟨n, i, none⟩ = w.frozen? ⟨n, i, none⟩ := by
  simp only [World.frozen?, block_plus w os d n h]
theorem setCell_plus0 (w : World) (os : Array Obj) (d n i : Nat) (v : Value) (h : n < w.heap.size) :
    (w.plus os d).setCell ⟨n, i, none⟩ v = (w.setCell ⟨n, i, none⟩ v).plus os d := by
  unfold World.setCell World.plus
  congr 1
  apply Array.ext_getElem?
  intro k
  simp only [Array.getElem?_modify, Array.getElem?_append, Array.size_modify]
  by_cases hk : k < w.heap.size
  · simp [hk]
  · have : n ≠ k := by omega
    simp [hk, this]
section
variable (w : World) (n i : Nat) [hn : Has w n]
@[go_sem] theorem cell_plus (os : Array Obj) (d : Nat) : (w.plus os d).cell? ⟨n, i, none⟩ = w.cell? ⟨n, i, none⟩ := cell_plus0 w os d n i hn.lt
@[go_sem] theorem frozen_plus (os : Array Obj) (d : Nat) : (w.plus os d).frozen? ⟨n, i, none⟩ = w.frozen? ⟨n, i, none⟩ := frozen_plus0 w os d n i hn.lt
@[go_sem] theorem setCell_plus (os : Array Obj) (d : Nat) (v : Value) : (w.plus os d).setCell ⟨n, i, none⟩ v = (w.setCell ⟨n, i, none⟩ v).plus os d := setCell_plus0 w os d n i v hn.lt
@[go_sem] theorem shape_plus (os : Array Obj) (d : Nat) : (w.plus os d).shape? n = w.shape? n := by
  simp only [World.shape?, block_plus w os d n hn.lt]
@[go_sem] theorem cell_alloc' (o : Obj) : (w.alloc o).cell? ⟨n, i, none⟩ = w.cell? ⟨n, i, none⟩ := World.cell?_alloc_past o n i hn.lt
@[go_sem] theorem frozen_alloc' (o : Obj) : (w.alloc o).frozen? ⟨n, i, none⟩ = w.frozen? ⟨n, i, none⟩ := World.frozen?_alloc_past o n i hn.lt
@[go_sem] theorem setCell_alloc' (o : Obj) (v : Value) : (w.alloc o).setCell ⟨n, i, none⟩ v = (w.setCell ⟨n, i, none⟩ v).alloc o := World.setCell_alloc_past o n i v hn.lt
end
@[go_sem] theorem plus_drew (w : World) (os : Array Obj) (d : Nat) : w.drew.plus os d = w.plus os d := rfl
theorem below_plus {B : Nat} {a w : World} (h : Below B a w) (hB : B ≤ w.heap.size) (os : Array Obj) (d : Nat) : Below B a (w.plus os d) :=
  h.trans ⟨rfl, rfl, rfl, by simp, fun k hk => block_plus _ _ _ _ (by omega)⟩
theorem block_plus' (w : World) (os : Array Obj) (d n : Nat) [h : Has w n] : (w.plus os d).heap[n]? = w.heap[n]? := block_plus w os d n h.lt
theorem block_alloc' (w : World) (o : Obj) (n : Nat) [h : Has w n] : (w.alloc o).heap[n]? = w.heap[n]? := Below.heap_alloc w o n h.lt
theorem block_at (w : World) (o : Obj) (s : Nat) [h : HasSize w s] : (w.alloc o).heap[s]? = some o := by
  rw [← h.eq]
  unfold World.alloc
  simp
theorem block_drew (w : World) (n : Nat) : w.drew.heap[n]? = w.heap[n]? := rfl
theorem block_ne (w : World) (g o n : Nat) (v : Value) (h : n ≠ g) : (w.setCell ⟨g, o, none⟩ v).heap[n]? = w.heap[n]? := Below.heap_setCell w ⟨g, o, none⟩ v n h
end Go.Proofs.Ytbocjicihamahaa
