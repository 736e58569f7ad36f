/- A reader of the given program: is it well? a piece that is wrong. -/
import Derived.Test.YtnagagcgmfkjjaaGreatDoorChecked
import Derived.WalkKit
import Derived.WalkLawsBesides
import Derived.WalkSpells
import Derived.Handy
set_option linter.unusedSimpArgs false
set_option linter.unusedVariables false
namespace Go.Proofs.YtnagagcgmfkjjaaGreatDoor
open Go.RowKit

theorem hid {p : Prop} (h : p) : Hid p := h
theorem cell_of_block {w : World} {g : Nat} {c : Array Value} {T : TypeId} {fr : Nat × Nat} (h : w.heap[g]? = some (.cells c T fr)) (o : Nat) : w.cell? ⟨g, o, none⟩ = c[o]? := by
  simp [World.cell?, h]
theorem free_of_block {w : World} {g : Nat} {c : Array Value} {T : TypeId} (h : w.heap[g]? = some (.cells c T (0, 0))) (o : Nat) : w.frozen? ⟨g, o, none⟩ = false := by
  simp [World.frozen?, h]
theorem set_of_block {w : World} {g : Nat} {c : Array Value} {T : TypeId} {fr : Nat × Nat} (h : w.heap[g]? = some (.cells c T fr)) (o : Nat) (v : Value) : (w.setCell ⟨g, o, none⟩ v).heap[g]? = some (.cells (c.setIfInBounds o v) T fr) := by
  simp [World.setCell, Array.getElem?_modify, h]
theorem lt_of_block {w : World} {g : Nat} {o : Obj} (h : w.heap[g]? = some o) : g < w.heap.size := by
  rcases Nat.lt_or_ge g w.heap.size with h' | h'
  · exact h'
  · rw [Array.getElem?_eq_none h'] at h; cases h
theorem block_ne (w : World) (g o n : Nat) (v : Value) (h : n ≠ g) : (w.setCell ⟨g, o, none⟩ v).heap[n]? = w.heap[n]? := Below.heap_setCell w ⟨g, o, none⟩ v n h
/-- Below block number B nothing has turned but what lies in the blocks S. -/
structure Keeps (B : Nat) (S : List Nat) (w w' : World) : Prop where
  os : w'.os = w.os
  tape : w'.tape = w.tape
  output : w'.output = w.output
  size : w.heap.size ≤ w'.heap.size
  block : ∀ k, k < B → k ∉ S → w'.heap[k]? = w.heap[k]?
theorem Keeps.refl (B : Nat) (S : List Nat) (w : World) : Keeps B S w w := ⟨rfl, rfl, rfl, Nat.le_refl _, fun _ _ _ => rfl⟩
theorem Keeps.trans {B : Nat} {S : List Nat} {a b c : World} (h : Keeps B S a b) (k : Keeps B S b c) : Keeps B S a c :=
  ⟨k.os.trans h.os, k.tape.trans h.tape, k.output.trans h.output, Nat.le_trans h.size k.size, fun i hi hp => (k.block i hi hp).trans (h.block i hi hp)⟩
theorem Keeps.mono {B B' : Nat} {S S' : List Nat} {w w' : World} (h : Keeps B S w w') (hB : B' ≤ B) (hS : ∀ k, k < B' → k ∈ S → k ∈ S') : Keeps B' S' w w' :=
  ⟨h.os, h.tape, h.output, h.size, fun k hk hn => h.block k (Nat.lt_of_lt_of_le hk hB) (fun e => hn (hS k hk e))⟩
theorem Keeps.of_below {B : Nat} {S : List Nat} {w w' : World} (h : Below B w w') : Keeps B S w w' := ⟨h.os, h.tape, h.output, h.size, fun k hk _ => h.block k hk⟩
theorem Keeps.below {B : Nat} {w w' : World} (h : Keeps B [] w w') : Below B w w' := ⟨h.os, h.tape, h.output, h.size, fun k hk => h.block k hk (by simp)⟩
theorem Keeps.drew {B : Nat} {S : List Nat} {a w : World} (h : Keeps B S a w) : Keeps B S a w.drew := ⟨h.os, h.tape, h.output, h.size, h.block⟩
theorem Keeps.alloc {B : Nat} {S : List Nat} {a w : World} (h : Keeps B S a w) (hB : B ≤ w.heap.size) (o : Obj) : Keeps B S a (w.alloc o) :=
  h.trans ⟨rfl, rfl, rfl, by simp, fun k hk _ => Below.heap_alloc _ _ _ (by omega)⟩
theorem Keeps.set {B : Nat} {S : List Nat} {a w : World} {g : Nat} (h : Keeps B S a w) (hg : g ∈ S ∨ B ≤ g) (o : Nat) (v : Value) : Keeps B S a (w.setCell ⟨g, o, none⟩ v) :=
  h.trans ⟨rfl, rfl, rfl, by simp [World.setCell], fun k hk hn => block_ne _ _ _ _ _ (fun e => by subst e; rcases hg with h | h; exact hn h; omega)⟩
theorem Keeps.cell {B : Nat} {S : List Nat} {w w' : World} (h : Keeps B S w w') {q : Addr} (hq : q.block < B) (hn : q.block ∉ S) : w'.cell? q = w.cell? q := World.cell?_of_block (w := w) (h.block q.block hq hn)
/-! Sizes by the shape of a world: an order among sums that is read off their shape. -/
class LeN (a b : Nat) : Prop where
  le : a ≤ b
class LtN (a b : Nat) : Prop where
  lt : a < b
instance leN_refl (a : Nat) : LeN a a := ⟨Nat.le_refl a⟩
instance (priority := 900) leN_add (a b k : Nat) [h : LeN a b] : LeN a (b + k) := ⟨Nat.le_trans h.le (Nat.le_add_right b k)⟩
instance ltN_one (a b : Nat) [h : LeN a b] : LtN a (b + 1) := ⟨Nat.lt_succ_of_le h.le⟩
instance (priority := 900) ltN_add (a b k : Nat) [h : LtN a b] : LtN a (b + k) := ⟨Nat.lt_of_lt_of_le h.lt (Nat.le_add_right b k)⟩
class HasSize (w : World) (s : outParam Nat) : Prop where
  eq : w.heap.size = s
instance (priority := 100) hasSize_self (w : World) : HasSize w w.heap.size := ⟨rfl⟩
instance hasSize_alloc (w : World) (o : Obj) (s : Nat) [h : HasSize w s] : HasSize (w.alloc o) (s + 1) := ⟨by rw [World.size_alloc, h.eq]⟩
instance hasSize_drew (w : World) (s : Nat) [h : HasSize w s] : HasSize w.drew s := ⟨h.eq⟩
instance hasSize_setCell (w : World) (a : Addr) (v : Value) (s : Nat) [h : HasSize w s] : HasSize (w.setCell a v) s := ⟨by rw [World.size_setCell, h.eq]⟩
class Has (w : World) (n : Nat) : Prop where
  lt : n < w.heap.size
instance has_of (w : World) (n s : Nat) [h : HasSize w s] [k : LtN n s] : Has w n := ⟨by rw [h.eq]; exact k.lt⟩
instance (priority := 500) has_alloc (w : World) (o : Obj) (n : Nat) [h : Has w n] : Has (w.alloc o) n := ⟨by rw [World.size_alloc]; exact Nat.lt_succ_of_lt h.lt⟩
instance (priority := 500) has_drew (w : World) (n : Nat) [h : Has w n] : Has w.drew n := ⟨h.lt⟩
instance (priority := 500) has_setCell (w : World) (a : Addr) (v : Value) (n : Nat) [h : Has w n] : Has (w.setCell a v) n := ⟨by rw [World.size_setCell]; exact h.lt⟩
section
variable (w : World) (n i : Nat) [hn : Has w n]
@[go_sem] theorem cell_alloc' (o : Obj) : (w.alloc o).cell? ⟨n, i, none⟩ = w.cell? ⟨n, i, none⟩ := World.cell?_alloc_past o n i hn.lt
@[go_sem] theorem frozen_alloc' (o : Obj) : (w.alloc o).frozen? ⟨n, i, none⟩ = w.frozen? ⟨n, i, none⟩ := World.frozen?_alloc_past o n i hn.lt
@[go_sem] theorem setCell_alloc' (o : Obj) (v : Value) : (w.alloc o).setCell ⟨n, i, none⟩ v = (w.setCell ⟨n, i, none⟩ v).alloc o := World.setCell_alloc_past o n i v hn.lt
end
theorem block_alloc' (w : World) (o : Obj) (n : Nat) [h : Has w n] : (w.alloc o).heap[n]? = w.heap[n]? := Below.heap_alloc w o n h.lt
theorem block_at (w : World) (o : Obj) (s : Nat) [h : HasSize w s] : (w.alloc o).heap[s]? = some o := by
  rw [← h.eq]
  unfold World.alloc
  simp
theorem block_drew (w : World) (n : Nat) : w.drew.heap[n]? = w.heap[n]? := rfl

/-- A reader of the text s: how far it is read, the place of the first wrong piece. -/
def Rd (w : World) (rb : Nat) (s : ByteArray) (i : Nat) (a : Int) : Prop := w.heap[rb]? = some (.cells #[.string s, .int .i64 i, .int .i64 a] 90 (0, 0))
theorem Rd.keep {w w' : World} {rb : Nat} {s : ByteArray} {i : Nat} {a : Int} {B : Nat} {S : List Nat} (h : Rd w rb s i a) (k : Keeps B S w w') (hB : rb < B) (hS : rb ∉ S) : Rd w' rb s i a := (k.block rb hB hS).trans h
theorem ok_any (rb : Nat) (s : ByteArray) (i : Nat) (a : Int) (w : World) (h : Rd w rb s i a) :
    Calls Tryz.prog 38 #[.pointer (some ⟨rb, 0, none⟩)] w fun e w' => e = .returned (.bool (decide (a < 0))) ∧ w = w' := by
  have c2 := cell_of_block h 2
  simp at c2
  clear h
  go_enter Tryz.func38, Tryz.ntmps38
  go_wp2
  go_ret
  exact ⟨rfl, rfl⟩
theorem wrong_any (rb : Nat) (s : ByteArray) (i : Nat) (a : Int) (p : Int) (w : World) (h : Rd w rb s i a) :
    Calls Tryz.prog 39 #[.pointer (some ⟨rb, 0, none⟩), .int .i64 p] w fun e w' => e = .returned (.tuple #[]) ∧ Rd w' rb s i (if a < 0 then p else a) ∧ Keeps w.heap.size [rb] w w' := by
  have c2 := cell_of_block h 2
  have f2 := free_of_block h 2
  simp at c2
  have H := hid h
  clear h
  by_cases ha : a < 0
  · rw [if_pos ha]
    have hd : decide (a < 0) = true := by simpa using ha
    go_enter Tryz.func39, Tryz.ntmps39
    go_wp2_with (go_at_call 38; ((with_reducible refine (ok_any rb s i a _ H.out).mono ?_); rintro e w' ⟨rfl, rfl⟩))
    go_end0
    exact ⟨rfl, set_of_block H.out 2 _, (Keeps.refl _ _ _).set (Or.inl (by simp)) _ _⟩
  · rw [if_neg ha]
    have hd : decide (a < 0) = false := by simpa using ha
    go_enter Tryz.func39, Tryz.ntmps39
    go_wp2_with (go_at_call 38; ((with_reducible refine (ok_any rb s i a _ H.out).mono ?_); rintro e w' ⟨rfl, rfl⟩))
    go_end0
    exact ⟨rfl, H.out, Keeps.refl _ _ _⟩
end Go.Proofs.YtnagagcgmfkjjaaGreatDoor
