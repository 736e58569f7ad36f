/- Worlds: what lies where, found by instances; rows. Names that may be. Flows of one stream; a house is made. Flows of one stream: copied. A flow of one stream may be. -/
import Derived.Test.YtmjpfoninpbgiaaGreatDoorChecked
import Derived.WalkKit
import Derived.WalkLawsBesides
import Derived.WalkSpells
import Derived.Handy
import Derived.Deep.AppendLies
import Derived.Deep.RegionHeld3
import Derived.Laws.ResultCell
import Derived.Laws.Rows
import Derived.BigQuiet
import Derived.Deep.CutBlock
import Derived.Carry
import Derived.Maps.OwnSet
import Derived.Maps.StringElems
set_option linter.unusedSimpArgs false
set_option linter.unusedVariables false
namespace Go.Proofs.YtmjpfoninpbgiaaGreatDoor
section
open Go.RowKit
theorem hid {p : Prop} (h : p) : Hid p := h
theorem cell_of_block {w : World} {g : Nat} {c : Array Value} {T : TypeId} {fr : Nat × Nat} (h : w.heap[g]? = some (.cells c T fr)) (o : Nat) : w.cell? ⟨g, o, none⟩ = c[o]? := by
  simp [World.cell?, h]
theorem free_of_block {w : World} {g : Nat} {c : Array Value} {T : TypeId} (h : w.heap[g]? = some (.cells c T (0, 0))) (o : Nat) : w.frozen? ⟨g, o, none⟩ = false := by
  simp [World.frozen?, h]
theorem set_of_block {w : World} {g : Nat} {c : Array Value} {T : TypeId} {fr : Nat × Nat} (h : w.heap[g]? = some (.cells c T fr)) (o : Nat) (v : Value) : (w.setCell ⟨g, o, none⟩ v).heap[g]? = some (.cells (c.setIfInBounds o v) T fr) := by
  simp [World.setCell, Array.getElem?_modify, h]
theorem lt_of_block {w : World} {g : Nat} {o : Obj} (h : w.heap[g]? = some o) : g < w.heap.size := by
  rcases Nat.lt_or_ge g w.heap.size with h' | h'
  · exact h'
  · rw [Array.getElem?_eq_none h'] at h; cases h
theorem block_ne (w : World) (g o n : Nat) (v : Value) (h : n ≠ g) : (w.setCell ⟨g, o, none⟩ v).heap[n]? = w.heap[n]? := Below.heap_setCell w ⟨g, o, none⟩ v n h
/-- Below block number B nothing has turned but what lies in the blocks S. -/
structure Keeps (B : Nat) (S : List Nat) (w w' : World) : Prop where
  os : w'.os = w.os
  tape : w'.tape = w.tape
  output : w'.output = w.output
  size : w.heap.size ≤ w'.heap.size
  block : ∀ k, k < B → k ∉ S → w'.heap[k]? = w.heap[k]?
theorem Keeps.refl (B : Nat) (S : List Nat) (w : World) : Keeps B S w w := ⟨rfl, rfl, rfl, Nat.le_refl _, fun _ _ _ => rfl⟩
theorem Keeps.trans {B : Nat} {S : List Nat} {a b c : World} (h : Keeps B S a b) (k : Keeps B S b c) : Keeps B S a c :=
  ⟨k.os.trans h.os, k.tape.trans h.tape, k.output.trans h.output, Nat.le_trans h.size k.size, fun i hi hp => (k.block i hi hp).trans (h.block i hi hp)⟩
theorem Keeps.mono {B B' : Nat} {S S' : List Nat} {w w' : World} (h : Keeps B S w w') (hB : B' ≤ B) (hS : ∀ k, k < B' → k ∈ S → k ∈ S') : Keeps B' S' w w' :=
  ⟨h.os, h.tape, h.output, h.size, fun k hk hn => h.block k (Nat.lt_of_lt_of_le hk hB) (fun e => hn (hS k hk e))⟩
theorem Keeps.of_below {B : Nat} {S : List Nat} {w w' : World} (h : Below B w w') : Keeps B S w w' := ⟨h.os, h.tape, h.output, h.size, fun k hk _ => h.block k hk⟩
theorem Keeps.below {B : Nat} {w w' : World} (h : Keeps B [] w w') : Below B w w' := ⟨h.os, h.tape, h.output, h.size, fun k hk => h.block k hk (by simp)⟩
theorem Keeps.drew {B : Nat} {S : List Nat} {a w : World} (h : Keeps B S a w) : Keeps B S a w.drew := ⟨h.os, h.tape, h.output, h.size, h.block⟩
theorem Keeps.alloc {B : Nat} {S : List Nat} {a w : World} (h : Keeps B S a w) (hB : B ≤ w.heap.size) (o : Obj) : Keeps B S a (w.alloc o) :=
  h.trans ⟨rfl, rfl, rfl, by simp, fun k hk _ => Below.heap_alloc _ _ _ (by omega)⟩
theorem Keeps.set {B : Nat} {S : List Nat} {a w : World} {g : Nat} (h : Keeps B S a w) (hg : g ∈ S ∨ B ≤ g) (o : Nat) (v : Value) : Keeps B S a (w.setCell ⟨g, o, none⟩ v) :=
  h.trans ⟨rfl, rfl, rfl, by simp [World.setCell], fun k hk hn => block_ne _ _ _ _ _ (fun e => by subst e; rcases hg with h | h; exact hn h; omega)⟩
theorem Keeps.cell {B : Nat} {S : List Nat} {w w' : World} (h : Keeps B S w w') {q : Addr} (hq : q.block < B) (hn : q.block ∉ S) : w'.cell? q = w.cell? q := World.cell?_of_block (w := w) (h.block q.block hq hn)
/-! Sizes by the shape of a world: an order among sums that is read off their shape. -/
class LeN (a b : Nat) : Prop where
  le : a ≤ b
class LtN (a b : Nat) : Prop where
  lt : a < b
instance leN_refl (a : Nat) : LeN a a := ⟨Nat.le_refl a⟩
instance (priority := 900) leN_add (a b k : Nat) [h : LeN a b] : LeN a (b + k) := ⟨Nat.le_trans h.le (Nat.le_add_right b k)⟩
instance ltN_one (a b : Nat) [h : LeN a b] : LtN a (b + 1) := ⟨Nat.lt_succ_of_le h.le⟩
instance (priority := 900) ltN_add (a b k : Nat) [h : LtN a b] : LtN a (b + k) := ⟨Nat.lt_of_lt_of_le h.lt (Nat.le_add_right b k)⟩
class HasSize (w : World) (s : outParam Nat) : Prop where
  eq : w.heap.size = s
instance (priority := 100) hasSize_self (w : World) : HasSize w w.heap.size := ⟨rfl⟩
instance hasSize_alloc (w : World) (o : Obj) (s : Nat) [h : HasSize w s] : HasSize (w.alloc o) (s + 1) := ⟨by rw [World.size_alloc, h.eq]⟩
instance hasSize_drew (w : World) (s : Nat) [h : HasSize w s] : HasSize w.drew s := ⟨h.eq⟩
instance hasSize_setCell (w : World) (a : Addr) (v : Value) (s : Nat) [h : HasSize w s] : HasSize (w.setCell a v) s := ⟨by rw [World.size_setCell, h.eq]⟩
class Has (w : World) (n : Nat) : Prop where
  lt : n < w.heap.size
instance has_of (w : World) (n s : Nat) [h : HasSize w s] [k : LtN n s] : Has w n := ⟨by rw [h.eq]; exact k.lt⟩
instance (priority := 500) has_alloc (w : World) (o : Obj) (n : Nat) [h : Has w n] : Has (w.alloc o) n := ⟨by rw [World.size_alloc]; exact Nat.lt_succ_of_lt h.lt⟩
instance (priority := 500) has_drew (w : World) (n : Nat) [h : Has w n] : Has w.drew n := ⟨h.lt⟩
instance (priority := 500) has_setCell (w : World) (a : Addr) (v : Value) (n : Nat) [h : Has w n] : Has (w.setCell a v) n := ⟨by rw [World.size_setCell]; exact h.lt⟩
section
variable (w : World) (n i : Nat) [hn : Has w n]
@[go_sem] theorem cell_alloc' (o : Obj) : (w.alloc o).cell? ⟨n, i, none⟩ = w.cell? ⟨n, i, none⟩ := World.cell?_alloc_past o n i hn.lt
@[go_sem] theorem frozen_alloc' (o : Obj) : (w.alloc o).frozen? ⟨n, i, none⟩ = w.frozen? ⟨n, i, none⟩ := World.frozen?_alloc_past o n i hn.lt
@[go_sem] theorem setCell_alloc' (o : Obj) (v : Value) : (w.alloc o).setCell ⟨n, i, none⟩ v = (w.setCell ⟨n, i, none⟩ v).alloc o := World.setCell_alloc_past o n i v hn.lt
end
theorem block_alloc' (w : World) (o : Obj) (n : Nat) [h : Has w n] : (w.alloc o).heap[n]? = w.heap[n]? := Below.heap_alloc w o n h.lt
theorem block_at (w : World) (o : Obj) (s : Nat) [h : HasSize w s] : (w.alloc o).heap[s]? = some o := by
  rw [← h.eq]
  unfold World.alloc
  simp
theorem block_drew (w : World) (n : Nat) : w.drew.heap[n]? = w.heap[n]? := rfl

/-- A block of cells. -/
def Bk (w : World) (g : Nat) (L : List Value) (T : Nat) : Prop := w.heap[g]? = some (.cells L.toArray T (0, 0))
theorem Bk.lt {w : World} {g T : Nat} {L : List Value} (h : Bk w g L T) : g < w.heap.size := lt_of_block h
theorem Bk.cell {w : World} {g T : Nat} {L : List Value} (h : Bk w g L T) {i : Nat} {x : Value} (hx : L[i]? = some x) : w.cell? ⟨g, i, none⟩ = some x := by
  rw [cell_of_block h]; simpa using hx
theorem Bk.free {w : World} {g T : Nat} {L : List Value} (h : Bk w g L T) (i : Nat) : w.frozen? ⟨g, i, none⟩ = false := free_of_block h i
theorem Bk.set {w : World} {g T : Nat} {L : List Value} (h : Bk w g L T) (i : Nat) (x : Value) : Bk (w.setCell ⟨g, i, none⟩ x) g (L.set i x) T := by
  have := set_of_block h i x
  rw [List.setIfInBounds_toArray] at this
  exact this
theorem Bk.keep {w w' : World} {g T B : Nat} {S : List Nat} {L : List Value} (h : Bk w g L T) (k : Keeps B S w w') (hB : w.heap.size ≤ B) (hS : g ∉ S) : Bk w' g L T := (k.block g (Nat.lt_of_lt_of_le h.lt hB) hS).trans h
theorem Bk.below {w w' : World} {g T : Nat} {L : List Value} (h : Bk w g L T) (b : Below w.heap.size w w') : Bk w' g L T := (b.block g h.lt).trans h
theorem below_low {B B' : Nat} {w w' : World} (h : Below B w w') (hB : B' ≤ B) : Below B' w w' := ((Keeps.of_below (S := []) h).mono hB (fun _ _ h => h)).below
theorem below_store {w wr : World} {g i : Nat} {v : Value} (b : Below w.heap.size w wr) (h : w.heap.size ≤ g) : Below w.heap.size w (wr.setCell ⟨g, i, none⟩ v) := ((Keeps.of_below (S := []) b).set (Or.inr h) i v).below

theorem below_keeps {B g : Nat} {w a b : World} (h : Below B w a) (k : Keeps a.heap.size [g] a b) (hg : B ≤ g) (hB : B ≤ a.heap.size) : Below B w b := by
  refine ((Keeps.of_below (S := []) h).trans (k.mono hB (fun i hi hm => ?_))).below
  rw [List.mem_singleton] at hm
  omega
/-! What lies where, found by instances. -/
/-- Only blocks are new. -/
class Kp0 (W : outParam World) (w' : World) : Prop where
  out : Below W.heap.size W w'
/-- .. and some blocks are written over. -/
class KpS (W : outParam World) (S : outParam (List Nat)) (w' : World) : Prop where
  out : Keeps W.heap.size S W w'
class NeN (a b : Nat) : Prop where
  out : a ≠ b
instance neN_lt (a b : Nat) [h : LtN a b] : NeN a b := ⟨Nat.ne_of_lt h.lt⟩
instance neN_gt (a b : Nat) [h : LtN b a] : NeN a b := ⟨Ne.symm (Nat.ne_of_lt h.lt)⟩
class NIn (a : Nat) (S : List Nat) : Prop where
  out : a ∉ S
instance nIn_nil (a : Nat) : NIn a [] := ⟨by simp⟩
instance nIn_cons (a b : Nat) (S : List Nat) [h : NeN a b] [k : NIn a S] : NIn a (b :: S) := ⟨by
  intro hm
  rcases List.mem_cons.1 hm with e | e
  · exact h.out e
  · exact k.out e⟩
instance (priority := 800) ltN_has (w : World) (b : Nat) [h : Has w b] : LtN b w.heap.size := ⟨h.lt⟩
instance has_kp0 (W w' : World) (n : Nat) [k : Kp0 W w'] [h : Has W n] : Has w' n := ⟨Nat.lt_of_lt_of_le h.lt k.out.size⟩
instance has_kpS (W w' : World) (S : List Nat) (n : Nat) [k : KpS W S w'] [h : Has W n] : Has w' n := ⟨Nat.lt_of_lt_of_le h.lt k.out.size⟩
def cq (w : World) (a : Addr) : Option Value := w.cell? a
def fq (w : World) (a : Addr) : Bool := w.frozen? a
@[go_sem] theorem cq_def (w : World) (a : Addr) : cq w a = w.cell? a := rfl
@[go_sem] theorem fq_def (w : World) (a : Addr) : fq w a = w.frozen? a := rfl
theorem frozen_of_heap {w w' : World} {n i : Nat} (h : w'.heap[n]? = w.heap[n]?) : w'.frozen? ⟨n, i, none⟩ = w.frozen? ⟨n, i, none⟩ := by simp only [World.frozen?, h]
section
variable (w' : World) {W : World} (n i : Nat)
@[go_sem] theorem cell_kp0 [k : Kp0 W w'] [h : Has W n] : w'.cell? ⟨n, i, none⟩ = cq W ⟨n, i, none⟩ := World.cell?_of_block (w := W) (k.out.block n h.lt)
@[go_sem] theorem cell_kpS {S : List Nat} [k : KpS W S w'] [h : Has W n] [e : NIn n S] : w'.cell? ⟨n, i, none⟩ = cq W ⟨n, i, none⟩ := World.cell?_of_block (w := W) (k.out.block n h.lt e.out)
@[go_sem] theorem frozen_kp0 [k : Kp0 W w'] [h : Has W n] : w'.frozen? ⟨n, i, none⟩ = fq W ⟨n, i, none⟩ := frozen_of_heap (k.out.block n h.lt)
@[go_sem] theorem frozen_kpS {S : List Nat} [k : KpS W S w'] [h : Has W n] [e : NIn n S] : w'.frozen? ⟨n, i, none⟩ = fq W ⟨n, i, none⟩ := frozen_of_heap (k.out.block n h.lt e.out)
end
class BkC (w : World) (g : Nat) (L : outParam (List Value)) (T : outParam Nat) : Prop where
  out : Bk w g L T
instance (priority := 1100) bkC_new (w : World) (s : Nat) (L : List Value) (T : Nat) [hs : HasSize w s] : BkC (w.alloc (.cells L.toArray T)) s L T := ⟨block_at w _ s⟩
instance bkC_alloc (w : World) (g : Nat) (L : List Value) (T : Nat) (o : Obj) [h : BkC w g L T] : BkC (w.alloc o) g L T := ⟨h.out.below ((Below.refl _ _).alloc (Nat.le_refl _) _)⟩
instance bkC_drew (w : World) (g : Nat) (L : List Value) (T : Nat) [h : BkC w g L T] : BkC w.drew g L T := ⟨h.out.below (Below.drew (Below.refl _ _))⟩
instance bkC_kp0 (W w' : World) (g : Nat) (L : List Value) (T : Nat) [k : Kp0 W w'] [h : BkC W g L T] : BkC w' g L T := ⟨h.out.below k.out⟩
instance bkC_kpS (W w' : World) (S : List Nat) (g : Nat) (L : List Value) (T : Nat) [k : KpS W S w'] [e : NIn g S] [h : BkC W g L T] : BkC w' g L T := ⟨h.out.keep k.out (Nat.le_refl _) e.out⟩
class SetC (L : List Value) (i : Nat) (x : Value) (M : outParam (List Value)) : Prop where
  out : L.set i x = M
instance setC_0 (a : Value) (L : List Value) (x : Value) : SetC (a :: L) 0 x (x :: L) := ⟨rfl⟩
instance setC_s (a : Value) (L M : List Value) (i : Nat) (x : Value) [h : SetC L i x M] : SetC (a :: L) (i + 1) x (a :: M) := ⟨by rw [List.set_cons_succ, h.out]⟩
instance bkC_set (w : World) (g i : Nat) (x : Value) (L M : List Value) (T : Nat) [h : BkC w g L T] [k : SetC L i x M] : BkC (w.setCell ⟨g, i, none⟩ x) g M T := ⟨k.out ▸ h.out.set i x⟩
instance bkC_setN (w : World) (g n i : Nat) (x : Value) (L : List Value) (T : Nat) [e : NeN g n] [h : BkC w g L T] : BkC (w.setCell ⟨n, i, none⟩ x) g L T := ⟨(block_ne _ _ _ _ _ e.out).trans h.out⟩
instance has_bk (w : World) (g : Nat) (L : List Value) (T : Nat) [h : BkC w g L T] : Has w g := ⟨h.out.lt⟩
/-- Made behind B. -/
class Up (B g : Nat) : Prop where
  out : B ≤ g
instance up_le (B g : Nat) [h : LeN B g] : Up B g := ⟨h.le⟩
instance (priority := 700) leN_size (v : World) (o : Obj) (s n : Nat) [h : HasSize (v.alloc o) s] [k : LeN s n] : LeN (v.alloc o).heap.size n := ⟨by rw [h.eq]; exact k.le⟩
/-- A world that has grown. -/
class Gr (v : World) (W : World) : Prop where
  out : Below v.heap.size v W
instance gr_refl (v : World) : Gr v v := ⟨Below.refl _ _⟩
instance gr_alloc (v W : World) (o : Obj) [h : Gr v W] : Gr v (W.alloc o) := ⟨h.out.alloc h.out.size _⟩
instance gr_drew (v W : World) [h : Gr v W] : Gr v W.drew := ⟨Below.drew h.out⟩
instance gr_kp0 (v W w' : World) [k : Kp0 W w'] [h : Gr v W] : Gr v w' := ⟨Below.trans h.out (below_low k.out h.out.size)⟩
instance gr_set (v W : World) (n i : Nat) (x : Value) [h : Gr v W] [u : Up v.heap.size n] : Gr v (W.setCell ⟨n, i, none⟩ x) := ⟨below_store h.out u.out⟩
instance leN_gr (v W : World) [h : Gr v W] : LeN v.heap.size W.heap.size := ⟨h.out.size⟩
/-- A world in which only the blocks S have turned of what was there. -/
class GS (v : World) (S : List Nat) (W : World) : Prop where
  out : Keeps v.heap.size S v W
instance gs_refl (v : World) (S : List Nat) : GS v S v := ⟨Keeps.refl _ _ _⟩
instance gs_alloc (v : World) (S : List Nat) (W : World) (o : Obj) [h : GS v S W] : GS v S (W.alloc o) := ⟨h.out.alloc h.out.size o⟩
instance gs_drew (v : World) (S : List Nat) (W : World) [h : GS v S W] : GS v S W.drew := ⟨h.out.drew⟩
instance gs_kp0 (v : World) (S : List Nat) (W w' : World) [k : Kp0 W w'] [h : GS v S W] : GS v S w' := ⟨h.out.trans ((Keeps.of_below k.out).mono h.out.size (fun _ _ h => h))⟩
/-- Each of these may be turned. -/
class SubS (B : Nat) (T S : List Nat) : Prop where
  out : ∀ k, k < B → k ∈ T → k ∈ S
instance subS_nil (B : Nat) (S : List Nat) : SubS B [] S := ⟨fun k _ h => by cases h⟩
class MemS (k : Nat) (S : List Nat) : Prop where
  out : k ∈ S
instance memS_here (k : Nat) (S : List Nat) : MemS k (k :: S) := ⟨List.mem_cons_self⟩
instance (priority := 900) memS_there (k j : Nat) (S : List Nat) [h : MemS k S] : MemS k (j :: S) := ⟨List.mem_cons_of_mem _ h.out⟩
instance subS_mem (B k : Nat) (T S : List Nat) [h : MemS k S] [r : SubS B T S] : SubS B (k :: T) S := ⟨fun j hj hm => by
  rcases List.mem_cons.1 hm with rfl | hm
  · exact h.out
  · exact r.out j hj hm⟩
instance (priority := 900) subS_up (B k : Nat) (T S : List Nat) [h : Up B k] [r : SubS B T S] : SubS B (k :: T) S := ⟨fun j hj hm => by
  rcases List.mem_cons.1 hm with rfl | hm
  · exact absurd hj (Nat.not_lt.2 h.out)
  · exact r.out j hj hm⟩
instance gs_kpS (v : World) (S T : List Nat) (W w' : World) [k : KpS W T w'] [h : GS v S W] [s : SubS v.heap.size T S] : GS v S w' := ⟨h.out.trans (k.out.mono h.out.size s.out)⟩
instance gr_kpS (v : World) (T : List Nat) (W w' : World) [k : KpS W T w'] [h : Gr v W] [s : SubS v.heap.size T []] : Gr v w' := ⟨((Keeps.of_below (S := []) h.out).trans (k.out.mono h.out.size s.out)).below⟩
instance (priority := 900) gs_set (v : World) (S : List Nat) (n i : Nat) (x : Value) (W : World) [h : GS v S W] [m : MemS n S] : GS v S (W.setCell ⟨n, i, none⟩ x) := ⟨h.out.set (Or.inl m.out) i x⟩
instance gs_setU (v : World) (S : List Nat) (n i : Nat) (x : Value) (W : World) [h : GS v S W] [u : Up v.heap.size n] : GS v S (W.setCell ⟨n, i, none⟩ x) := ⟨h.out.set (Or.inr u.out) i x⟩
/-- Made behind a world. -/
class UpW (w : outParam World) (j : Nat) : Prop where
  out : w.heap.size ≤ j
instance (priority := 900) ltN_upW (w : World) (b j : Nat) [u : UpW w j] [h : Has w b] : LtN b j := ⟨Nat.lt_of_lt_of_le h.lt u.out⟩
instance up_upW (v w : World) (j : Nat) [u : UpW w j] [g : Gr v w] : Up v.heap.size j := ⟨Nat.le_trans g.out.size u.out⟩
/-! Rows of things, each in one cell. -/
section
variable {α : Type} {P : Program}
structure EOk (T : Nat) (E : World → Value → α → Prop) : Prop where
  below : ∀ {w w' : World} {u : Value} {x : α}, E w u x → Below w.heap.size w w' → E w' u x
  keep : ∀ {w w' : World} {g : Nat} {C : Array Value} {u : Value} {x : α}, w.heap[g]? = some (.cells C T (0, 0)) → Keeps w.heap.size [g] w w' → E w u x → E w' u x
  one : ∀ {w : World} {u : Value} {x : α}, E w u x → u.oneCell' = true
theorem EOk.set {T : Nat} {E : World → Value → α → Prop} (e : EOk T E) {w : World} {g : Nat} {C : Array Value} {i : Nat} {v u : Value} {x : α} (h : w.heap[g]? = some (.cells C T (0, 0))) (k : E w u x) : E (w.setCell ⟨g, i, none⟩ v) u x :=
  e.keep h ((Keeps.refl _ _ _).set (Or.inl (List.mem_singleton.2 rfl)) i v) k
/-- A slice whose cells are such things. -/
def Rw (T : Nat) (E : World → Value → α → Prop) (w : World) (v : Value) (l : List α) : Prop :=
  ∃ a cap, v = .slice a l.length cap ∧ l.length ≤ cap ∧ (0 < l.length → ∃ g off C, a = some ⟨g, off, none⟩ ∧ w.heap[g]? = some (.cells C T (0, 0)) ∧ ∀ (i : Nat) (x : α), l[i]? = some x → ∃ u, C[off + i]? = some u ∧ E w u x)
variable {T : Nat} {E : World → Value → α → Prop}
theorem Rw.below (e : EOk T E) {w w' : World} {v : Value} {l : List α} (h : Rw T E w v l) (b : Below w.heap.size w w') : Rw T E w' v l := by
  obtain ⟨a, cap, h1, h2, h3⟩ := h
  refine ⟨a, cap, h1, h2, fun hl => ?_⟩
  obtain ⟨g, off, C, k1, k2, k3⟩ := h3 hl
  refine ⟨g, off, C, k1, (b.block g (lt_of_block k2)).trans k2, fun i x hx => ?_⟩
  obtain ⟨u, q1, q2⟩ := k3 i x hx
  exact ⟨u, q1, e.below q2 b⟩
theorem Rw.nil (w : World) : Rw T E w (.slice none 0 0) ([] : List α) := ⟨none, 0, rfl, Nat.le_refl _, fun h => by cases h⟩
theorem Rw.take {w : World} {a : Option Addr} {n cap : Nat} {l : List α} (h : Rw T E w (.slice a n cap) l) {k : Nat} (hk : k ≤ l.length) : Rw T E w (.slice a k cap) (l.take k) := by
  obtain ⟨a', cap', h1, h2, h3⟩ := h
  simp only [Value.slice.injEq] at h1
  obtain ⟨rfl, rfl, rfl⟩ := h1
  refine ⟨a, cap, by rw [List.length_take, Nat.min_eq_left hk], by rw [List.length_take]; omega, fun hl => ?_⟩
  obtain ⟨g, off, C, k1, k2, k3⟩ := h3 (by rw [List.length_take] at hl; omega)
  refine ⟨g, off, C, k1, k2, fun i x hx => ?_⟩
  rw [List.getElem?_take] at hx
  split at hx
  · exact k3 i x hx
  · cases hx
/-- What lies at number i. -/
theorem Rw.at {w : World} {a : Option Addr} {n cap : Nat} {l : List α} (h : Rw T E w (.slice a n cap) l) {i : Nat} {x : α} (hx : l[i]? = some x) : ∃ g off u, a = some ⟨g, off, none⟩ ∧ g < w.heap.size ∧ w.cell? ⟨g, off + i, none⟩ = some u ∧ E w u x := by
  obtain ⟨a', cap', h1, h2, h3⟩ := h
  simp only [Value.slice.injEq] at h1
  obtain ⟨rfl, rfl, rfl⟩ := h1
  obtain ⟨hi, -⟩ := List.getElem?_eq_some_iff.1 hx
  obtain ⟨g, off, C, k1, k2, k3⟩ := h3 (by omega)
  obtain ⟨u, q1, q2⟩ := k3 i x hx
  exact ⟨g, off, u, k1, lt_of_block k2, by rw [cell_of_block k2]; exact q1, q2⟩
theorem Rw.form {w : World} {v : Value} {l : List α} (h : Rw T E w v l) : ∃ a cap, v = .slice a l.length cap ∧ l.length ≤ cap := by
  obtain ⟨a, cap, h1, h2, -⟩ := h
  exact ⟨a, cap, h1, h2⟩
/-- A block of n cells, the first j filled. -/
def Fl (T : Nat) (E : World → Value → α → Prop) (w : World) (g n : Nat) (l : List α) (j : Nat) : Prop :=
  ∃ C : Array Value, w.heap[g]? = some (.cells C T (0, 0)) ∧ C.size = n ∧ ∀ (i : Nat) (x : α), i < j → l[i]? = some x → ∃ u, C[i]? = some u ∧ E w u x
theorem Fl.below (e : EOk T E) {w w' : World} {g n j : Nat} {l : List α} (h : Fl T E w g n l j) (b : Below w.heap.size w w') : Fl T E w' g n l j := by
  obtain ⟨C, h1, h2, h3⟩ := h
  refine ⟨C, (b.block g (lt_of_block h1)).trans h1, h2, fun i x hi hx => ?_⟩
  obtain ⟨u, q1, q2⟩ := h3 i x hi hx
  exact ⟨u, q1, e.below q2 b⟩
theorem Fl.lt {w : World} {g n j : Nat} {l : List α} (h : Fl T E w g n l j) : g < w.heap.size := by
  obtain ⟨C, h1, -⟩ := h
  exact lt_of_block h1
/-- There is a cell, and it may be written. -/
theorem Fl.slot {w : World} {g n j i : Nat} {l : List α} (h : Fl T E w g n l j) (hi : i < n) : (∃ u, w.cell? ⟨g, i, none⟩ = some u) ∧ w.frozen? ⟨g, i, none⟩ = false := by
  obtain ⟨C, h1, h2, -⟩ := h
  refine ⟨⟨C[i], ?_⟩, free_of_block h1 i⟩
  rw [cell_of_block h1]
  exact Array.getElem?_eq_getElem (by omega)
theorem Fl.put (e : EOk T E) {w : World} {g n j : Nat} {l : List α} {u : Value} {x : α} (h : Fl T E w g n l j) (hj : j < n) (hx : l[j]? = some x) (hu : E w u x) : Fl T E (w.setCell ⟨g, j, none⟩ u) g n l (j + 1) := by
  obtain ⟨C, h1, h2, h3⟩ := h
  refine ⟨C.setIfInBounds j u, set_of_block h1 j u, by rw [Array.size_setIfInBounds]; exact h2, fun i y hi hy => ?_⟩
  rw [Array.getElem?_setIfInBounds]
  by_cases hij : j = i
  · subst hij
    rw [if_pos rfl, if_pos (by omega)]
    rw [hx] at hy
    obtain rfl := Option.some.inj hy
    exact ⟨u, rfl, e.set h1 hu⟩
  · rw [if_neg hij]
    obtain ⟨v, q1, q2⟩ := h3 i y (by omega) hy
    exact ⟨v, q1, e.set h1 q2⟩
theorem Fl.done {w : World} {g n j : Nat} {l : List α} (h : Fl T E w g n l j) (hj : l.length ≤ j) (hn : n = l.length) : Rw T E w (.slice (some ⟨g, 0, none⟩) n n) l := by
  obtain ⟨C, h1, h2, h3⟩ := h
  subst hn
  refine ⟨_, _, rfl, Nat.le_refl _, fun _ => ⟨g, 0, C, rfl, h1, fun i x hx => ?_⟩⟩
  obtain ⟨hi, -⟩ := List.getElem?_eq_some_iff.1 hx
  rw [Nat.zero_add]
  exact h3 i x (by omega) hx
/-- A row of the call's own. -/
def Ox (T : Nat) (E : World → Value → α → Prop) (base : Nat) (w : World) (v : Value) (l : List α) : Prop := ∃ xs : List Value, w.ownsRow base T 1 v l.length xs ∧ ∀ (i : Nat) (x : α), l[i]? = some x → ∃ u, xs[i]? = some u ∧ E w u x
theorem Ox.nil (base : Nat) (w : World) : Ox T E base w (.slice none 0 0) ([] : List α) := ⟨[], ⟨rfl, .inl ⟨rfl, rfl⟩⟩, fun i x h => by cases h⟩
theorem Ox.rw {base : Nat} {w : World} {v : Value} {l : List α} (h : Ox T E base w v l) : Rw T E w v l := by
  obtain ⟨xs, ⟨h1, h2⟩, h3⟩ := h
  rcases h2 with ⟨rfl, hl⟩ | ⟨g, cap, cur, rfl, hb, hg, hc, hm, hs, ht⟩
  · rw [List.length_eq_zero_iff.1 hl]
    exact Rw.nil w
  · refine ⟨_, _, rfl, hc, fun _ => ⟨g, 0, cur, rfl, hg, fun i x hx => ?_⟩⟩
    obtain ⟨u, q1, q2⟩ := h3 i x hx
    refine ⟨u, ?_, q2⟩
    rw [← ht, List.getElem?_take] at q1
    split at q1
    · rw [Nat.zero_add, ← Array.getElem?_toList]; exact q1
    · cases q1
theorem Ox.below (e : EOk T E) {base : Nat} {w w' : World} {v : Value} {l : List α} (h : Ox T E base w v l) (b : Below w.heap.size w w') : Ox T E base w' v l := by
  obtain ⟨xs, ⟨h1, h2⟩, h3⟩ := h
  refine ⟨xs, ⟨h1, ?_⟩, fun i x hx => ?_⟩
  · rcases h2 with h | ⟨g, cap, cur, rfl, hb, hg, hc, hm, hs, ht⟩
    · exact .inl h
    · exact .inr ⟨g, cap, cur, rfl, hb, (b.block g (lt_of_block hg)).trans hg, hc, hm, hs, ht⟩
  · obtain ⟨u, q1, q2⟩ := h3 i x hx
    exact ⟨u, q1, e.below q2 b⟩
/-- The cells of a slice. -/
theorem Rw.news {w : World} {a : Option Addr} {m c : Nat} {l : List α} (h : Rw T E w (.slice a m c) l) (hl : 0 < l.length) : ∃ g off, a = some ⟨g, off, none⟩ ∧ ∃ news : List Value, news.length = m ∧ (∀ (j : Nat) (u : Value), news[j]? = some u → w.cell? ((⟨g, off, none⟩ : Addr).add j) = some u) ∧ ∀ (j : Nat) (x : α), l[j]? = some x → ∃ u, news[j]? = some u ∧ E w u x := by
  obtain ⟨a', cap', h1, h2, h3⟩ := h
  simp only [Value.slice.injEq] at h1
  obtain ⟨rfl, rfl, rfl⟩ := h1
  obtain ⟨g, off, C, k1, k2, k3⟩ := h3 hl
  have hsz : off + l.length ≤ C.size := by
    have hx := List.getElem?_eq_getElem (show l.length - 1 < l.length by omega)
    obtain ⟨u, q1, -⟩ := k3 _ _ hx
    obtain ⟨hlt, -⟩ := Array.getElem?_eq_some_iff.1 q1
    omega
  refine ⟨g, off, k1, (C.toList.drop off).take l.length, ?_, fun j u hu => ?_, fun j x hx => ?_⟩
  · have := Array.length_toList (xs := C)
    rw [List.length_take, List.length_drop]; omega
  · rw [List.getElem?_take] at hu
    split at hu
    · rw [List.getElem?_drop, Array.getElem?_toList] at hu
      have e : (⟨g, off, none⟩ : Addr).add j = ⟨g, off + j, none⟩ := by simp [Addr.add]
      rw [e, cell_of_block k2]
      exact hu
    · cases hu
  · obtain ⟨u, q1, q2⟩ := k3 j x hx
    obtain ⟨hj, -⟩ := List.getElem?_eq_some_iff.1 hx
    refine ⟨u, ?_, q2⟩
    rw [List.getElem?_take, if_pos hj, List.getElem?_drop, Array.getElem?_toList]
    exact q1
/-- A slice of at least one is appended to a row of the call's own. -/
theorem app_row (e : EOk T E) {ops : Array Oper} {rest : List Oper} {o : Oper} {a : Act} {w : World} {Q : Exit → Act → World → Prop} (hgd : o.guard = none) (s x : Operand) (t : TypeId)
    (ho : o.op = .call { callee := .builtin .append, args := #[s, x], argTypes := #[t, t] }) (base : Nat) (i : TypeInfo) (z : Value) (bytes : Nat) (ht : P.underlying t = some (.slice T)) (hi : P.info? T = some i) (hz : i.zero = some z)
    (hsize : i.size = 1) (hby : i.bytes = bytes) (hzs : z.cells.size = 1) (hb64 : bytes ≤ 64) {v : Value} {l m : List α} (hs : a.eval s = v) (hown : Ox T E base w v l)
    {ad : Option Addr} {k c : Nat} (hx : a.eval x = .slice ad k c) (hm : Rw T E w (.slice ad k c) m) (h0 : 0 < m.length) (hlen : l.length + m.length ≤ 1048576) (hbase : base ≤ w.heap.size)
    (h : ∀ g cap n' w', n' = l.length + m.length → Ox T E base w' (.slice (some ⟨g, 0, none⟩) n' cap) (l ++ m) → base ≤ g → (∀ v0 : World, v0.heap.size ≤ base → Below v0.heap.size v0 w → Below v0.heap.size v0 w') → (∀ u y, E w u y → E w' u y) → wpList P ops Q rest (a.put o.dst (.slice (some ⟨g, 0, none⟩) n' cap)) w') :
    wpList P ops Q (o :: rest) a w := by
  obtain ⟨g0, off0, rfl, news, hl, hc, hE⟩ := hm.news h0
  obtain ⟨cap0, hk, -⟩ : ∃ cap0, k = m.length ∧ cap0 = c := by
    obtain ⟨a', cap', h1, -, -⟩ := hm
    simp only [Value.slice.injEq] at h1
    exact ⟨c, h1.2.1, rfl⟩
  subst hk
  obtain ⟨xs, hown2, hEx⟩ := hown
  have h1c : ∀ u ∈ news, u.oneCell' = true := by
    intro u hu
    obtain ⟨j, hj⟩ := List.getElem?_of_mem hu
    obtain ⟨hjl, -⟩ := List.getElem?_eq_some_iff.1 hj
    obtain ⟨u', q1, q2⟩ := hE j m[j] (List.getElem?_eq_getElem (by omega))
    rw [hj] at q1
    rw [Option.some.inj q1]
    exact e.one q2
  have hby2 : (l.length + m.length) * bytes ≤ 140737488355328 := by
    have : (l.length + m.length) * bytes ≤ 1048576 * 64 := Nat.mul_le_mul hlen hb64
    omega
  refine wpList_append_lies w hgd s x t ho base T i z 1 bytes ht hi hz hsize hby hzs (by decide) v l.length xs hs hown2 ⟨g0, off0, none⟩ m.length c news hx (by omega) hc h1c h0 (by unfold maxLen; omega) hby2 hbase _ rfl (fun g cap w' r1 r2 r3 r4 => ?_)
  have hxl : xs.length = l.length := by rw [hown2.1, Nat.mul_one]
  have kE : ∀ u y, E w u y → E w' u y := by
    intro u y hu
    rcases hown2.2 with ⟨rfl, -⟩ | ⟨g1, cap1, cur1, rfl, hb1, hg1, -⟩
    · exact e.below hu (Keeps.below ⟨r2.os, r2.tape, r2.output, r2.size, fun q hq _ => r2.block q hq (by simp [Value.ownBlock])⟩)
    · exact e.keep hg1 ⟨r2.os, r2.tape, r2.output, r2.size, fun q hq hn => r2.block q hq (by simpa [Value.ownBlock] using hn)⟩ hu
  have hgb : base ≤ g := by
    rcases r1.2 with ⟨hh, -⟩ | ⟨g2, cap2, cur2, hh, hb2, -⟩
    · cases hh
    · simp only [Value.slice.injEq, Option.some.injEq, Addr.mk.injEq] at hh
      omega
  refine h g cap _ w' rfl ⟨xs ++ news, ?_, fun j y hy => ?_⟩ hgb (fun v0 hv hb => ?_) kE
  · rw [List.length_append]; exact r1
  · rcases Nat.lt_or_ge j l.length with hj | hj
    · rw [List.getElem?_append_left hj] at hy
      obtain ⟨u, q1, q2⟩ := hEx j y hy
      exact ⟨u, by rw [List.getElem?_append_left (by omega)]; exact q1, kE _ _ q2⟩
    · rw [List.getElem?_append_right hj] at hy
      obtain ⟨u, q1, q2⟩ := hE _ y hy
      exact ⟨u, by rw [List.getElem?_append_right (by omega), hxl]; exact q1, kE _ _ q2⟩
  · refine ⟨r2.os.trans hb.os, r2.tape.trans hb.tape, r2.output.trans hb.output, Nat.le_trans hb.size r2.size, fun q hq => ?_⟩
    refine (r2.block q (Nat.lt_of_lt_of_le hq hb.size) (fun hh => ?_)).trans (hb.block q hq)
    rcases hown2.2 with ⟨rfl, -⟩ | ⟨g1, cap1, cur1, rfl, hb1, -⟩
    · cases hh
    · simp only [Value.ownBlock, Option.some.injEq] at hh
      omega
end
theorem eok_rw {α : Type} {S T : Nat} {E : World → Value → α → Prop} (e : EOk S E) (hST : S ≠ T) (hE : ∀ {w w' : World} {g : Nat} {C : Array Value} {u : Value} {x : α}, w.heap[g]? = some (.cells C T (0, 0)) → Keeps w.heap.size [g] w w' → E w u x → E w' u x) : EOk T (Rw S E) where
  below := fun h b => h.below e b
  keep := by
    rintro w w' g C u x hg kp ⟨a, cap, h1, h2, h3⟩
    refine ⟨a, cap, h1, h2, fun hl => ?_⟩
    obtain ⟨k, off, D, k1, k2, k3⟩ := h3 hl
    have hkg : k ≠ g := by
      intro he
      subst he
      rw [k2] at hg
      simp only [Option.some.injEq, Obj.cells.injEq] at hg
      exact hST hg.2.1
    refine ⟨k, off, D, k1, (kp.block k (lt_of_block k2) (by simpa using hkg)).trans k2, fun j y hy => ?_⟩
    obtain ⟨z, q1, q2⟩ := k3 j y hy
    exact ⟨z, q1, hE hg kp q2⟩
  one := by
    rintro w u x ⟨a, cap, rfl, -, -⟩
    rfl
/-! A function's end. -/
section
variable {P : Program} {fn : Func} {R : Ending → World → Prop} {a : Act} {w : World} {p u : Tmp} {ty : TypeId} {g : Nat} {L : List Value} {T : Nat} {d : TypeDesc}
theorem ret_cell (h : fn.results = #[.cell p ty]) (hd0 : a.defers = []) (hp : a.tmps.getD p undef = .pointer (some ⟨g, 0, none⟩)) [hb : BkC w g L T] (hu : P.underlying ty = some d) (hd : (match d with | .struct _ | .array _ _ => true | _ => false) = true) (hi : (P.info? ty).map (·.size) = some L.toArray.size)
    (hR : R (.returned (.agg L.toArray)) w) : bodyPost P fn R .ret a w :=
  bodyPost_ret (results_cell_row h _ _ g T L.toArray (0, 0) d hp hb.out hu hd hi) hd0 hR
theorem ret_cell_tmp (h : fn.results = #[.cell p ty, .tmp u]) (hd0 : a.defers = []) (hp : a.tmps.getD p undef = .pointer (some ⟨g, 0, none⟩)) [hb : BkC w g L T] (hu : P.underlying ty = some d) (hd : (match d with | .struct _ | .array _ _ => true | _ => false) = true) (hi : (P.info? ty).map (·.size) = some L.toArray.size)
    (hR : R (.returned (.tuple #[.agg L.toArray, a.tmps.getD u undef])) w) : bodyPost P fn R .ret a w := by
  refine bodyPost_ret (v := .tuple #[.agg L.toArray, a.tmps.getD u undef]) ?_ hd0 hR
  rw [results_cell_tmp h, hp]
  simp [asAddr, Result.andThen, run_loadVar_row w g T ty L.toArray (0, 0) d hb.out hu hd hi]
end
end
section
open Go.RowKit
/-! Names, plainly. -/
def letB (c : Nat) : Bool := decide (97 ≤ c) && decide (c ≤ 122)
def moreB (c : Nat) : Bool := letB c || (decide (48 ≤ c) && decide (c ≤ 57)) || decide (c = 45)
def runL : List UInt8 → Nat
  | [] => 0
  | c :: l => if moreB c.toNat = true then runL l + 1 else 0
def fitL (l : List UInt8) : Bool := decide (1 ≤ l.length) && decide (l.length ≤ 32) && letB (l.head?.getD 0).toNat && decide (runL l = l.length)
theorem runL_le (l : List UInt8) : runL l ≤ l.length := by
  induction l with
  | nil => exact Nat.le_refl _
  | cons c l ih =>
    rw [runL]
    split
    · rw [List.length_cons]; omega
    · exact Nat.zero_le _
theorem runL_stop : ∀ {l : List UInt8} {k : Nat}, k ≤ l.length → (∀ i (h : i < l.length), i < k → moreB l[i].toNat = true) → (∀ h : k < l.length, moreB l[k].toNat = false) → runL l = k := by
  intro l
  induction l with
  | nil => intro k hk _ _; have : k = 0 := by simpa using hk
           rw [this]; rfl
  | cons c l ih =>
    intro k hk h1 h2
    rcases k with _ | k
    · have := h2 (by simp)
      rw [runL, if_neg (by simpa using this)]
    · have h0 := h1 0 (by simp) (Nat.succ_pos k)
      rw [runL, if_pos (by simpa using h0), ih (k := k) (by simpa using hk) (fun i hi hik => h1 (i + 1) (by rw [List.length_cons]; omega) (by omega)) (fun h => h2 (by rw [List.length_cons]; omega))]
theorem bytes_len (s : ByteArray) (L : List UInt8) (h : s.data.toList = L) : s.size = L.length := by
  rw [← h, Array.length_toList]
  rfl
theorem byte0 (s : ByteArray) (L : List UInt8) (h : s.data.toList = L) (j : Nat) (hj : j < L.length) (hlt : j < s.size) : (s[j]'hlt).toNat = L[j].toNat := by
  subst h
  simp [ByteArray.getElem_eq_getElem_data]
set_option synthInstance.maxHeartbeats 2000000 in
set_option synthInstance.maxSize 100000 in
set_option maxRecDepth 100000 in
set_option maxHeartbeats 16000000 in
theorem hLetter {c : Nat} {w : World} : Calls Tryz.prog 82 #[.int .u8 (c : Int)] w fun e w' => e = .returned (.bool (letB c)) ∧ w' = w := by
  obtain ⟨V, hV⟩ : ∃ V, V = letB c := ⟨_, rfl⟩
  rw [← hV]
  unfold letB at hV
  by_cases h1 : 97 ≤ c
  · have i1 : (97 : Int) ≤ (c : Int) := by omega
    by_cases h2 : c ≤ 122
    · have i2 : (c : Int) ≤ 122 := by omega
      have HV := hid (show V = true by rw [hV, decide_eq_true h1, decide_eq_true h2]; rfl)
      clear hV
      go_enter Tryz.func82, Tryz.ntmps82
      go_wp2_with fail
      go_ret
      exact ⟨by rw [HV.out]; rfl, rfl⟩
    · have i2 : ¬ (c : Int) ≤ 122 := by omega
      have i3 : decide ((c : Int) ≤ 122) = false := decide_eq_false i2
      have HV := hid (show V = false by rw [hV, decide_eq_false h2, Bool.and_false])
      clear hV
      go_enter Tryz.func82, Tryz.ntmps82
      go_wp2_with fail
      go_ret
      exact ⟨by rw [HV.out]; rfl, rfl⟩
  · have i1 : ¬ (97 : Int) ≤ (c : Int) := by omega
    have i3 : decide ((97 : Int) ≤ (c : Int)) = false := decide_eq_false i1
    have HV := hid (show V = false by rw [hV, decide_eq_false h1, Bool.false_and])
    clear hV
    go_enter Tryz.func82, Tryz.ntmps82
    go_wp2_with fail
    go_ret
    exact ⟨by rw [HV.out]; rfl, rfl⟩
set_option synthInstance.maxHeartbeats 2000000 in
set_option synthInstance.maxSize 100000 in
set_option maxRecDepth 100000 in
set_option maxHeartbeats 16000000 in
theorem hMore {c : Nat} {w : World} : Calls Tryz.prog 123 #[.int .u8 (c : Int)] w fun e w' => e = .returned (.bool (moreB c)) ∧ w' = w := by
  obtain ⟨V, hV⟩ : ∃ V, V = moreB c := ⟨_, rfl⟩
  rw [← hV]
  unfold moreB at hV
  have LE := hid (hLetter (c := c) (w := w))
  generalize letB c = B at *
  cases B with
  | true =>
    have HV := hid (show V = true by rw [hV]; rfl)
    clear hV
    go_enter Tryz.func123, Tryz.ntmps123
    go_wp2_with (go_at_call 82; (with_reducible refine Calls.mono LE.out ?_); rintro e w' ⟨rfl, hw⟩; obtain rfl := hw.symm)
    go_ret
    exact ⟨by rw [HV.out]; rfl, rfl⟩
  | false =>
    by_cases h1 : 48 ≤ c ∧ c ≤ 57
    · have i1 : (48 : Int) ≤ (c : Int) := by omega
      have i2 : (c : Int) ≤ 57 := by omega
      have HV := hid (show V = true by rw [hV, decide_eq_true h1.1, decide_eq_true h1.2]; rfl)
      clear hV
      go_enter Tryz.func123, Tryz.ntmps123
      go_wp2_with (go_at_call 82; (with_reducible refine Calls.mono LE.out ?_); rintro e w' ⟨rfl, hw⟩; obtain rfl := hw.symm)
      go_ret
      exact ⟨by rw [HV.out]; rfl, rfl⟩
    · by_cases h2 : c = 45
      · have i1 : ¬ (48 : Int) ≤ (c : Int) := by omega
        have i3 : decide ((48 : Int) ≤ (c : Int)) = false := decide_eq_false i1
        have i4 : ((c : Int) == 45) = true := beq_iff_eq.2 (by omega)
        have HV := hid (show V = true by rw [hV, decide_eq_true h2, Bool.or_true])
        subst h2
        clear hV
        go_enter Tryz.func123, Tryz.ntmps123
        go_wp2_with (go_at_call 82; (with_reducible refine Calls.mono LE.out ?_); rintro e w' ⟨rfl, hw⟩; obtain rfl := hw.symm)
        go_ret
        exact ⟨by rw [HV.out]; rfl, rfl⟩
      · have i4 : ((c : Int) == 45) = false := beq_eq_false_iff_ne.2 (by omega)
        have HV := hid (show V = false by
          rw [hV, decide_eq_false h2]
          by_cases h3 : 48 ≤ c
          · rw [decide_eq_false (show ¬ c ≤ 57 by omega)]; simp
          · rw [decide_eq_false h3]; rfl)
        clear hV
        by_cases h3 : 48 ≤ c
        · have i1 : (48 : Int) ≤ (c : Int) := by omega
          have i2 : ¬ (c : Int) ≤ 57 := by omega
          have i3 : decide ((c : Int) ≤ 57) = false := decide_eq_false i2
          go_enter Tryz.func123, Tryz.ntmps123
          go_wp2_with (go_at_call 82; (with_reducible refine Calls.mono LE.out ?_); rintro e w' ⟨rfl, hw⟩; obtain rfl := hw.symm)
          go_ret
          exact ⟨by rw [HV.out]; rfl, rfl⟩
        · have i1 : ¬ (48 : Int) ≤ (c : Int) := by omega
          have i3 : decide ((48 : Int) ≤ (c : Int)) = false := decide_eq_false i1
          go_enter Tryz.func123, Tryz.ntmps123
          go_wp2_with (go_at_call 82; (with_reducible refine Calls.mono LE.out ?_); rintro e w' ⟨rfl, hw⟩; obtain rfl := hw.symm)
          go_ret
          exact ⟨by rw [HV.out]; rfl, rfl⟩
set_option synthInstance.maxHeartbeats 2000000 in
set_option synthInstance.maxSize 100000 in
set_option maxRecDepth 100000 in
set_option maxHeartbeats 16000000 in
theorem hRun {s : ByteArray} {w : World} (hs : s.size ≤ 70000) : Calls Tryz.prog 83 #[.string s] w fun e w' => e = .returned (.int .i64 (runL s.data.toList : Nat)) ∧ w' = w := by
  obtain ⟨L, hL⟩ : ∃ L, L = s.data.toList := ⟨_, rfl⟩
  rw [← hL]
  have HS := hid hL.symm
  have HSZ := hid (bytes_len s L hL.symm)
  obtain ⟨R, hR⟩ : ∃ R, R = runL L := ⟨_, rfl⟩
  rw [← hR]
  have HR := hid hR
  have hs7 : (s.size : Int) ≤ 70000 := by omega
  clear hL hR
  go_enter Tryz.func83, Tryz.ntmps83
  go_wp2_with fail
  go_loop [3] (fun s3 => ∃ j : Nat, s3 = .int .i64 j ∧ j ≤ s.size ∧ Hid (∀ i (hi : i < L.length), i < j → moreB L[i].toNat = true)) (fun s3 => s.size - (intOf s3).toNat)
  case atStart => exact ⟨0, rfl, Nat.zero_le _, hid (fun i hi h => by omega)⟩
  case round =>
    obtain ⟨j, rfl, hj, hG⟩ := hrel
    by_cases hlt : j < s.size
    · have hkl : j < L.length := by rw [← HSZ.out]; exact hlt
      obtain ⟨n, hn⟩ : ∃ n, n = (s[j]'hlt).toNat := ⟨_, rfl⟩
      have hnl : n = L[j].toNat := by rw [hn, byte0 s L HS.out j hkl hlt]
      have hcn := hn.symm
      have hltI : (j : Int) < (s.size : Int) := by omega
      have h0 : (0 : Int) ≤ (j : Int) := by omega
      have MO := hid (fun W : World => hMore (c := n) (w := W))
      have HNL := hid hnl
      cases hb : moreB n with
      | false =>
        have HE := hid (show R = j by
          rw [HR.out]
          exact runL_stop (by rw [← HSZ.out]; exact hj) hG.out (fun h => by rw [← HNL.out]; exact hb))
        rw [hb] at MO
        clear hn hnl hG hb
        go_wp2_with (go_at_call 123; (with_reducible refine Calls.mono (MO.out _) ?_); rintro e w' ⟨rfl, hw⟩; obtain rfl := hw.symm)
        go_ret
        exact ⟨by rw [HE.out]; rfl, rfl⟩
      | true =>
        have HG2 := hid (show ∀ i (hi : i < L.length), i < j + 1 → moreB L[i].toNat = true from fun i hi hij => by
          rcases Nat.lt_or_eq_of_le (Nat.le_of_lt_succ hij) with h2 | rfl
          · exact hG.out i hi h2
          · rw [← HNL.out]; exact hb)
        rw [hb] at MO
        clear hn hnl hG hb
        go_wp2_with (go_at_call 123; (with_reducible refine Calls.mono (MO.out _) ?_); rintro e w' ⟨rfl, hw⟩; obtain rfl := hw.symm)
        go_round
        case rel => exact ⟨j + 1, by go_num, by omega, HG2⟩
        case measure => simp [intOf]; omega
    · obtain rfl : j = s.size := by omega
      have HE := hid (show R = s.size by
        rw [HR.out]
        exact runL_stop (by rw [← HSZ.out]; exact hj) hG.out (fun h => absurd h (by rw [← HSZ.out]; exact Nat.lt_irrefl _)))
      go_wp2_with fail
      go_ret
      exact ⟨by rw [HE.out]; rfl, rfl⟩
set_option synthInstance.maxHeartbeats 2000000 in
set_option synthInstance.maxSize 100000 in
set_option maxRecDepth 100000 in
set_option maxHeartbeats 16000000 in
theorem hFit {s : ByteArray} {w : World} (hs : s.size ≤ 70000) : Calls Tryz.prog 50 #[.string s] w fun e w' => e = .returned (.bool (fitL s.data.toList)) ∧ w' = w := by
  have RU := hid (fun W : World => hRun (w := W) hs)
  have hle := runL_le s.data.toList
  obtain ⟨L, hL⟩ : ∃ L, L = s.data.toList := ⟨_, rfl⟩
  rw [← hL] at RU hle ⊢
  have HS := hid hL.symm
  have HSZ := bytes_len s L hL.symm
  have HSZH := hid HSZ
  obtain ⟨V, hV⟩ : ∃ V, V = fitL L := ⟨_, rfl⟩
  rw [← hV]
  unfold fitL at hV
  have hs7 : (s.size : Int) ≤ 70000 := by omega
  by_cases h1 : 1 ≤ s.size
  · have i1 : (1 : Int) ≤ (s.size : Int) := by omega
    have i0 : (0 : Int) < (s.size : Int) := by omega
    by_cases h2 : s.size ≤ 32
    · have i2 : (s.size : Int) ≤ 32 := by omega
      have hlt : 0 < s.size := by omega
      have hkl : 0 < L.length := by omega
      obtain ⟨n, hn⟩ : ∃ n, n = (s[0]'hlt).toNat := ⟨_, rfl⟩
      have hnl : n = (L.head?.getD 0).toNat := by
        rw [hn, byte0 s L HS.out 0 hkl hlt, List.head?_eq_getElem?, List.getElem?_eq_getElem hkl]
        rfl
      have hcn := hn.symm
      have LE := hid (fun W : World => hLetter (c := n) (w := W))
      rw [← hnl, decide_eq_true (show 1 ≤ L.length by omega), decide_eq_true (show L.length ≤ 32 by omega), Bool.true_and, Bool.true_and] at hV
      generalize letB n = B at *
      generalize runL L = r at *
      by_cases h3 : r = L.length
      · have i3 : ((r : Int) == (s.size : Int)) = true := beq_iff_eq.2 (by omega)
        have HV := hid (show V = B by rw [hV, decide_eq_true h3, Bool.and_true])
        have h3' : (r : Int) = (s.size : Int) := by omega
        clear hV hn hnl hL h3 HSZ hle
        cases B
        all_goals
          go_enter Tryz.func50, Tryz.ntmps50
          go_wp2_with (first | (go_at_call 82; (with_reducible refine Calls.mono (LE.out _) ?_); rintro e w' ⟨rfl, hw⟩; obtain rfl := hw.symm) | (go_at_call 83; (with_reducible refine Calls.mono (RU.out _) ?_); rintro e w' ⟨rfl, hw⟩; obtain rfl := hw.symm))
          go_ret
          exact ⟨by rw [HV.out]; rfl, rfl⟩
      · have i3 : ((r : Int) == (s.size : Int)) = false := beq_eq_false_iff_ne.2 (by omega)
        have HV := hid (show V = false by rw [hV, decide_eq_false h3, Bool.and_false])
        clear hV hn hnl hL h3 HSZ hle
        cases B
        all_goals
          go_enter Tryz.func50, Tryz.ntmps50
          go_wp2_with (first | (go_at_call 82; (with_reducible refine Calls.mono (LE.out _) ?_); rintro e w' ⟨rfl, hw⟩; obtain rfl := hw.symm) | (go_at_call 83; (with_reducible refine Calls.mono (RU.out _) ?_); rintro e w' ⟨rfl, hw⟩; obtain rfl := hw.symm))
          go_ret
          exact ⟨by rw [HV.out]; rfl, rfl⟩
    · have i2 : ¬ (s.size : Int) ≤ 32 := by omega
      have i3 : decide ((s.size : Int) ≤ 32) = false := decide_eq_false i2
      have HV := hid (show V = false by rw [hV, decide_eq_false (show ¬ L.length ≤ 32 by omega), Bool.and_false]; rfl)
      clear hV HSZ hle
      go_enter Tryz.func50, Tryz.ntmps50
      go_wp2_with fail
      go_ret
      exact ⟨by rw [HV.out]; rfl, rfl⟩
  · have i1 : ¬ (1 : Int) ≤ (s.size : Int) := by omega
    have i3 : decide ((1 : Int) ≤ (s.size : Int)) = false := decide_eq_false i1
    have hz : s.size = 0 := by omega
    have HV := hid (show V = false by rw [hV, decide_eq_false (show ¬ 1 ≤ L.length by omega)]; rfl)
    clear hV HSZ hle hz
    go_enter Tryz.func50, Tryz.ntmps50
    go_wp2_with fail
    go_ret
    exact ⟨by rw [HV.out]; rfl, rfl⟩
end
section
open Go.RowKit
/-! Flows of one stream. -/
def elS (s : Nat × Nat) : List Value := [.int .u8 1, .complex .f64 0 0, .complex .f64 s.1 s.2, .float .f64 0]
/-- A block that begins with a stream. -/
def Fs (w : World) (g : Nat) (s : Nat × Nat) : Prop := ∃ C : Array Value, w.heap[g]? = some (.cells C 38 (0, 0)) ∧ C.toList.take 4 = elS s
class FsC (w : World) (g : Nat) (s : outParam (Nat × Nat)) : Prop where
  out : Fs w g s
theorem Fs.lt {w : World} {g : Nat} {s : Nat × Nat} (h : Fs w g s) : g < w.heap.size := by
  obtain ⟨C, h, -⟩ := h
  exact lt_of_block h
theorem Fs.below {w w' : World} {g : Nat} {s : Nat × Nat} (h : Fs w g s) (b : Below w.heap.size w w') : Fs w' g s := by
  obtain ⟨C, h1, h2⟩ := h
  exact ⟨C, (b.block g (lt_of_block h1)).trans h1, h2⟩
theorem Fs.keep {w w' : World} {g : Nat} {S : List Nat} {s : Nat × Nat} (h : Fs w g s) (b : Keeps w.heap.size S w w') (hg : g ∉ S) : Fs w' g s := by
  obtain ⟨C, h1, h2⟩ := h
  exact ⟨C, (b.block g (lt_of_block h1) hg).trans h1, h2⟩
instance has_fs (w : World) (g : Nat) (s : Nat × Nat) [h : FsC w g s] : Has w g := ⟨h.out.lt⟩
instance fsC_new (w : World) (k : Nat) (x y : Nat) [hs : HasSize w k] : FsC (w.alloc (.cells #[.int .u8 1, .complex .f64 0 0, .complex .f64 x y, .float .f64 0] 38)) k (x, y) := ⟨⟨_, block_at w _ k, rfl⟩⟩
instance fsC_alloc (w : World) (g : Nat) (s : Nat × Nat) (o : Obj) [h : FsC w g s] : FsC (w.alloc o) g s := ⟨h.out.below ((Below.refl _ _).alloc (Nat.le_refl _) _)⟩
instance fsC_drew (w : World) (g : Nat) (s : Nat × Nat) [h : FsC w g s] : FsC w.drew g s := ⟨h.out.below (Below.drew (Below.refl _ _))⟩
instance fsC_kp0 (W w' : World) (g : Nat) (s : Nat × Nat) [k : Kp0 W w'] [h : FsC W g s] : FsC w' g s := ⟨h.out.below k.out⟩
instance fsC_kpS (W w' : World) (S : List Nat) (g : Nat) (s : Nat × Nat) [k : KpS W S w'] [e : NIn g S] [h : FsC W g s] : FsC w' g s := ⟨h.out.keep k.out e.out⟩
instance fsC_set (w : World) (g n i : Nat) (v : Value) (s : Nat × Nat) [e : NeN g n] [h : FsC w g s] : FsC (w.setCell ⟨n, i, none⟩ v) g s := ⟨by
  obtain ⟨C, h1, h2⟩ := h.out
  exact ⟨C, (block_ne _ _ _ _ _ e.out).trans h1, h2⟩⟩
theorem Fs.cell {w : World} {g : Nat} {s : Nat × Nat} (h : Fs w g s) {i : Nat} {x : Value} (hx : (elS s)[i]? = some x) : w.cell? ⟨g, i, none⟩ = some x := by
  obtain ⟨C, h1, h2⟩ := h
  rw [cell_of_block h1]
  have hi : i < 4 := (List.getElem?_eq_some_iff.1 hx).1
  rw [← h2, List.getElem?_take, if_pos hi, Array.getElem?_toList] at hx
  exact hx
theorem info38z : (Tryz.prog.info? 38).map (fun i => (i.zero, i.size, i.bytes)) = some (some (.agg #[.int .u8 0, .complex .f64 0 0, .complex .f64 0 0, .float .f64 0]), 4, 48) := by kernel_rfl
theorem und27z : Tryz.prog.underlying 27 = some (.slice 38) := by kernel_rfl
set_option synthInstance.maxHeartbeats 2000000 in
set_option synthInstance.maxSize 100000 in
set_option maxRecDepth 100000 in
set_option maxHeartbeats 16000000 in
theorem lwStream {x y : Nat} {w : World} : Calls Tryz.prog 7 #[.complex .f64 x y] w fun e w' => ∃ g, e = .returned (.agg #[.slice (some ⟨g, 0, none⟩) 1 1]) ∧ FsC w' g (x, y) ∧ Kp0 w w' ∧ UpW w g := by
  go_enter Tryz.func7, Tryz.ntmps7
  go_wp2_with fail
  refine ret_cell rfl rfl rfl (by rfl) (by rfl) (by rfl) ?_
  exact ⟨_, rfl, inferInstance, ⟨Gr.out⟩, ⟨Up.out⟩⟩
set_option synthInstance.maxHeartbeats 2000000 in
set_option synthInstance.maxSize 100000 in
set_option maxRecDepth 100000 in
set_option maxHeartbeats 16000000 in
theorem hNew {w : World} : Calls Tryz.prog 6 #[] w fun e w' => e = .returned (.pointer (some ⟨w.heap.size + 1, 0, none⟩)) ∧ w' = (w.alloc (.map #[] 0)).alloc (.cells #[.bool true, .int .i32 0, .int .u32 0, .map (some w.heap.size)] 51) := by
  have hmm := @run_makeMap Tryz.prog
  go_enter Tryz.func6, Tryz.ntmps6
  go_wp2_with fail
  go_ret
  exact ⟨rfl, rfl⟩
end
section
open Go.RowKit
@[go_sem] theorem nil27 (a : Addr) (n c : Nat) (w : World) : (binOp .eql 27 (.slice (some a) n c) (.slice none 0 0)).run Tryz.prog w = .ok (.bool false) w := by kernel_rfl
/-- A stream is appended to nothing. -/
theorem app_s {ops : Array Oper} {rest : List Oper} {o : Oper} {a : Act} {w : World} {Q : Exit → Act → World → Prop} (hgd : o.guard = none) (s x : Operand)
    (ho : o.op = .call { callee := .builtin .append, args := #[s, x], argTypes := #[27, 27] }) {v : Value} {g cap : Nat} {t : Nat × Nat} (hs : a.eval s = v) (B0 : Nat) (hB0 : B0 ≤ w.heap.size) (hv : w.ownsRow B0 38 4 v 0 [])
    (hx : a.eval x = .slice (some ⟨g, 0, none⟩) 1 cap) (hm : Fs w g t)
    (h : ∀ g' cap' w', Fs w' g' t → B0 ≤ g' → (∀ v0 : World, v0.heap.size ≤ B0 → Below v0.heap.size v0 w → Below v0.heap.size v0 w') → wpList Tryz.prog ops Q rest (a.put o.dst (.slice (some ⟨g', 0, none⟩) 1 cap')) w') :
    wpList Tryz.prog ops Q (o :: rest) a w := by
  obtain ⟨ti, hti, htz, hts, htb⟩ := info_parts info38z
  refine wpList_append_lies w hgd s x 27 ho B0 38 ti _ 4 48 und27z hti htz hts htb rfl (by decide) v 0 [] hs hv ⟨g, 0, none⟩ 1 cap (elS t) hx rfl (fun j u hu => ?_) (fun u hu => ?_) (by decide) (by unfold maxLen; omega) (by decide) hB0 _ rfl (fun g' cap' w' r1 r2 r3 r4 => ?_)
  · have e : (⟨g, 0, none⟩ : Addr).add j = ⟨g, j, none⟩ := by unfold Addr.add; split <;> simp_all
    rw [e]
    exact hm.cell hu
  · unfold elS at hu
    simp only [List.mem_cons, List.not_mem_nil, or_false] at hu
    rcases hu with rfl | rfl | rfl | rfl <;> rfl
  · obtain ⟨-, hh⟩ := r1
    rcases hh with ⟨hh, -⟩ | ⟨g2, cap2, cur2, hh, hb2, hg2, hn2, hm2, hs2, ht2⟩
    · cases hh
    simp only [Value.slice.injEq, Option.some.injEq, Addr.mk.injEq, and_true, true_and] at hh
    obtain ⟨rfl, -, rfl⟩ := hh
    refine h g' cap' w' ⟨cur2, hg2, by simpa using ht2⟩ hb2 (fun v0 hv0 hbl => ?_)
    refine ⟨r2.os.trans hbl.os, r2.tape.trans hbl.tape, r2.output.trans hbl.output, Nat.le_trans hbl.size r2.size, fun k hk => ?_⟩
    refine (r2.block k (Nat.lt_of_lt_of_le hk hbl.size) (fun e => ?_)).trans (hbl.block k hk)
    rcases hv.2 with ⟨rfl, -⟩ | ⟨g3, cap3, cur3, rfl, hb3, -⟩
    · cases e
    · simp only [Value.ownBlock, Option.some.injEq] at e
      omega
theorem own_none {w : World} {k : Nat} [hs : HasSize w k] : (w.alloc (.cells #[] 38)).ownsRow k 38 4 (.slice (some ⟨k, 0, none⟩) 0 0) 0 [] := ⟨rfl, .inr ⟨k, 0, #[], rfl, Nat.le_refl _, block_at w _ k, Nat.le_refl _, by unfold maxLen; omega, rfl, rfl⟩⟩
set_option synthInstance.maxHeartbeats 2000000 in
set_option synthInstance.maxSize 100000 in
set_option maxRecDepth 100000 in
set_option maxHeartbeats 16000000 in
theorem hClone {w : World} {g cap : Nat} {s : Nat × Nat} [hs : FsC w g s] : Calls Tryz.prog 47 #[.slice (some ⟨g, 0, none⟩) 1 cap] w fun e w' => ∃ g' cap', e = .returned (.slice (some ⟨g', 0, none⟩) 1 cap') ∧ FsC w' g' s ∧ Kp0 w w' ∧ UpW w g' := by
  have HS := hid hs.out
  go_enter Tryz.func47, Tryz.ntmps47
  go_wp2_with (at_builtin; refine app_s rfl _ _ rfl rfl w.heap.size ?_ own_none rfl (HS.out.below Gr.out) ?_; (focus (rw [World.size_alloc]; exact Nat.le_succ _)); intro g' cap' wa hf' hg' hbl; haveI ff : FsC wa g' s := ⟨hf'⟩; haveI ka : Kp0 w wa := ⟨hbl w (Nat.le_refl _) Gr.out⟩; haveI ug : UpW w g' := ⟨hg'⟩; clear hf' hbl hg')
  go_ret
  exact ⟨_, _, rfl, inferInstance, ⟨Gr.out⟩, inferInstance⟩
set_option synthInstance.maxHeartbeats 2000000 in
set_option synthInstance.maxSize 100000 in
set_option maxRecDepth 100000 in
set_option maxHeartbeats 16000000 in
theorem hTwin {w : World} {g cap : Nat} {s : Nat × Nat} [hs : FsC w g s] : Calls Tryz.prog 21 #[.agg #[.slice (some ⟨g, 0, none⟩) 1 cap]] w fun e w' => ∃ g' cap', e = .returned (.agg #[.slice (some ⟨g', 0, none⟩) 1 cap']) ∧ FsC w' g' s ∧ Kp0 w w' ∧ UpW w g' := by
  go_enter Tryz.func21, Tryz.ntmps21
  go_wp2_with (go_at_call 47; (with_reducible refine Calls.mono (hClone) ?_); rintro e wc ⟨g1, cap1, rfl, _, _, _⟩)
  refine ret_cell rfl rfl rfl (by rfl) (by rfl) (by rfl) ?_
  exact ⟨_, _, rfl, inferInstance, ⟨Gr.out⟩, ⟨Up.out⟩⟩
end
section
open Go.RowKit
section
variable (P : Program) (w : World) (a : Addr) (m : Mode)
@[go_sem] theorem run_store_float (k : FloatKind) (b : Nat) : (store a (.float k b) m).run P w = stored P w a (.float k b) m := run_store P w a _ m rfl
@[go_sem] theorem run_store_complex (k : FloatKind) (b c : Nat) : (store a (.complex k b c) m).run P w = stored P w a (.complex k b c) m := run_store P w a _ m rfl
end
@[go_sem] theorem run_bits (b : Nat) (w : World) : (callFunc 146 #[Value.float .f64 b]).run Tryz.prog w = .ok (.value (.int .u64 b)) w := by
  have h := @run_callFunc_extern Tryz.prog 146 _ Extern.MathFloatBits.float64bits Tryz.func146 (by kernel_rfl) (by kernel_rfl) (by kernel_rfl) (by kernel_rfl)
  rw [h]
  rfl
@[go_sem] theorem run_frombits (n : Int) (w : World) : (callFunc 164 #[Value.int .u64 n]).run Tryz.prog w = .ok (.value (.float .f64 n.toNat)) w := by
  have h := @run_callFunc_extern Tryz.prog 164 _ Extern.MathFloatBits.float64frombits Tryz.func164 (by kernel_rfl) (by kernel_rfl) (by kernel_rfl) (by kernel_rfl)
  rw [h]
  rfl
theorem andNot63 (p : Nat) (hp : p < 18446744073709551616) : bits BinOp.andNot IntKind.u64 (p : Int) 9223372036854775808 = ((p % 9223372036854775808 : Nat) : Int) := by
  have h := u64_andNot_nat p 9223372036854775808 hp (by decide)
  rw [show 18446744073709551615 - 9223372036854775808 = 2 ^ 63 - 1 by decide, Nat.and_two_pow_sub_one_eq_mod] at h
  exact h
set_option synthInstance.maxHeartbeats 2000000 in
set_option synthInstance.maxSize 100000 in
set_option maxRecDepth 100000 in
set_option maxHeartbeats 16000000 in
theorem fabs_any (x : Nat) (hx : x < 18446744073709551616) (w : World) : Calls Tryz.prog 121 #[.float .f64 x] w fun e w' => e = .returned (.float .f64 (x % 9223372036854775808)) ∧ w' = w := by
  have h1 := andNot63 x hx
  have h2 : (((x % 9223372036854775808 : Nat) : Int)).toNat = x % 9223372036854775808 := by omega
  generalize x % 9223372036854775808 = y at *
  go_enter Tryz.func121, Tryz.ntmps121
  go_wp2_with fail
  go_ret
  exact ⟨rfl, rfl⟩
/-- Within 2^62 or so: a place's part. -/
def witB (x : Nat) : Bool := FloatKind.f64.format.order (x % 9223372036854775808) 4787326403894837248 == some Ordering.lt || FloatKind.f64.format.order (x % 9223372036854775808) 4787326403894837248 == some Ordering.eq
set_option synthInstance.maxHeartbeats 2000000 in
set_option synthInstance.maxSize 100000 in
set_option maxRecDepth 100000 in
set_option maxHeartbeats 16000000 in
theorem hWithin {x : Nat} {w : World} (hx : x < 18446744073709551616) : Calls Tryz.prog 78 #[.float .f64 x, .float .f64 4787326403894837248] w fun e w' => e = .returned (.bool (witB x)) ∧ w' = w := by
  have A := hid (fun W : World => fabs_any x hx W)
  go_enter Tryz.func78, Tryz.ntmps78
  go_wp2_with (go_at_call 121; (with_reducible refine Calls.mono (A.out _) ?_); rintro e w' ⟨rfl, hw⟩; obtain rfl := hw.symm)
  go_ret
  exact ⟨rfl, rfl⟩
set_option synthInstance.maxHeartbeats 2000000 in
set_option synthInstance.maxSize 100000 in
set_option maxRecDepth 100000 in
set_option maxHeartbeats 16000000 in
theorem hPWithin {x y : Nat} {w : World} (hx : x < 18446744073709551616) (hy : y < 18446744073709551616) : Calls Tryz.prog 120 #[.complex .f64 x y, .float .f64 4787326403894837248] w fun e w' => e = .returned (.bool (witB x && witB y)) ∧ w' = w := by
  have A := hid (fun W : World => hWithin (w := W) hx)
  have B := hid (fun W : World => hWithin (w := W) hy)
  generalize witB x = b0 at *
  generalize witB y = b1 at *
  cases b0 <;> cases b1
  all_goals
    go_enter Tryz.func120, Tryz.ntmps120
    go_wp2_with (first | (go_at_call 78; (with_reducible refine Calls.mono (A.out _) ?_); rintro e w' ⟨rfl, hw⟩; obtain rfl := hw.symm) | (go_at_call 78; (with_reducible refine Calls.mono (B.out _) ?_); rintro e w' ⟨rfl, hw⟩; obtain rfl := hw.symm))
    go_ret
    exact ⟨rfl, rfl⟩
theorem hReals {x y : Nat} {w : World} (hx : x < 18446744073709551616) (hy : y < 18446744073709551616) : Calls Tryz.prog 77 #[.complex .f64 x y] w fun e w' => e = .returned (.bool (witB x && witB y)) ∧ w' = w := by
  go_enter Tryz.func77, Tryz.ntmps77
  go_wp2_with (go_at_call 120; (with_reducible refine Calls.mono (hPWithin hx hy) ?_); rintro e w' ⟨rfl, hw⟩; obtain rfl := hw.symm)
  go_ret
  exact ⟨rfl, rfl⟩
theorem hNought0 {w : World} : Calls Tryz.prog 79 #[.complex .f64 0 0] w fun e w' => e = .returned (.bool true) ∧ w' = w := by
  have z : (FloatKind.f64.format.order 0 0 == some Ordering.eq) = true := by kernel_rfl
  go_enter Tryz.func79, Tryz.ntmps79
  go_wp2_with fail
  go_ret
  exact ⟨rfl, rfl⟩
/-- A stream's strength that may be. -/
class OkS (s : Nat × Nat) : Prop where
  out : (s.1 < 18446744073709551616 ∧ s.2 < 18446744073709551616) ∧ witB s.1 = true ∧ witB s.2 = true
theorem wit0 : witB 0 = true := by kernel_rfl
set_option synthInstance.maxHeartbeats 2000000 in
set_option synthInstance.maxSize 100000 in
set_option maxRecDepth 100000 in
set_option maxHeartbeats 16000000 in
theorem hElem {s : Nat × Nat} {w : World} [hs : OkS s] : Calls Tryz.prog 48 #[.agg #[.int .u8 1, .complex .f64 0 0, .complex .f64 s.1 s.2, .float .f64 0]] w fun e w' => e = .returned (.int .i64 0) ∧ Kp0 w w' := by
  obtain ⟨⟨h1, h2⟩, h3, h4⟩ := hs.out
  have R0 := hid (fun W : World => hReals (x := 0) (y := 0) (w := W) (by decide) (by decide))
  have R1 := hid (fun W : World => hReals (w := W) h1 h2)
  have W0 := hid (fun W : World => hWithin (x := 0) (w := W) (by decide))
  rw [wit0] at R0 W0
  rw [h3, h4] at R1
  have z : (FloatKind.f64.format.order 0 0 == some Ordering.eq) = true := by kernel_rfl
  clear h1 h2 h3 h4
  go_enter Tryz.func48, Tryz.ntmps48
  go_wp2_with (first | (go_at_call 77; (with_reducible refine Calls.mono (R0.out _) ?_); rintro e w' ⟨rfl, hw⟩; obtain rfl := hw.symm) | (go_at_call 77; (with_reducible refine Calls.mono (R1.out _) ?_); rintro e w' ⟨rfl, hw⟩; obtain rfl := hw.symm) | (go_at_call 78; (with_reducible refine Calls.mono (W0.out _) ?_); rintro e w' ⟨rfl, hw⟩; obtain rfl := hw.symm) | (go_at_call 79; (with_reducible refine Calls.mono (hNought0) ?_); rintro e w' ⟨rfl, hw⟩; obtain rfl := hw.symm))
  go_ret
  exact ⟨rfl, ⟨Gr.out⟩⟩
set_option synthInstance.maxHeartbeats 2000000 in
set_option synthInstance.maxSize 100000 in
set_option maxRecDepth 100000 in
set_option maxHeartbeats 16000000 in
theorem hCheck {s : Nat × Nat} {g cap : Nat} {w : World} [hs : OkS s] [hf : FsC w g s] : Calls Tryz.prog 22 #[.agg #[.slice (some ⟨g, 0, none⟩) 1 cap]] w fun e w' => e = .returned (.int .i64 0) ∧ Kp0 w w' := by
  have c0 := hf.out.cell (i := 0) rfl
  have c1 := hf.out.cell (i := 1) rfl
  have c2 := hf.out.cell (i := 2) rfl
  have c3 := hf.out.cell (i := 3) rfl
  go_enter Tryz.func22, Tryz.ntmps22
  go_wp2_with fail
  go_loopw [13] (fun s13 wx => ∃ j : Int, s13 = .int .i64 j ∧ (j = 0 ∨ j = 1) ∧ Kp0 w wx) (fun s13 _ => 1 - (intOf s13).toNat)
  case atStart => exact ⟨0, rfl, .inl rfl, ⟨Gr.out⟩⟩
  case round =>
    obtain ⟨j, rfl, rfl | rfl, ik⟩ := hrel
    · go_wp2_with (go_at_call 48; (with_reducible refine Calls.mono (hElem (s := s)) ?_); rintro e wc ⟨rfl, _⟩)
      go_round
      case rel => exact ⟨1, by first | rfl | go_num, .inr rfl, ⟨Gr.out⟩⟩
      case measure => simp [intOf]
    · go_wp2_with fail
      go_ret
      exact ⟨rfl, ⟨Gr.out⟩⟩
end
end Go.Proofs.YtmjpfoninpbgiaaGreatDoor
