/- Worlds: what lies where, found by instances; rows. Floats: what the small calls answer. What floats are worth: a number written falls within half a unit. What floats are worth: writing, with its error. -/
import Derived.Test.YtcoillcppmibgaaGreatDoorChecked
import Derived.WalkKit
import Derived.WalkLawsBesides
import Derived.WalkSpells
import Derived.Handy
import Derived.Deep.AppendLies
import Derived.Deep.RegionHeld3
import Derived.Laws.ResultCell
import Derived.Laws.Rows
import Derived.BigQuiet
import Derived.Deep.CutBlock
import Derived.Carry
import Derived.Maps.OwnSet
import Derived.Maps.StringElems
set_option linter.unusedSimpArgs false
set_option linter.unusedVariables false
namespace Go.Proofs.YtcoillcppmibgaaGreatDoor
section
open Go.RowKit
theorem hid {p : Prop} (h : p) : Hid p := h
theorem cell_of_block {w : World} {g : Nat} {c : Array Value} {T : TypeId} {fr : Nat × Nat} (h : w.heap[g]? = some (.cells c T fr)) (o : Nat) : w.cell? ⟨g, o, none⟩ = c[o]? := by
  simp [World.cell?, h]
theorem free_of_block {w : World} {g : Nat} {c : Array Value} {T : TypeId} (h : w.heap[g]? = some (.cells c T (0, 0))) (o : Nat) : w.frozen? ⟨g, o, none⟩ = false := by
  simp [World.frozen?, h]
theorem set_of_block {w : World} {g : Nat} {c : Array Value} {T : TypeId} {fr : Nat × Nat} (h : w.heap[g]? = some (.cells c T fr)) (o : Nat) (v : Value) : (w.setCell ⟨g, o, none⟩ v).heap[g]? = some (.cells (c.setIfInBounds o v) T fr) := by
  simp [World.setCell, Array.getElem?_modify, h]
theorem lt_of_block {w : World} {g : Nat} {o : Obj} (h : w.heap[g]? = some o) : g < w.heap.size := by
  rcases Nat.lt_or_ge g w.heap.size with h' | h'
  · exact h'
  · rw [Array.getElem?_eq_none h'] at h; cases h
theorem block_ne (w : World) (g o n : Nat) (v : Value) (h : n ≠ g) : (w.setCell ⟨g, o, none⟩ v).heap[n]? = w.heap[n]? := Below.heap_setCell w ⟨g, o, none⟩ v n h
/-- Below block number B nothing has turned but what lies in the blocks S. -/
structure Keeps (B : Nat) (S : List Nat) (w w' : World) : Prop where
  os : w'.os = w.os
  tape : w'.tape = w.tape
  output : w'.output = w.output
  size : w.heap.size ≤ w'.heap.size
  block : ∀ k, k < B → k ∉ S → w'.heap[k]? = w.heap[k]?
theorem Keeps.refl (B : Nat) (S : List Nat) (w : World) : Keeps B S w w := ⟨rfl, rfl, rfl, Nat.le_refl _, fun _ _ _ => rfl⟩
theorem Keeps.trans {B : Nat} {S : List Nat} {a b c : World} (h : Keeps B S a b) (k : Keeps B S b c) : Keeps B S a c :=
  ⟨k.os.trans h.os, k.tape.trans h.tape, k.output.trans h.output, Nat.le_trans h.size k.size, fun i hi hp => (k.block i hi hp).trans (h.block i hi hp)⟩
theorem Keeps.mono {B B' : Nat} {S S' : List Nat} {w w' : World} (h : Keeps B S w w') (hB : B' ≤ B) (hS : ∀ k, k < B' → k ∈ S → k ∈ S') : Keeps B' S' w w' :=
  ⟨h.os, h.tape, h.output, h.size, fun k hk hn => h.block k (Nat.lt_of_lt_of_le hk hB) (fun e => hn (hS k hk e))⟩
theorem Keeps.of_below {B : Nat} {S : List Nat} {w w' : World} (h : Below B w w') : Keeps B S w w' := ⟨h.os, h.tape, h.output, h.size, fun k hk _ => h.block k hk⟩
theorem Keeps.below {B : Nat} {w w' : World} (h : Keeps B [] w w') : Below B w w' := ⟨h.os, h.tape, h.output, h.size, fun k hk => h.block k hk (by simp)⟩
theorem Keeps.drew {B : Nat} {S : List Nat} {a w : World} (h : Keeps B S a w) : Keeps B S a w.drew := ⟨h.os, h.tape, h.output, h.size, h.block⟩
theorem Keeps.alloc {B : Nat} {S : List Nat} {a w : World} (h : Keeps B S a w) (hB : B ≤ w.heap.size) (o : Obj) : Keeps B S a (w.alloc o) :=
  h.trans ⟨rfl, rfl, rfl, by simp, fun k hk _ => Below.heap_alloc _ _ _ (by omega)⟩
theorem Keeps.set {B : Nat} {S : List Nat} {a w : World} {g : Nat} (h : Keeps B S a w) (hg : g ∈ S ∨ B ≤ g) (o : Nat) (v : Value) : Keeps B S a (w.setCell ⟨g, o, none⟩ v) :=
  h.trans ⟨rfl, rfl, rfl, by simp [World.setCell], fun k hk hn => block_ne _ _ _ _ _ (fun e => by subst e; rcases hg with h | h; exact hn h; omega)⟩
theorem Keeps.cell {B : Nat} {S : List Nat} {w w' : World} (h : Keeps B S w w') {q : Addr} (hq : q.block < B) (hn : q.block ∉ S) : w'.cell? q = w.cell? q := World.cell?_of_block (w := w) (h.block q.block hq hn)
/-! Sizes by the shape of a world: an order among sums that is read off their shape. -/
class LeN (a b : Nat) : Prop where
  le : a ≤ b
class LtN (a b : Nat) : Prop where
  lt : a < b
instance leN_refl (a : Nat) : LeN a a := ⟨Nat.le_refl a⟩
instance (priority := 900) leN_add (a b k : Nat) [h : LeN a b] : LeN a (b + k) := ⟨Nat.le_trans h.le (Nat.le_add_right b k)⟩
instance ltN_one (a b : Nat) [h : LeN a b] : LtN a (b + 1) := ⟨Nat.lt_succ_of_le h.le⟩
instance (priority := 900) ltN_add (a b k : Nat) [h : LtN a b] : LtN a (b + k) := ⟨Nat.lt_of_lt_of_le h.lt (Nat.le_add_right b k)⟩
class HasSize (w : World) (s : outParam Nat) : Prop where
  eq : w.heap.size = s
instance (priority := 100) hasSize_self (w : World) : HasSize w w.heap.size := ⟨rfl⟩
instance hasSize_alloc (w : World) (o : Obj) (s : Nat) [h : HasSize w s] : HasSize (w.alloc o) (s + 1) := ⟨by rw [World.size_alloc, h.eq]⟩
instance hasSize_drew (w : World) (s : Nat) [h : HasSize w s] : HasSize w.drew s := ⟨h.eq⟩
instance hasSize_setCell (w : World) (a : Addr) (v : Value) (s : Nat) [h : HasSize w s] : HasSize (w.setCell a v) s := ⟨by rw [World.size_setCell, h.eq]⟩
class Has (w : World) (n : Nat) : Prop where
  lt : n < w.heap.size
instance has_of (w : World) (n s : Nat) [h : HasSize w s] [k : LtN n s] : Has w n := ⟨by rw [h.eq]; exact k.lt⟩
instance (priority := 500) has_alloc (w : World) (o : Obj) (n : Nat) [h : Has w n] : Has (w.alloc o) n := ⟨by rw [World.size_alloc]; exact Nat.lt_succ_of_lt h.lt⟩
instance (priority := 500) has_drew (w : World) (n : Nat) [h : Has w n] : Has w.drew n := ⟨h.lt⟩
instance (priority := 500) has_setCell (w : World) (a : Addr) (v : Value) (n : Nat) [h : Has w n] : Has (w.setCell a v) n := ⟨by rw [World.size_setCell]; exact h.lt⟩
section
variable (w : World) (n i : Nat) [hn : Has w n]
@[go_sem] theorem cell_alloc' (o : Obj) : (w.alloc o).cell? ⟨n, i, none⟩ = w.cell? ⟨n, i, none⟩ := World.cell?_alloc_past o n i hn.lt
@[go_sem] theorem frozen_alloc' (o : Obj) : (w.alloc o).frozen? ⟨n, i, none⟩ = w.frozen? ⟨n, i, none⟩ := World.frozen?_alloc_past o n i hn.lt
@[go_sem] theorem setCell_alloc' (o : Obj) (v : Value) : (w.alloc o).setCell ⟨n, i, none⟩ v = (w.setCell ⟨n, i, none⟩ v).alloc o := World.setCell_alloc_past o n i v hn.lt
end
theorem block_alloc' (w : World) (o : Obj) (n : Nat) [h : Has w n] : (w.alloc o).heap[n]? = w.heap[n]? := Below.heap_alloc w o n h.lt
theorem block_at (w : World) (o : Obj) (s : Nat) [h : HasSize w s] : (w.alloc o).heap[s]? = some o := by
  rw [← h.eq]
  unfold World.alloc
  simp
theorem block_drew (w : World) (n : Nat) : w.drew.heap[n]? = w.heap[n]? := rfl

/-- A block of cells. -/
def Bk (w : World) (g : Nat) (L : List Value) (T : Nat) : Prop := w.heap[g]? = some (.cells L.toArray T (0, 0))
theorem Bk.lt {w : World} {g T : Nat} {L : List Value} (h : Bk w g L T) : g < w.heap.size := lt_of_block h
theorem Bk.cell {w : World} {g T : Nat} {L : List Value} (h : Bk w g L T) {i : Nat} {x : Value} (hx : L[i]? = some x) : w.cell? ⟨g, i, none⟩ = some x := by
  rw [cell_of_block h]; simpa using hx
theorem Bk.free {w : World} {g T : Nat} {L : List Value} (h : Bk w g L T) (i : Nat) : w.frozen? ⟨g, i, none⟩ = false := free_of_block h i
theorem Bk.set {w : World} {g T : Nat} {L : List Value} (h : Bk w g L T) (i : Nat) (x : Value) : Bk (w.setCell ⟨g, i, none⟩ x) g (L.set i x) T := by
  have := set_of_block h i x
  rw [List.setIfInBounds_toArray] at this
  exact this
theorem Bk.keep {w w' : World} {g T B : Nat} {S : List Nat} {L : List Value} (h : Bk w g L T) (k : Keeps B S w w') (hB : w.heap.size ≤ B) (hS : g ∉ S) : Bk w' g L T := (k.block g (Nat.lt_of_lt_of_le h.lt hB) hS).trans h
theorem Bk.below {w w' : World} {g T : Nat} {L : List Value} (h : Bk w g L T) (b : Below w.heap.size w w') : Bk w' g L T := (b.block g h.lt).trans h
theorem below_low {B B' : Nat} {w w' : World} (h : Below B w w') (hB : B' ≤ B) : Below B' w w' := ((Keeps.of_below (S := []) h).mono hB (fun _ _ h => h)).below
theorem below_store {w wr : World} {g i : Nat} {v : Value} (b : Below w.heap.size w wr) (h : w.heap.size ≤ g) : Below w.heap.size w (wr.setCell ⟨g, i, none⟩ v) := ((Keeps.of_below (S := []) b).set (Or.inr h) i v).below

theorem below_keeps {B g : Nat} {w a b : World} (h : Below B w a) (k : Keeps a.heap.size [g] a b) (hg : B ≤ g) (hB : B ≤ a.heap.size) : Below B w b := by
  refine ((Keeps.of_below (S := []) h).trans (k.mono hB (fun i hi hm => ?_))).below
  rw [List.mem_singleton] at hm
  omega
/-! What lies where, found by instances. -/
/-- Only blocks are new. -/
class Kp0 (W : outParam World) (w' : World) : Prop where
  out : Below W.heap.size W w'
/-- .. and some blocks are written over. -/
class KpS (W : outParam World) (S : outParam (List Nat)) (w' : World) : Prop where
  out : Keeps W.heap.size S W w'
class NeN (a b : Nat) : Prop where
  out : a ≠ b
instance neN_lt (a b : Nat) [h : LtN a b] : NeN a b := ⟨Nat.ne_of_lt h.lt⟩
instance neN_gt (a b : Nat) [h : LtN b a] : NeN a b := ⟨Ne.symm (Nat.ne_of_lt h.lt)⟩
class NIn (a : Nat) (S : List Nat) : Prop where
  out : a ∉ S
instance nIn_nil (a : Nat) : NIn a [] := ⟨by simp⟩
instance nIn_cons (a b : Nat) (S : List Nat) [h : NeN a b] [k : NIn a S] : NIn a (b :: S) := ⟨by
  intro hm
  rcases List.mem_cons.1 hm with e | e
  · exact h.out e
  · exact k.out e⟩
instance (priority := 800) ltN_has (w : World) (b : Nat) [h : Has w b] : LtN b w.heap.size := ⟨h.lt⟩
instance has_kp0 (W w' : World) (n : Nat) [k : Kp0 W w'] [h : Has W n] : Has w' n := ⟨Nat.lt_of_lt_of_le h.lt k.out.size⟩
instance has_kpS (W w' : World) (S : List Nat) (n : Nat) [k : KpS W S w'] [h : Has W n] : Has w' n := ⟨Nat.lt_of_lt_of_le h.lt k.out.size⟩
def cq (w : World) (a : Addr) : Option Value := w.cell? a
def fq (w : World) (a : Addr) : Bool := w.frozen? a
@[go_sem] theorem cq_def (w : World) (a : Addr) : cq w a = w.cell? a := rfl
@[go_sem] theorem fq_def (w : World) (a : Addr) : fq w a = w.frozen? a := rfl
theorem frozen_of_heap {w w' : World} {n i : Nat} (h : w'.heap[n]? = w.heap[n]?) : w'.frozen? ⟨n, i, none⟩ = w.frozen? ⟨n, i, none⟩ := by simp only [World.frozen?, h]
section
variable (w' : World) {W : World} (n i : Nat)
@[go_sem] theorem cell_kp0 [k : Kp0 W w'] [h : Has W n] : w'.cell? ⟨n, i, none⟩ = cq W ⟨n, i, none⟩ := World.cell?_of_block (w := W) (k.out.block n h.lt)
@[go_sem] theorem cell_kpS {S : List Nat} [k : KpS W S w'] [h : Has W n] [e : NIn n S] : w'.cell? ⟨n, i, none⟩ = cq W ⟨n, i, none⟩ := World.cell?_of_block (w := W) (k.out.block n h.lt e.out)
@[go_sem] theorem frozen_kp0 [k : Kp0 W w'] [h : Has W n] : w'.frozen? ⟨n, i, none⟩ = fq W ⟨n, i, none⟩ := frozen_of_heap (k.out.block n h.lt)
@[go_sem] theorem frozen_kpS {S : List Nat} [k : KpS W S w'] [h : Has W n] [e : NIn n S] : w'.frozen? ⟨n, i, none⟩ = fq W ⟨n, i, none⟩ := frozen_of_heap (k.out.block n h.lt e.out)
end
class BkC (w : World) (g : Nat) (L : outParam (List Value)) (T : outParam Nat) : Prop where
  out : Bk w g L T
instance (priority := 1100) bkC_new (w : World) (s : Nat) (L : List Value) (T : Nat) [hs : HasSize w s] : BkC (w.alloc (.cells L.toArray T)) s L T := ⟨block_at w _ s⟩
instance bkC_alloc (w : World) (g : Nat) (L : List Value) (T : Nat) (o : Obj) [h : BkC w g L T] : BkC (w.alloc o) g L T := ⟨h.out.below ((Below.refl _ _).alloc (Nat.le_refl _) _)⟩
instance bkC_drew (w : World) (g : Nat) (L : List Value) (T : Nat) [h : BkC w g L T] : BkC w.drew g L T := ⟨h.out.below (Below.drew (Below.refl _ _))⟩
instance bkC_kp0 (W w' : World) (g : Nat) (L : List Value) (T : Nat) [k : Kp0 W w'] [h : BkC W g L T] : BkC w' g L T := ⟨h.out.below k.out⟩
instance bkC_kpS (W w' : World) (S : List Nat) (g : Nat) (L : List Value) (T : Nat) [k : KpS W S w'] [e : NIn g S] [h : BkC W g L T] : BkC w' g L T := ⟨h.out.keep k.out (Nat.le_refl _) e.out⟩
class SetC (L : List Value) (i : Nat) (x : Value) (M : outParam (List Value)) : Prop where
  out : L.set i x = M
instance setC_0 (a : Value) (L : List Value) (x : Value) : SetC (a :: L) 0 x (x :: L) := ⟨rfl⟩
instance setC_s (a : Value) (L M : List Value) (i : Nat) (x : Value) [h : SetC L i x M] : SetC (a :: L) (i + 1) x (a :: M) := ⟨by rw [List.set_cons_succ, h.out]⟩
instance bkC_set (w : World) (g i : Nat) (x : Value) (L M : List Value) (T : Nat) [h : BkC w g L T] [k : SetC L i x M] : BkC (w.setCell ⟨g, i, none⟩ x) g M T := ⟨k.out ▸ h.out.set i x⟩
instance bkC_setN (w : World) (g n i : Nat) (x : Value) (L : List Value) (T : Nat) [e : NeN g n] [h : BkC w g L T] : BkC (w.setCell ⟨n, i, none⟩ x) g L T := ⟨(block_ne _ _ _ _ _ e.out).trans h.out⟩
instance has_bk (w : World) (g : Nat) (L : List Value) (T : Nat) [h : BkC w g L T] : Has w g := ⟨h.out.lt⟩
/-- Made behind B. -/
class Up (B g : Nat) : Prop where
  out : B ≤ g
instance up_le (B g : Nat) [h : LeN B g] : Up B g := ⟨h.le⟩
instance (priority := 700) leN_size (v : World) (o : Obj) (s n : Nat) [h : HasSize (v.alloc o) s] [k : LeN s n] : LeN (v.alloc o).heap.size n := ⟨by rw [h.eq]; exact k.le⟩
/-- A world that has grown. -/
class Gr (v : World) (W : World) : Prop where
  out : Below v.heap.size v W
instance gr_refl (v : World) : Gr v v := ⟨Below.refl _ _⟩
instance gr_alloc (v W : World) (o : Obj) [h : Gr v W] : Gr v (W.alloc o) := ⟨h.out.alloc h.out.size _⟩
instance gr_drew (v W : World) [h : Gr v W] : Gr v W.drew := ⟨Below.drew h.out⟩
instance gr_kp0 (v W w' : World) [k : Kp0 W w'] [h : Gr v W] : Gr v w' := ⟨Below.trans h.out (below_low k.out h.out.size)⟩
instance gr_set (v W : World) (n i : Nat) (x : Value) [h : Gr v W] [u : Up v.heap.size n] : Gr v (W.setCell ⟨n, i, none⟩ x) := ⟨below_store h.out u.out⟩
instance leN_gr (v W : World) [h : Gr v W] : LeN v.heap.size W.heap.size := ⟨h.out.size⟩
/-- A world in which only the blocks S have turned of what was there. -/
class GS (v : World) (S : List Nat) (W : World) : Prop where
  out : Keeps v.heap.size S v W
instance gs_refl (v : World) (S : List Nat) : GS v S v := ⟨Keeps.refl _ _ _⟩
instance gs_alloc (v : World) (S : List Nat) (W : World) (o : Obj) [h : GS v S W] : GS v S (W.alloc o) := ⟨h.out.alloc h.out.size o⟩
instance gs_drew (v : World) (S : List Nat) (W : World) [h : GS v S W] : GS v S W.drew := ⟨h.out.drew⟩
instance gs_kp0 (v : World) (S : List Nat) (W w' : World) [k : Kp0 W w'] [h : GS v S W] : GS v S w' := ⟨h.out.trans ((Keeps.of_below k.out).mono h.out.size (fun _ _ h => h))⟩
/-- Each of these may be turned. -/
class SubS (B : Nat) (T S : List Nat) : Prop where
  out : ∀ k, k < B → k ∈ T → k ∈ S
instance subS_nil (B : Nat) (S : List Nat) : SubS B [] S := ⟨fun k _ h => by cases h⟩
class MemS (k : Nat) (S : List Nat) : Prop where
  out : k ∈ S
instance memS_here (k : Nat) (S : List Nat) : MemS k (k :: S) := ⟨List.mem_cons_self⟩
instance (priority := 900) memS_there (k j : Nat) (S : List Nat) [h : MemS k S] : MemS k (j :: S) := ⟨List.mem_cons_of_mem _ h.out⟩
instance subS_mem (B k : Nat) (T S : List Nat) [h : MemS k S] [r : SubS B T S] : SubS B (k :: T) S := ⟨fun j hj hm => by
  rcases List.mem_cons.1 hm with rfl | hm
  · exact h.out
  · exact r.out j hj hm⟩
instance (priority := 900) subS_up (B k : Nat) (T S : List Nat) [h : Up B k] [r : SubS B T S] : SubS B (k :: T) S := ⟨fun j hj hm => by
  rcases List.mem_cons.1 hm with rfl | hm
  · exact absurd hj (Nat.not_lt.2 h.out)
  · exact r.out j hj hm⟩
instance gs_kpS (v : World) (S T : List Nat) (W w' : World) [k : KpS W T w'] [h : GS v S W] [s : SubS v.heap.size T S] : GS v S w' := ⟨h.out.trans (k.out.mono h.out.size s.out)⟩
instance gr_kpS (v : World) (T : List Nat) (W w' : World) [k : KpS W T w'] [h : Gr v W] [s : SubS v.heap.size T []] : Gr v w' := ⟨((Keeps.of_below (S := []) h.out).trans (k.out.mono h.out.size s.out)).below⟩
instance (priority := 900) gs_set (v : World) (S : List Nat) (n i : Nat) (x : Value) (W : World) [h : GS v S W] [m : MemS n S] : GS v S (W.setCell ⟨n, i, none⟩ x) := ⟨h.out.set (Or.inl m.out) i x⟩
instance gs_setU (v : World) (S : List Nat) (n i : Nat) (x : Value) (W : World) [h : GS v S W] [u : Up v.heap.size n] : GS v S (W.setCell ⟨n, i, none⟩ x) := ⟨h.out.set (Or.inr u.out) i x⟩
/-- Made behind a world. -/
class UpW (w : outParam World) (j : Nat) : Prop where
  out : w.heap.size ≤ j
instance (priority := 900) ltN_upW (w : World) (b j : Nat) [u : UpW w j] [h : Has w b] : LtN b j := ⟨Nat.lt_of_lt_of_le h.lt u.out⟩
instance up_upW (v w : World) (j : Nat) [u : UpW w j] [g : Gr v w] : Up v.heap.size j := ⟨Nat.le_trans g.out.size u.out⟩
/-! Rows of things, each in one cell. -/
section
variable {α : Type} {P : Program}
structure EOk (T : Nat) (E : World → Value → α → Prop) : Prop where
  below : ∀ {w w' : World} {u : Value} {x : α}, E w u x → Below w.heap.size w w' → E w' u x
  keep : ∀ {w w' : World} {g : Nat} {C : Array Value} {u : Value} {x : α}, w.heap[g]? = some (.cells C T (0, 0)) → Keeps w.heap.size [g] w w' → E w u x → E w' u x
  one : ∀ {w : World} {u : Value} {x : α}, E w u x → u.oneCell' = true
theorem EOk.set {T : Nat} {E : World → Value → α → Prop} (e : EOk T E) {w : World} {g : Nat} {C : Array Value} {i : Nat} {v u : Value} {x : α} (h : w.heap[g]? = some (.cells C T (0, 0))) (k : E w u x) : E (w.setCell ⟨g, i, none⟩ v) u x :=
  e.keep h ((Keeps.refl _ _ _).set (Or.inl (List.mem_singleton.2 rfl)) i v) k
/-- A slice whose cells are such things. -/
def Rw (T : Nat) (E : World → Value → α → Prop) (w : World) (v : Value) (l : List α) : Prop :=
  ∃ a cap, v = .slice a l.length cap ∧ l.length ≤ cap ∧ (0 < l.length → ∃ g off C, a = some ⟨g, off, none⟩ ∧ w.heap[g]? = some (.cells C T (0, 0)) ∧ ∀ (i : Nat) (x : α), l[i]? = some x → ∃ u, C[off + i]? = some u ∧ E w u x)
variable {T : Nat} {E : World → Value → α → Prop}
theorem Rw.below (e : EOk T E) {w w' : World} {v : Value} {l : List α} (h : Rw T E w v l) (b : Below w.heap.size w w') : Rw T E w' v l := by
  obtain ⟨a, cap, h1, h2, h3⟩ := h
  refine ⟨a, cap, h1, h2, fun hl => ?_⟩
  obtain ⟨g, off, C, k1, k2, k3⟩ := h3 hl
  refine ⟨g, off, C, k1, (b.block g (lt_of_block k2)).trans k2, fun i x hx => ?_⟩
  obtain ⟨u, q1, q2⟩ := k3 i x hx
  exact ⟨u, q1, e.below q2 b⟩
theorem Rw.nil (w : World) : Rw T E w (.slice none 0 0) ([] : List α) := ⟨none, 0, rfl, Nat.le_refl _, fun h => by cases h⟩
theorem Rw.take {w : World} {a : Option Addr} {n cap : Nat} {l : List α} (h : Rw T E w (.slice a n cap) l) {k : Nat} (hk : k ≤ l.length) : Rw T E w (.slice a k cap) (l.take k) := by
  obtain ⟨a', cap', h1, h2, h3⟩ := h
  simp only [Value.slice.injEq] at h1
  obtain ⟨rfl, rfl, rfl⟩ := h1
  refine ⟨a, cap, by rw [List.length_take, Nat.min_eq_left hk], by rw [List.length_take]; omega, fun hl => ?_⟩
  obtain ⟨g, off, C, k1, k2, k3⟩ := h3 (by rw [List.length_take] at hl; omega)
  refine ⟨g, off, C, k1, k2, fun i x hx => ?_⟩
  rw [List.getElem?_take] at hx
  split at hx
  · exact k3 i x hx
  · cases hx
/-- What lies at number i. -/
theorem Rw.at {w : World} {a : Option Addr} {n cap : Nat} {l : List α} (h : Rw T E w (.slice a n cap) l) {i : Nat} {x : α} (hx : l[i]? = some x) : ∃ g off u, a = some ⟨g, off, none⟩ ∧ g < w.heap.size ∧ w.cell? ⟨g, off + i, none⟩ = some u ∧ E w u x := by
  obtain ⟨a', cap', h1, h2, h3⟩ := h
  simp only [Value.slice.injEq] at h1
  obtain ⟨rfl, rfl, rfl⟩ := h1
  obtain ⟨hi, -⟩ := List.getElem?_eq_some_iff.1 hx
  obtain ⟨g, off, C, k1, k2, k3⟩ := h3 (by omega)
  obtain ⟨u, q1, q2⟩ := k3 i x hx
  exact ⟨g, off, u, k1, lt_of_block k2, by rw [cell_of_block k2]; exact q1, q2⟩
theorem Rw.form {w : World} {v : Value} {l : List α} (h : Rw T E w v l) : ∃ a cap, v = .slice a l.length cap ∧ l.length ≤ cap := by
  obtain ⟨a, cap, h1, h2, -⟩ := h
  exact ⟨a, cap, h1, h2⟩
/-- A block of n cells, the first j filled. -/
def Fl (T : Nat) (E : World → Value → α → Prop) (w : World) (g n : Nat) (l : List α) (j : Nat) : Prop :=
  ∃ C : Array Value, w.heap[g]? = some (.cells C T (0, 0)) ∧ C.size = n ∧ ∀ (i : Nat) (x : α), i < j → l[i]? = some x → ∃ u, C[i]? = some u ∧ E w u x
theorem Fl.below (e : EOk T E) {w w' : World} {g n j : Nat} {l : List α} (h : Fl T E w g n l j) (b : Below w.heap.size w w') : Fl T E w' g n l j := by
  obtain ⟨C, h1, h2, h3⟩ := h
  refine ⟨C, (b.block g (lt_of_block h1)).trans h1, h2, fun i x hi hx => ?_⟩
  obtain ⟨u, q1, q2⟩ := h3 i x hi hx
  exact ⟨u, q1, e.below q2 b⟩
theorem Fl.lt {w : World} {g n j : Nat} {l : List α} (h : Fl T E w g n l j) : g < w.heap.size := by
  obtain ⟨C, h1, -⟩ := h
  exact lt_of_block h1
/-- There is a cell, and it may be written. -/
theorem Fl.slot {w : World} {g n j i : Nat} {l : List α} (h : Fl T E w g n l j) (hi : i < n) : (∃ u, w.cell? ⟨g, i, none⟩ = some u) ∧ w.frozen? ⟨g, i, none⟩ = false := by
  obtain ⟨C, h1, h2, -⟩ := h
  refine ⟨⟨C[i], ?_⟩, free_of_block h1 i⟩
  rw [cell_of_block h1]
  exact Array.getElem?_eq_getElem (by omega)
theorem Fl.put (e : EOk T E) {w : World} {g n j : Nat} {l : List α} {u : Value} {x : α} (h : Fl T E w g n l j) (hj : j < n) (hx : l[j]? = some x) (hu : E w u x) : Fl T E (w.setCell ⟨g, j, none⟩ u) g n l (j + 1) := by
  obtain ⟨C, h1, h2, h3⟩ := h
  refine ⟨C.setIfInBounds j u, set_of_block h1 j u, by rw [Array.size_setIfInBounds]; exact h2, fun i y hi hy => ?_⟩
  rw [Array.getElem?_setIfInBounds]
  by_cases hij : j = i
  · subst hij
    rw [if_pos rfl, if_pos (by omega)]
    rw [hx] at hy
    obtain rfl := Option.some.inj hy
    exact ⟨u, rfl, e.set h1 hu⟩
  · rw [if_neg hij]
    obtain ⟨v, q1, q2⟩ := h3 i y (by omega) hy
    exact ⟨v, q1, e.set h1 q2⟩
theorem Fl.done {w : World} {g n j : Nat} {l : List α} (h : Fl T E w g n l j) (hj : l.length ≤ j) (hn : n = l.length) : Rw T E w (.slice (some ⟨g, 0, none⟩) n n) l := by
  obtain ⟨C, h1, h2, h3⟩ := h
  subst hn
  refine ⟨_, _, rfl, Nat.le_refl _, fun _ => ⟨g, 0, C, rfl, h1, fun i x hx => ?_⟩⟩
  obtain ⟨hi, -⟩ := List.getElem?_eq_some_iff.1 hx
  rw [Nat.zero_add]
  exact h3 i x (by omega) hx
/-- A row of the call's own. -/
def Ox (T : Nat) (E : World → Value → α → Prop) (base : Nat) (w : World) (v : Value) (l : List α) : Prop := ∃ xs : List Value, w.ownsRow base T 1 v l.length xs ∧ ∀ (i : Nat) (x : α), l[i]? = some x → ∃ u, xs[i]? = some u ∧ E w u x
theorem Ox.nil (base : Nat) (w : World) : Ox T E base w (.slice none 0 0) ([] : List α) := ⟨[], ⟨rfl, .inl ⟨rfl, rfl⟩⟩, fun i x h => by cases h⟩
theorem Ox.rw {base : Nat} {w : World} {v : Value} {l : List α} (h : Ox T E base w v l) : Rw T E w v l := by
  obtain ⟨xs, ⟨h1, h2⟩, h3⟩ := h
  rcases h2 with ⟨rfl, hl⟩ | ⟨g, cap, cur, rfl, hb, hg, hc, hm, hs, ht⟩
  · rw [List.length_eq_zero_iff.1 hl]
    exact Rw.nil w
  · refine ⟨_, _, rfl, hc, fun _ => ⟨g, 0, cur, rfl, hg, fun i x hx => ?_⟩⟩
    obtain ⟨u, q1, q2⟩ := h3 i x hx
    refine ⟨u, ?_, q2⟩
    rw [← ht, List.getElem?_take] at q1
    split at q1
    · rw [Nat.zero_add, ← Array.getElem?_toList]; exact q1
    · cases q1
theorem Ox.below (e : EOk T E) {base : Nat} {w w' : World} {v : Value} {l : List α} (h : Ox T E base w v l) (b : Below w.heap.size w w') : Ox T E base w' v l := by
  obtain ⟨xs, ⟨h1, h2⟩, h3⟩ := h
  refine ⟨xs, ⟨h1, ?_⟩, fun i x hx => ?_⟩
  · rcases h2 with h | ⟨g, cap, cur, rfl, hb, hg, hc, hm, hs, ht⟩
    · exact .inl h
    · exact .inr ⟨g, cap, cur, rfl, hb, (b.block g (lt_of_block hg)).trans hg, hc, hm, hs, ht⟩
  · obtain ⟨u, q1, q2⟩ := h3 i x hx
    exact ⟨u, q1, e.below q2 b⟩
/-- The cells of a slice. -/
theorem Rw.news {w : World} {a : Option Addr} {m c : Nat} {l : List α} (h : Rw T E w (.slice a m c) l) (hl : 0 < l.length) : ∃ g off, a = some ⟨g, off, none⟩ ∧ ∃ news : List Value, news.length = m ∧ (∀ (j : Nat) (u : Value), news[j]? = some u → w.cell? ((⟨g, off, none⟩ : Addr).add j) = some u) ∧ ∀ (j : Nat) (x : α), l[j]? = some x → ∃ u, news[j]? = some u ∧ E w u x := by
  obtain ⟨a', cap', h1, h2, h3⟩ := h
  simp only [Value.slice.injEq] at h1
  obtain ⟨rfl, rfl, rfl⟩ := h1
  obtain ⟨g, off, C, k1, k2, k3⟩ := h3 hl
  have hsz : off + l.length ≤ C.size := by
    have hx := List.getElem?_eq_getElem (show l.length - 1 < l.length by omega)
    obtain ⟨u, q1, -⟩ := k3 _ _ hx
    obtain ⟨hlt, -⟩ := Array.getElem?_eq_some_iff.1 q1
    omega
  refine ⟨g, off, k1, (C.toList.drop off).take l.length, ?_, fun j u hu => ?_, fun j x hx => ?_⟩
  · have := Array.length_toList (xs := C)
    rw [List.length_take, List.length_drop]; omega
  · rw [List.getElem?_take] at hu
    split at hu
    · rw [List.getElem?_drop, Array.getElem?_toList] at hu
      have e : (⟨g, off, none⟩ : Addr).add j = ⟨g, off + j, none⟩ := by simp [Addr.add]
      rw [e, cell_of_block k2]
      exact hu
    · cases hu
  · obtain ⟨u, q1, q2⟩ := k3 j x hx
    obtain ⟨hj, -⟩ := List.getElem?_eq_some_iff.1 hx
    refine ⟨u, ?_, q2⟩
    rw [List.getElem?_take, if_pos hj, List.getElem?_drop, Array.getElem?_toList]
    exact q1
/-- A slice of at least one is appended to a row of the call's own. -/
theorem app_row (e : EOk T E) {ops : Array Oper} {rest : List Oper} {o : Oper} {a : Act} {w : World} {Q : Exit → Act → World → Prop} (hgd : o.guard = none) (s x : Operand) (t : TypeId)
    (ho : o.op = .call { callee := .builtin .append, args := #[s, x], argTypes := #[t, t] }) (base : Nat) (i : TypeInfo) (z : Value) (bytes : Nat) (ht : P.underlying t = some (.slice T)) (hi : P.info? T = some i) (hz : i.zero = some z)
    (hsize : i.size = 1) (hby : i.bytes = bytes) (hzs : z.cells.size = 1) (hb64 : bytes ≤ 64) {v : Value} {l m : List α} (hs : a.eval s = v) (hown : Ox T E base w v l)
    {ad : Option Addr} {k c : Nat} (hx : a.eval x = .slice ad k c) (hm : Rw T E w (.slice ad k c) m) (h0 : 0 < m.length) (hlen : l.length + m.length ≤ 1048576) (hbase : base ≤ w.heap.size)
    (h : ∀ g cap n' w', n' = l.length + m.length → Ox T E base w' (.slice (some ⟨g, 0, none⟩) n' cap) (l ++ m) → base ≤ g → (∀ v0 : World, v0.heap.size ≤ base → Below v0.heap.size v0 w → Below v0.heap.size v0 w') → (∀ u y, E w u y → E w' u y) → wpList P ops Q rest (a.put o.dst (.slice (some ⟨g, 0, none⟩) n' cap)) w') :
    wpList P ops Q (o :: rest) a w := by
  obtain ⟨g0, off0, rfl, news, hl, hc, hE⟩ := hm.news h0
  obtain ⟨cap0, hk, -⟩ : ∃ cap0, k = m.length ∧ cap0 = c := by
    obtain ⟨a', cap', h1, -, -⟩ := hm
    simp only [Value.slice.injEq] at h1
    exact ⟨c, h1.2.1, rfl⟩
  subst hk
  obtain ⟨xs, hown2, hEx⟩ := hown
  have h1c : ∀ u ∈ news, u.oneCell' = true := by
    intro u hu
    obtain ⟨j, hj⟩ := List.getElem?_of_mem hu
    obtain ⟨hjl, -⟩ := List.getElem?_eq_some_iff.1 hj
    obtain ⟨u', q1, q2⟩ := hE j m[j] (List.getElem?_eq_getElem (by omega))
    rw [hj] at q1
    rw [Option.some.inj q1]
    exact e.one q2
  have hby2 : (l.length + m.length) * bytes ≤ 140737488355328 := by
    have : (l.length + m.length) * bytes ≤ 1048576 * 64 := Nat.mul_le_mul hlen hb64
    omega
  refine wpList_append_lies w hgd s x t ho base T i z 1 bytes ht hi hz hsize hby hzs (by decide) v l.length xs hs hown2 ⟨g0, off0, none⟩ m.length c news hx (by omega) hc h1c h0 (by unfold maxLen; omega) hby2 hbase _ rfl (fun g cap w' r1 r2 r3 r4 => ?_)
  have hxl : xs.length = l.length := by rw [hown2.1, Nat.mul_one]
  have kE : ∀ u y, E w u y → E w' u y := by
    intro u y hu
    rcases hown2.2 with ⟨rfl, -⟩ | ⟨g1, cap1, cur1, rfl, hb1, hg1, -⟩
    · exact e.below hu (Keeps.below ⟨r2.os, r2.tape, r2.output, r2.size, fun q hq _ => r2.block q hq (by simp [Value.ownBlock])⟩)
    · exact e.keep hg1 ⟨r2.os, r2.tape, r2.output, r2.size, fun q hq hn => r2.block q hq (by simpa [Value.ownBlock] using hn)⟩ hu
  have hgb : base ≤ g := by
    rcases r1.2 with ⟨hh, -⟩ | ⟨g2, cap2, cur2, hh, hb2, -⟩
    · cases hh
    · simp only [Value.slice.injEq, Option.some.injEq, Addr.mk.injEq] at hh
      omega
  refine h g cap _ w' rfl ⟨xs ++ news, ?_, fun j y hy => ?_⟩ hgb (fun v0 hv hb => ?_) kE
  · rw [List.length_append]; exact r1
  · rcases Nat.lt_or_ge j l.length with hj | hj
    · rw [List.getElem?_append_left hj] at hy
      obtain ⟨u, q1, q2⟩ := hEx j y hy
      exact ⟨u, by rw [List.getElem?_append_left (by omega)]; exact q1, kE _ _ q2⟩
    · rw [List.getElem?_append_right hj] at hy
      obtain ⟨u, q1, q2⟩ := hE _ y hy
      exact ⟨u, by rw [List.getElem?_append_right (by omega), hxl]; exact q1, kE _ _ q2⟩
  · refine ⟨r2.os.trans hb.os, r2.tape.trans hb.tape, r2.output.trans hb.output, Nat.le_trans hb.size r2.size, fun q hq => ?_⟩
    refine (r2.block q (Nat.lt_of_lt_of_le hq hb.size) (fun hh => ?_)).trans (hb.block q hq)
    rcases hown2.2 with ⟨rfl, -⟩ | ⟨g1, cap1, cur1, rfl, hb1, -⟩
    · cases hh
    · simp only [Value.ownBlock, Option.some.injEq] at hh
      omega
end
theorem eok_rw {α : Type} {S T : Nat} {E : World → Value → α → Prop} (e : EOk S E) (hST : S ≠ T) (hE : ∀ {w w' : World} {g : Nat} {C : Array Value} {u : Value} {x : α}, w.heap[g]? = some (.cells C T (0, 0)) → Keeps w.heap.size [g] w w' → E w u x → E w' u x) : EOk T (Rw S E) where
  below := fun h b => h.below e b
  keep := by
    rintro w w' g C u x hg kp ⟨a, cap, h1, h2, h3⟩
    refine ⟨a, cap, h1, h2, fun hl => ?_⟩
    obtain ⟨k, off, D, k1, k2, k3⟩ := h3 hl
    have hkg : k ≠ g := by
      intro he
      subst he
      rw [k2] at hg
      simp only [Option.some.injEq, Obj.cells.injEq] at hg
      exact hST hg.2.1
    refine ⟨k, off, D, k1, (kp.block k (lt_of_block k2) (by simpa using hkg)).trans k2, fun j y hy => ?_⟩
    obtain ⟨z, q1, q2⟩ := k3 j y hy
    exact ⟨z, q1, hE hg kp q2⟩
  one := by
    rintro w u x ⟨a, cap, rfl, -, -⟩
    rfl
/-! A function's end. -/
section
variable {P : Program} {fn : Func} {R : Ending → World → Prop} {a : Act} {w : World} {p u : Tmp} {ty : TypeId} {g : Nat} {L : List Value} {T : Nat} {d : TypeDesc}
theorem ret_cell (h : fn.results = #[.cell p ty]) (hd0 : a.defers = []) (hp : a.tmps.getD p undef = .pointer (some ⟨g, 0, none⟩)) [hb : BkC w g L T] (hu : P.underlying ty = some d) (hd : (match d with | .struct _ | .array _ _ => true | _ => false) = true) (hi : (P.info? ty).map (·.size) = some L.toArray.size)
    (hR : R (.returned (.agg L.toArray)) w) : bodyPost P fn R .ret a w :=
  bodyPost_ret (results_cell_row h _ _ g T L.toArray (0, 0) d hp hb.out hu hd hi) hd0 hR
theorem ret_cell_tmp (h : fn.results = #[.cell p ty, .tmp u]) (hd0 : a.defers = []) (hp : a.tmps.getD p undef = .pointer (some ⟨g, 0, none⟩)) [hb : BkC w g L T] (hu : P.underlying ty = some d) (hd : (match d with | .struct _ | .array _ _ => true | _ => false) = true) (hi : (P.info? ty).map (·.size) = some L.toArray.size)
    (hR : R (.returned (.tuple #[.agg L.toArray, a.tmps.getD u undef])) w) : bodyPost P fn R .ret a w := by
  refine bodyPost_ret (v := .tuple #[.agg L.toArray, a.tmps.getD u undef]) ?_ hd0 hR
  rw [results_cell_tmp h, hp]
  simp [asAddr, Result.andThen, run_loadVar_row w g T ty L.toArray (0, 0) d hb.out hu hd hi]
end
end
section
open Go.RowKit
section
variable (P : Program) (w : World) (a : Addr) (m : Mode)
@[go_sem] theorem run_store_float (k : FloatKind) (b : Nat) : (store a (.float k b) m).run P w = stored P w a (.float k b) m := run_store P w a _ m rfl
@[go_sem] theorem run_store_complex (k : FloatKind) (b c : Nat) : (store a (.complex k b c) m).run P w = stored P w a (.complex k b c) m := run_store P w a _ m rfl
end
theorem bind_some {α β : Type} {x : Option α} {f : α → Option β} {r : β} (h : x.bind f = some r) : ∃ a, x = some a ∧ f a = some r := by
  cases x with
  | none => cases h
  | some a => exact ⟨a, rfl, h⟩
abbrev fadd (a b : Nat) : Option Nat := floatBits .add .f64 a b
abbrev fsub (a b : Nat) : Option Nat := floatBits .sub .f64 a b
abbrev fmul (a b : Nat) : Option Nat := floatBits .mul .f64 a b
abbrev fdiv (a b : Nat) : Option Nat := floatBits .quo .f64 a b
abbrev fsqrt (a : Nat) : Option Nat := FloatKind.f64.format.sqrt a
def feq (a b : Nat) : Bool := FloatKind.f64.format.order a b == some .eq
def fgt (a b : Nat) : Bool := FloatKind.f64.format.order a b == some .gt
def flt (a b : Nat) : Bool := FloatKind.f64.format.order a b == some .lt
def fle (a b : Nat) : Bool := FloatKind.f64.format.order a b == some .lt || FloatKind.f64.format.order a b == some .eq
def fge (a b : Nat) : Bool := FloatKind.f64.format.order a b == some .gt || FloatKind.f64.format.order a b == some .eq
def fabs (a : Nat) : Nat := (bits .andNot .u64 (a : Int) 9223372036854775808).toNat
def fcopy (a b : Nat) : Nat := (bits .or .u64 (bits .andNot .u64 (a : Int) 9223372036854775808) (bits .and .u64 (b : Int) 9223372036854775808)).toNat
theorem f64bits_run (a : Nat) (w : World) : (callFunc 85 #[.float .f64 a]).run Tryz.prog w = .ok (.value (.int .u64 a)) w := by kernel_rfl
theorem f64from_run (a : Int) (w : World) : (callFunc 88 #[.int .u64 a]).run Tryz.prog w = .ok (.value (.float .f64 a.toNat)) w := by kernel_rfl
theorem run_neg (a : Nat) (w : World) : (Op.unary .neg (.float .f64 a)).run Tryz.prog w = .ok (.float .f64 (Op.negFloat .f64 a)) w := rfl
theorem run_not (x : Bool) (w : World) : (Op.unary .not (.bool x)).run Tryz.prog w = .ok (.bool (!x)) w := rfl
theorem run_fadd {a b r : Nat} (h : fadd a b = some r) (t : TypeId) (w : World) : (binOp .add t (.float .f64 a) (.float .f64 b)).run Tryz.prog w = .ok (.float .f64 r) w := run_float_arith (P := Tryz.prog) w .add t .f64 a b r h
theorem run_fsub {a b r : Nat} (h : fsub a b = some r) (t : TypeId) (w : World) : (binOp .sub t (.float .f64 a) (.float .f64 b)).run Tryz.prog w = .ok (.float .f64 r) w := run_float_arith (P := Tryz.prog) w .sub t .f64 a b r h
theorem run_fmul {a b r : Nat} (h : fmul a b = some r) (t : TypeId) (w : World) : (binOp .mul t (.float .f64 a) (.float .f64 b)).run Tryz.prog w = .ok (.float .f64 r) w := run_float_arith (P := Tryz.prog) w .mul t .f64 a b r h
theorem run_fdiv {a b r : Nat} (h : fdiv a b = some r) (t : TypeId) (w : World) : (binOp .quo t (.float .f64 a) (.float .f64 b)).run Tryz.prog w = .ok (.float .f64 r) w := run_float_arith (P := Tryz.prog) w .quo t .f64 a b r h
set_option maxHeartbeats 4000000 in
theorem abs_any (a : Nat) (w : World) : Calls Tryz.prog 55 #[.float .f64 a] w fun e w' => e = .returned (.float .f64 (fabs a)) ∧ w = w' := by
  have h1 := f64bits_run
  have h2 := f64from_run
  go_enter Tryz.func55, Tryz.ntmps55
  go_wp2_with (fail)
  go_ret
  exact ⟨rfl, rfl⟩
set_option maxHeartbeats 4000000 in
theorem copysign_any (a b : Nat) (w : World) : Calls Tryz.prog 58 #[.float .f64 a, .float .f64 b] w fun e w' => e = .returned (.float .f64 (fcopy a b)) ∧ w = w' := by
  have h1 := f64bits_run
  have h2 := f64from_run
  go_enter Tryz.func58, Tryz.ntmps58
  go_wp2_with (fail)
  go_ret
  exact ⟨rfl, rfl⟩
set_option maxHeartbeats 4000000 in
theorem isinf_any (a : Nat) (w : World) : Calls Tryz.prog 62 #[.float .f64 a, .int .i64 1] w fun e w' => e = .returned (.bool (fgt a 9218868437227405311)) ∧ w = w' := by
  go_enter Tryz.func62, Tryz.ntmps62
  go_wp2_with (fail)
  go_ret
  exact ⟨rfl, rfl⟩
set_option maxHeartbeats 4000000 in
theorem isinfm_any (a : Nat) (w : World) : Calls Tryz.prog 62 #[.float .f64 a, .int .i64 (-1)] w fun e w' => e = .returned (.bool (fgt (Op.negFloat .f64 a) 9218868437227405311)) ∧ w = w' := by
  have h4 := run_neg
  go_enter Tryz.func62, Tryz.ntmps62
  go_wp2_with (fail)
  go_ret
  exact ⟨rfl, rfl⟩
set_option maxHeartbeats 4000000 in
theorem isinf0_any (a : Nat) (w : World) : Calls Tryz.prog 62 #[.float .f64 a, .int .i64 0] w fun e w' => e = .returned (.bool (fgt (fabs a) 9218868437227405311)) ∧ w = w' := by
  go_enter Tryz.func62, Tryz.ntmps62
  go_wp2_with ((go_at_call 55; (with_reducible refine Calls.mono (abs_any _ _) ?_); rintro e wc ⟨rfl, rfl⟩))
  go_ret
  exact ⟨rfl, rfl⟩
set_option maxHeartbeats 4000000 in
theorem inf_any  (w : World) : Calls Tryz.prog 63 #[.int .i64 1] w fun e w' => e = .returned (.float .f64 9218868437227405312) ∧ w = w' := by
  have h2 := f64from_run
  go_enter Tryz.func63, Tryz.ntmps63
  go_wp2_with (fail)
  go_ret
  exact ⟨rfl, rfl⟩
set_option maxHeartbeats 4000000 in
theorem isnan_any (a : Nat) (w : World) : Calls Tryz.prog 64 #[.float .f64 a] w fun e w' => e = .returned (.bool (!feq a a)) ∧ w = w' := by
  go_enter Tryz.func64, Tryz.ntmps64
  go_wp2_with (fail)
  go_ret
  exact ⟨rfl, rfl⟩
set_option maxHeartbeats 4000000 in
theorem within_any (a m : Nat) (w : World) : Calls Tryz.prog 93 #[.float .f64 a, .float .f64 m] w fun e w' => e = .returned (.bool (fle (fabs a) m)) ∧ w = w' := by
  go_enter Tryz.func93, Tryz.ntmps93
  go_wp2_with ((go_at_call 55; (with_reducible refine Calls.mono (abs_any _ _) ?_); rintro e wc ⟨rfl, rfl⟩))
  go_ret
  exact ⟨rfl, rfl⟩
set_option maxHeartbeats 4000000 in
theorem finite_any (a : Nat) (w : World) : Calls Tryz.prog 59 #[.float .f64 a] w fun e w' => e = .returned (.bool (fle (fabs a) 9218868437227405311)) ∧ w = w' := by
  go_enter Tryz.func59, Tryz.ntmps59
  go_wp2_with ((go_at_call 55; (with_reducible refine Calls.mono (abs_any _ _) ?_); rintro e wc ⟨rfl, rfl⟩))
  go_ret
  exact ⟨rfl, rfl⟩
end
section
open Go.RowKit
abbrev Q := _root_.Rat
theorem D_sw : Ieee.double.signWeight = 9223372036854775808 := by decide
theorem D_bin : Ieee.double.binade = 4503599627370496 := by decide
theorem D_inf : Ieee.double.infRung = 9218868437227405312 := by decide
theorem D_least : Ieee.double.leastPlace = -1074 := by decide
theorem D_fb : Ieee.double.fractionBits = 52 := rfl
def sgr (s : Bool) : Q := if s then -1 else 1
/-- A number with its sign and its place. -/
def nv (s : Bool) (m : Nat) (p : Int) : Q := sgr s * (m : Q) * (2 : Q) ^ p
/-- What a float's bits are worth. -/
def Fv (b : Nat) (x : Q) : Prop := b < 18446744073709551616 ∧ ∃ s m p, Ieee.double.read b = .number s m p ∧ x = nv s m p
/-- .. where it is nought or not less than the least normal number. -/
def Nn (b : Nat) : Prop := b % 9223372036854775808 = 0 ∨ (4503599627370496 ≤ b % 9223372036854775808 ∧ b % 9223372036854775808 < 9218868437227405312)
theorem read_word (s : Bool) (r : Nat) (h1 : 4503599627370496 ≤ r) (h2 : r < 9218868437227405312) : Ieee.double.word s r < 18446744073709551616 ∧ Ieee.double.word s r % 9223372036854775808 = r ∧
    Ieee.double.read (Ieee.double.word s r) = .number s (4503599627370496 + r % 4503599627370496) (-1074 + ((r / 4503599627370496 - 1 : Nat) : Int)) := by
  unfold Ieee.Format.read Ieee.Format.word
  simp only [D_sw, D_bin, D_inf, D_least]
  cases s
  · simp only [Bool.false_eq_true, if_false]
    refine ⟨by omega, by omega, ?_⟩
    rw [Nat.mod_eq_of_lt (by omega), if_neg (by omega), if_pos h2, Nat.div_eq_of_lt (by omega)]
    rfl
  · simp only [if_true]
    refine ⟨by omega, by omega, ?_⟩
    rw [show (9223372036854775808 + r) % 9223372036854775808 = r by omega, if_neg (by omega), if_pos h2, show (9223372036854775808 + r) / 9223372036854775808 = 1 by omega]
    rfl
theorem two_ne0 : (2 : Q) ≠ 0 := by decide
theorem two_pos (p : Int) : (0 : Q) < (2 : Q) ^ p := Rat.zpow_pos (by decide)
theorem zp_add (a b : Int) : (2 : Q) ^ (a + b) = (2 : Q) ^ a * (2 : Q) ^ b := Rat.zpow_add two_ne0 a b
theorem zp_nat (n : Nat) : (2 : Q) ^ ((n : Nat) : Int) = (((2 ^ n : Nat) : Nat) : Q) := by
  rw [Rat.zpow_natCast, Rat.natCast_pow]
  rfl
theorem nv_shift (s : Bool) (m c : Nat) (p : Int) : nv s (m * 2 ^ c) p = nv s m (p + (c : Int)) := by
  unfold nv
  rw [zp_add, zp_nat, Rat.natCast_mul]
  grind
theorem cut_0 (neg : Bool) (n : Nat) : Ieee.Toward.even.cut neg n 0 = n := by
  unfold Ieee.Toward.cut
  simp [Nat.mod_one]
/-- Where a number falls when it is written: E for m. -/
theorem nearest_val (s : Bool) (m : Nat) (p : Int) (hm : 0 < m) (h1 : -1022 ≤ p + (m.log2 : Int)) (h2 : p + (m.log2 : Int) ≤ 1022) :
    ∃ E : Nat, Fv (Ieee.double.nearest s m p) (nv s E p) ∧ Nn (Ieee.double.nearest s m p) ∧ 9007199254740992 * E ≤ 9007199254740992 * m + m ∧ 9007199254740992 * m ≤ 9007199254740992 * E + m ∧
      (∀ k c, m = k * 2 ^ c → k < 9007199254740992 → E = m) := by
  have hlo : 2 ^ m.log2 ≤ m := Nat.log2_self_le (by omega)
  have hhi : m < 2 ^ (m.log2 + 1) := Nat.lt_log2_self
  obtain ⟨l, hl⟩ : ∃ l, l = m.log2 := ⟨_, rfl⟩
  have p52 : (2 : Nat) ^ 52 = 4503599627370496 := rfl
  unfold Ieee.Format.nearest
  rw [if_neg (by omega)]
  simp only [D_fb, D_least, D_inf, D_bin]
  rw [← hl] at h1 h2 hlo hhi ⊢
  obtain ⟨L, hL⟩ : ∃ L : Int, L = p + l - 52 := ⟨_, rfl⟩
  have hmax : max (p + (l : Int) - ((52 : Nat) : Int)) (-1074) = L := by omega
  rw [hmax]
  have key : ∃ K c : Nat, Ieee.Toward.even.cut s (m <<< (p - L).toNat) (L - p).toNat = K ∧ 4503599627370496 ≤ K ∧ K ≤ 9007199254740992 ∧
      ((L + (c : Int) = p ∧ K = m * 2 ^ c) ∨ (p + (c : Int) = L ∧ 9007199254740992 * (K * 2 ^ c) ≤ 9007199254740992 * m + m ∧ 9007199254740992 * m ≤ 9007199254740992 * (K * 2 ^ c) + m ∧ (∀ k d, m = k * 2 ^ d → k < 9007199254740992 → K * 2 ^ c = m))) := by
    rcases Int.le_total L p with h | h
    · refine ⟨m * 2 ^ (p - L).toNat, (p - L).toNat, ?_, ?_, ?_, .inl ⟨by omega, rfl⟩⟩
      · rw [show (L - p).toNat = 0 by omega, cut_0, Nat.shiftLeft_eq]
      · have e : (2 : Nat) ^ l * 2 ^ (p - L).toNat = 2 ^ 52 := by rw [← Nat.pow_add]; congr 1; omega
        have := Nat.mul_le_mul_right (2 ^ (p - L).toNat) hlo
        omega
      · have e : (2 : Nat) ^ (l + 1) * 2 ^ (p - L).toNat = 2 ^ 53 := by rw [← Nat.pow_add]; congr 1; omega
        have := Nat.mul_le_mul_right (2 ^ (p - L).toNat) (Nat.le_of_lt hhi)
        have p53 : (2 : Nat) ^ 53 = 9007199254740992 := rfl
        omega
    · obtain ⟨c, hc⟩ : ∃ c, c = (L - p).toNat := ⟨_, rfl⟩
      have hlc : l = 52 + c := by omega
      rw [← hc, show (p - L).toNat = 0 by omega, Nat.shiftLeft_zero]
      obtain ⟨G, hG⟩ : ∃ G, G = 2 ^ c := ⟨_, rfl⟩
      have hGp : 0 < G := by rw [hG]; exact Nat.pow_pos (by decide)
      have b1 : 4503599627370496 * G ≤ m := by
        rw [hlc, Nat.pow_add, p52, ← hG] at hlo
        exact hlo
      have b2 : m < 9007199254740992 * G := by
        rw [hlc, show 52 + c + 1 = 53 + c by omega, Nat.pow_add, ← hG] at hhi
        exact hhi
      have hcut : Ieee.Toward.even.cut s m c = m / G + (decide (G < 2 * (m % G)) || (G == 2 * (m % G) && m / G % 2 == 1)).toNat := by
        unfold Ieee.Toward.cut
        simp only
        rw [show min c (m.log2 + 2) = c by omega, Nat.shiftLeft_eq, Nat.one_mul, ← hG]
      have hdm := Nat.div_add_mod m G
      have hml := Nat.mod_lt m hGp
      have hq1 : 4503599627370496 ≤ m / G := (Nat.le_div_iff_mul_le hGp).2 b1
      have hq2 : m / G < 9007199254740992 := (Nat.div_lt_iff_lt_mul hGp).2 b2
      obtain ⟨q, hq⟩ : ∃ q, q = m / G := ⟨_, rfl⟩
      obtain ⟨r, hr⟩ : ∃ r, r = m % G := ⟨_, rfl⟩
      rw [← hq, ← hr] at hcut hdm
      rw [← hq] at hq1 hq2
      rw [← hr] at hml
      obtain ⟨t, ht⟩ : ∃ t, t = q * G := ⟨_, rfl⟩
      rw [Nat.mul_comm G q, ← ht] at hdm
      refine ⟨Ieee.Toward.even.cut s m c, c, rfl, ?_, ?_, .inr ⟨by omega, ?_⟩⟩
      · rw [hcut]; omega
      · rw [hcut]
        cases (decide (G < 2 * r) || (G == 2 * r && q % 2 == 1)) <;> simp <;> omega
      · rw [hcut, ← hG]
        obtain ⟨v, hv⟩ : ∃ v, v = (decide (G < 2 * r) || (G == 2 * r && q % 2 == 1)) := ⟨_, rfl⟩
        rw [← hv]
        have ex : ∀ k d, m = k * 2 ^ d → k < 9007199254740992 → r = 0 := by
          intro k d hk hk2
          have hcd : c ≤ d := by
            rcases Nat.lt_or_ge d c with hd | hd
            · exfalso
              have : k * 2 ^ d < 9007199254740992 * 2 ^ d := Nat.mul_lt_mul_of_pos_right hk2 (Nat.pow_pos (by decide))
              have e2 : (9007199254740992 : Nat) * 2 ^ d ≤ 4503599627370496 * 2 ^ c := by
                obtain ⟨f, hf⟩ : ∃ f, c = d + 1 + f := ⟨c - (d + 1), by omega⟩
                rw [hf, Nat.pow_add, Nat.pow_add]
                have : 1 ≤ 2 ^ f := Nat.pow_pos (by decide)
                have e3 : (2 : Nat) ^ d * 2 ^ 1 * 1 ≤ 2 ^ d * 2 ^ 1 * 2 ^ f := Nat.mul_le_mul_left _ this
                omega
              rw [← hG] at e2
              omega
            · exact hd
          obtain ⟨f, hf⟩ : ∃ f, d = f + c := ⟨d - c, by omega⟩
          rw [hr, hk, hf, Nat.pow_add, ← Nat.mul_assoc, ← hG]
          exact Nat.mul_mod_left _ _
        cases v
        · have hv' : ¬ (G < 2 * r) := by
            intro h
            rw [decide_eq_true h] at hv
            simp at hv
          simp only [Bool.toNat_false, Nat.add_zero]
          rw [← ht]
          refine ⟨by omega, by omega, fun k d hk hk2 => ?_⟩
          have := ex k d hk hk2
          omega
        · have hv' : G ≤ 2 * r := by
            rcases Nat.lt_or_ge (2 * r) G with h | h
            · exfalso
              rw [decide_eq_false (by omega)] at hv
              have : (G == 2 * r) = false := by simp; omega
              rw [this] at hv
              simp at hv
            · exact h
          simp only [Bool.toNat_true]
          rw [Nat.add_mul, ← ht, Nat.one_mul]
          refine ⟨by omega, by omega, fun k d hk hk2 => ?_⟩
          have := ex k d hk hk2
          omega
  obtain ⟨K, c, hK, k1, k2, hcase⟩ := key
  rw [hK]
  obtain ⟨R, hR⟩ : ∃ R, R = (L - -1074).toNat * 4503599627370496 + K := ⟨_, rfl⟩
  have hR1 : 4503599627370496 ≤ R := by omega
  have hR2 : R < 9218868437227405312 := by omega
  rw [← hR, Nat.min_eq_left (by omega)]
  obtain ⟨w1, w2, w3⟩ := read_word s R hR1 hR2
  have hval : nv s (4503599627370496 + R % 4503599627370496) (-1074 + ((R / 4503599627370496 - 1 : Nat) : Int)) = nv s K L := by
    rcases Nat.lt_or_ge K 9007199254740992 with h | h
    · rw [show 4503599627370496 + R % 4503599627370496 = K by omega, show -1074 + ((R / 4503599627370496 - 1 : Nat) : Int) = L by omega]
    · have hK2 : K = 4503599627370496 * 2 ^ 1 := by omega
      rw [show 4503599627370496 + R % 4503599627370496 = 4503599627370496 by omega, show -1074 + ((R / 4503599627370496 - 1 : Nat) : Int) = L + ((1 : Nat) : Int) by omega, hK2, nv_shift]
  have hNn : Nn (Ieee.double.word s R) := .inr (by rw [w2]; exact ⟨hR1, hR2⟩)
  rcases hcase with ⟨hc, hk⟩ | ⟨hc, e1, e2, e3⟩
  · refine ⟨m, ⟨w1, s, _, _, w3, ?_⟩, hNn, by omega, by omega, fun _ _ _ _ => rfl⟩
    rw [hval, hk, nv_shift, hc]
  · refine ⟨K * 2 ^ c, ⟨w1, s, _, _, w3, ?_⟩, hNn, e1, e2, e3⟩
    rw [hval, nv_shift, hc]
end
section
open Go.RowKit
theorem Nn_word0 (s : Bool) : Nn (Ieee.double.word s 0) ∧ Fv (Ieee.double.word s 0) 0 := by
  unfold Ieee.Format.word
  simp only [D_sw]
  have rd : ∀ b : Nat, b % 9223372036854775808 = 0 → Ieee.double.read b = .number (b / 9223372036854775808 % 2 == 1) 0 (-1074) := by
    intro b hb
    unfold Ieee.Format.read
    simp only [D_sw, D_bin, D_inf, D_least]
    rw [hb, if_pos (by decide)]
  have z : ∀ s p, nv s 0 p = 0 := by
    intro s p
    unfold nv
    simp
  cases s
  · exact ⟨.inl (by decide), by decide, _, _, _, rd 0 (by decide), (z _ _).symm⟩
  · exact ⟨.inl (by decide), by decide, _, _, _, rd 9223372036854775808 (by decide), (z _ _).symm⟩
theorem nv_0 (s : Bool) (p : Int) : nv s 0 p = 0 := by
  unfold nv
  simp
def Ab (x A : Q) : Prop := -A ≤ x ∧ x ≤ A
theorem Ab.nonneg {x A : Q} (h : Ab x A) : 0 ≤ A := by
  have := h.1
  have := h.2
  grind
theorem Ab.mono {x A B : Q} (h : Ab x A) (k : A ≤ B) : Ab x B := ⟨by have := h.1; grind, by have := h.2; grind⟩
theorem Ab.add {x y A B : Q} (h : Ab x A) (k : Ab y B) : Ab (x + y) (A + B) := ⟨by have := h.1; have := k.1; grind, by have := h.2; have := k.2; grind⟩
theorem Ab.neg {x A : Q} (h : Ab x A) : Ab (-x) A := ⟨by have := h.2; grind, by have := h.1; grind⟩
theorem Ab.sub {x y A B : Q} (h : Ab x A) (k : Ab y B) : Ab (x - y) (A + B) := ⟨by have := h.1; have := k.2; grind, by have := h.2; have := k.1; grind⟩
theorem Ab.mul {x y A B : Q} (h : Ab x A) (k : Ab y B) : Ab (x * y) (A * B) := by
  have a1 := h.1
  have a2 := h.2
  have b1 := k.1
  have b2 := k.2
  have c1 : 0 ≤ (A - x) * (B + y) := Rat.mul_nonneg (by grind) (by grind)
  have c2 : 0 ≤ (A + x) * (B - y) := Rat.mul_nonneg (by grind) (by grind)
  have c3 : 0 ≤ (A - x) * (B - y) := Rat.mul_nonneg (by grind) (by grind)
  have c4 : 0 ≤ (A + x) * (B + y) := Rat.mul_nonneg (by grind) (by grind)
  constructor <;> grind
theorem Ab.of_le {x : Q} (h : 0 ≤ x) : Ab x x := ⟨by grind, by grind⟩
/-- Powers of two stand as their exponents. -/
theorem zp_lt {a b : Int} (h : a < b) : (2 : Q) ^ a < (2 : Q) ^ b := by
  obtain ⟨n, hn⟩ : ∃ n : Nat, b = a + ((n + 1 : Nat) : Int) := ⟨(b - a - 1).toNat, by omega⟩
  rw [hn, zp_add, zp_nat]
  have h2 : 2 ≤ 2 ^ (n + 1) := by
    have := Nat.pow_pos (a := 2) (n := n) (by decide)
    rw [Nat.pow_succ]
    omega
  have h3 : ((2 : Nat) : Q) ≤ ((2 ^ (n + 1) : Nat) : Q) := Rat.natCast_le_natCast.2 h2
  have h4 := two_pos a
  have h5 := Rat.mul_le_mul_of_nonneg_left h3 (Rat.le_of_lt h4)
  have h6 : ((2 : Nat) : Q) = 2 := rfl
  grind
theorem zp_le_iff {a b : Int} (h : (2 : Q) ^ a ≤ (2 : Q) ^ b) : a ≤ b := by
  rcases Int.lt_or_le b a with k | k
  · have := zp_lt k
    grind
  · exact k
theorem zp_lt_iff {a b : Int} (h : (2 : Q) ^ a < (2 : Q) ^ b) : a < b := by
  rcases Int.lt_or_le a b with k | k
  · exact k
  · exfalso
    rcases Int.lt_or_eq_of_le k with k | k
    · have := zp_lt k
      grind
    · rw [k] at h
      grind
/-- Neither too great nor too small. -/
def InR (x : Q) : Prop := x = 0 ∨ ((2 : Q) ^ (-1000 : Int) ≤ x ∧ x ≤ (2 : Q) ^ (1000 : Int)) ∨ ((2 : Q) ^ (-1000 : Int) ≤ -x ∧ -x ≤ (2 : Q) ^ (1000 : Int))
theorem sgr_cases (s : Bool) : sgr s = 1 ∨ sgr s = -1 := by cases s <;> simp [sgr]
theorem mag_nonneg (m : Nat) (p : Int) : (0 : Q) ≤ (m : Q) * (2 : Q) ^ p := Rat.mul_nonneg Rat.natCast_nonneg (Rat.le_of_lt (two_pos p))
theorem mag_pos {m : Nat} (h : 0 < m) (p : Int) : (0 : Q) < (m : Q) * (2 : Q) ^ p := Rat.mul_pos (Rat.natCast_pos.2 h) (two_pos p)
theorem nv_mag (s : Bool) (m : Nat) (p : Int) : nv s m p = sgr s * ((m : Q) * (2 : Q) ^ p) := by unfold nv; grind
theorem InR.range {s : Bool} {m : Nat} {p : Int} (h : InR (nv s m p)) (hm : 0 < m) : -1022 ≤ p + (m.log2 : Int) ∧ p + (m.log2 : Int) ≤ 1022 := by
  have hlo : 2 ^ m.log2 ≤ m := Nat.log2_self_le (by omega)
  have hhi : m < 2 ^ (m.log2 + 1) := Nat.lt_log2_self
  have hp := mag_pos hm p
  have hb : (2 : Q) ^ (-1000 : Int) ≤ (m : Q) * (2 : Q) ^ p ∧ (m : Q) * (2 : Q) ^ p ≤ (2 : Q) ^ (1000 : Int) := by
    unfold InR at h
    rw [nv_mag] at h
    have t1 := two_pos (-1000)
    rcases sgr_cases s with e | e <;> rw [e] at h
    · rcases h with h | h | h
      · grind
      · grind
      · grind
    · rcases h with h | h | h
      · grind
      · grind
      · grind
  have q1 : (2 : Q) ^ ((m.log2 : Nat) : Int) * (2 : Q) ^ p ≤ (m : Q) * (2 : Q) ^ p := by
    rw [zp_nat]
    exact Rat.mul_le_mul_of_nonneg_right (Rat.natCast_le_natCast.2 hlo) (Rat.le_of_lt (two_pos p))
  have q2 : (m : Q) * (2 : Q) ^ p < (2 : Q) ^ ((m.log2 + 1 : Nat) : Int) * (2 : Q) ^ p := by
    rw [zp_nat]
    exact Rat.mul_lt_mul_of_pos_right (Rat.natCast_lt_natCast.2 hhi) (two_pos p)
  rw [← zp_add] at q1 q2
  have r1 := zp_le_iff (show (2 : Q) ^ (((m.log2 : Nat) : Int) + p) ≤ (2 : Q) ^ (1000 : Int) by grind)
  have r2 := zp_lt_iff (show (2 : Q) ^ (-1000 : Int) < (2 : Q) ^ (((m.log2 + 1 : Nat) : Int) + p) by grind)
  omega
def qu : Q := 1 / 9007199254740992
/-- Whole numbers of at most 53 bits over a power of two. -/
def Rep (x : Q) : Prop := ∃ (n : Int) (e : Int), n.natAbs < 9007199254740992 ∧ x = (n : Q) * (2 : Q) ^ e
theorem sgn_mul (z : Int) : ∃ s : Bool, ((z : Q)) = sgr s * ((z.natAbs : Nat) : Q) := by
  rcases Int.le_total 0 z with h | h
  · refine ⟨false, ?_⟩
    unfold sgr
    rw [← Rat.intCast_natCast, show ((z.natAbs : Nat) : Int) = z by omega]
    simp
  · refine ⟨true, ?_⟩
    unfold sgr
    rw [← Rat.intCast_natCast, show ((z.natAbs : Nat) : Int) = -z by omega, Rat.intCast_neg]
    simp
    grind
theorem rep_nat {s : Bool} {m : Nat} {p : Int} (hm : 0 < m) (h : Rep (nv s m p)) : ∃ k c, m = k * 2 ^ c ∧ k < 9007199254740992 := by
  obtain ⟨n, e, hn, hx⟩ := h
  obtain ⟨t, ht⟩ := sgn_mul n
  rw [nv_mag, ht] at hx
  have hx2 : (m : Q) * (2 : Q) ^ p = ((n.natAbs : Nat) : Q) * (2 : Q) ^ e := by
    have a1 := mag_pos hm p
    have a2 := mag_nonneg n.natAbs e
    rcases sgr_cases s with h1 | h1 <;> rcases sgr_cases t with h2 | h2 <;> rw [h1, h2] at hx <;> grind
  generalize n.natAbs = N at hn hx2
  rcases Int.le_total p e with h | h
  · obtain ⟨c, hc⟩ : ∃ c : Nat, e = p + (c : Int) := ⟨(e - p).toNat, by omega⟩
    refine ⟨N, c, ?_, hn⟩
    rw [hc, zp_add, zp_nat] at hx2
    have t1 := two_pos p
    have h3 : (m : Q) = ((N * 2 ^ c : Nat) : Q) := by
      rw [Rat.natCast_mul]
      have h4 : ((m : Q) - (N : Q) * ((2 ^ c : Nat) : Q)) * (2 : Q) ^ p = 0 := by grind
      rcases Rat.mul_eq_zero.1 h4 with h5 | h5
      · grind
      · grind
    exact Rat.natCast_inj.1 h3
  · obtain ⟨c, hc⟩ : ∃ c : Nat, p = e + (c : Int) := ⟨(p - e).toNat, by omega⟩
    refine ⟨m, 0, by simp, ?_⟩
    rw [hc, zp_add, zp_nat] at hx2
    have t1 := two_pos e
    have h3 : (N : Q) = ((m * 2 ^ c : Nat) : Q) := by
      rw [Rat.natCast_mul]
      have h4 : ((N : Q) - (m : Q) * ((2 ^ c : Nat) : Q)) * (2 : Q) ^ e = 0 := by grind
      rcases Rat.mul_eq_zero.1 h4 with h5 | h5
      · grind
      · grind
    have h6 := Rat.natCast_inj.1 h3
    have h7 : 1 ≤ 2 ^ c := Nat.pow_pos (by decide)
    have h8 : m * 1 ≤ m * 2 ^ c := Nat.mul_le_mul_left _ h7
    omega
/-- A number written: within half a unit; exactly, where it has at most 53 bits. -/
theorem write_v {s : Bool} {m : Nat} {p : Int} {x : Q} (hx : x = nv s m p) (hr : InR x) : ∃ z d, Fv (Ieee.double.write (.number s m p)) z ∧ Nn (Ieee.double.write (.number s m p)) ∧ z = x * (1 + d) ∧ Ab d qu ∧ (Rep x → d = 0) := by
  subst hx
  show ∃ z d, Fv (Ieee.double.nearest s m p) z ∧ Nn (Ieee.double.nearest s m p) ∧ _
  rcases Nat.eq_zero_or_pos m with rfl | hm
  · have e : Ieee.double.nearest s 0 p = Ieee.double.word s 0 := by
      unfold Ieee.Format.nearest
      rw [if_pos rfl]
    rw [e, nv_0]
    obtain ⟨h1, h2⟩ := Nn_word0 s
    exact ⟨0, 0, h2, h1, by grind, ⟨by unfold qu; grind, by unfold qu; grind⟩, fun _ => rfl⟩
  · obtain ⟨r1, r2⟩ := hr.range hm
    obtain ⟨E, f1, f2, f3, f4, f5⟩ := nearest_val s m p hm r1 r2
    have hmq : (0 : Q) < (m : Q) := Rat.natCast_pos.2 hm
    refine ⟨_, ((E : Q) - (m : Q)) / (m : Q), f1, f2, ?_, ?_, fun h => ?_⟩
    · have e : (m : Q) * (1 + ((E : Q) - (m : Q)) / (m : Q)) = (E : Q) := by
        have : ((E : Q) - (m : Q)) / (m : Q) * (m : Q) = (E : Q) - (m : Q) := Rat.div_mul_cancel (by grind)
        grind
      rw [nv_mag, nv_mag, ← e]
      grind
    · have g3 : ((9007199254740992 * E : Nat) : Q) ≤ ((9007199254740992 * m + m : Nat) : Q) := Rat.natCast_le_natCast.2 f3
      have g4 : ((9007199254740992 * m : Nat) : Q) ≤ ((9007199254740992 * E + m : Nat) : Q) := Rat.natCast_le_natCast.2 f4
      rw [Rat.natCast_mul, Rat.natCast_add, Rat.natCast_mul] at g3
      rw [Rat.natCast_mul, Rat.natCast_add, Rat.natCast_mul] at g4
      have c9 : ((9007199254740992 : Nat) : Q) = 9007199254740992 := rfl
      rw [c9] at g3 g4
      obtain ⟨d, hd⟩ : ∃ d, d = ((E : Q) - (m : Q)) / (m : Q) := ⟨_, rfl⟩
      have hd2 : d * (m : Q) = (E : Q) - (m : Q) := by rw [hd]; exact Rat.div_mul_cancel (by grind)
      rw [← hd]
      have u1 : qu * 9007199254740992 = 1 := by unfold qu; grind
      obtain ⟨t, ht⟩ : ∃ t, t = qu * (m : Q) := ⟨_, rfl⟩
      have ht2 : t * 9007199254740992 = (m : Q) := by rw [ht]; grind
      constructor
      · refine Rat.le_of_mul_le_mul_right (c := (m : Q)) ?_ hmq
        rw [hd2, Rat.neg_mul, ← ht]
        clear hd hd2 u1 ht
        grind
      · refine Rat.le_of_mul_le_mul_right (c := (m : Q)) ?_ hmq
        rw [hd2, ← ht]
        clear hd hd2 u1 ht
        grind
    · obtain ⟨k, c, hk, hk2⟩ := rep_nat hm h
      rw [f5 k c hk hk2]
      have : (m : Q) - (m : Q) = 0 := by grind
      rw [this]
      grind
end
end Go.Proofs.YtcoillcppmibgaaGreatDoor
