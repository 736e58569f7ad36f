/- Polynomials over boxes, of the given program: what each call answers. -/
import Derived.Test.YtbocjicihamahaaE
set_option linter.unusedSimpArgs false
set_option linter.unusedVariables false
namespace Go.Proofs.Ytbocjicihamahaa
open Go.RowKit

theorem cell_of_block {w : World} {g : Nat} {c : Array Value} {T : TypeId} {fr : Nat × Nat} (h : w.heap[g]? = some (.cells c T fr)) (o : Nat) : w.cell? ⟨g, o, none⟩ = c[o]? := by
  simp [World.cell?, h]
theorem free_of_block {w : World} {g : Nat} {c : Array Value} {T : TypeId} (h : w.heap[g]? = some (.cells c T (0, 0))) (o : Nat) : w.frozen? ⟨g, o, none⟩ = false := by
  simp [World.frozen?, h]
theorem set_of_block {w : World} {g : Nat} {c : Array Value} {T : TypeId} {fr : Nat × Nat} (h : w.heap[g]? = some (.cells c T fr)) (o : Nat) (v : Value) : (w.setCell ⟨g, o, none⟩ v).heap[g]? = some (.cells (c.setIfInBounds o v) T fr) := by
  simp [World.setCell, Array.getElem?_modify, h]
theorem block_new (w : World) (o : Obj) : (w.alloc o).heap[w.heap.size]? = some o := by
  unfold World.alloc
  simp
theorem lt_of_block {w : World} {g : Nat} {o : Obj} (h : w.heap[g]? = some o) : g < w.heap.size := by
  rcases Nat.lt_or_ge g w.heap.size with h' | h'
  · exact h'
  · rw [Array.getElem?_eq_none h'] at h; cases h
/-- The box of one place. -/
def pointS (c : Pl) : Bx := ((fminS c.1 c.1, fminS c.2 c.2), (fmaxS c.1 c.1, fmaxS c.2 c.2))
/-- The cells of a list of boxes, of which the last k are filled. -/
def ptsCell (l : List Pl) (k i : Nat) : Value :=
  if l.length - k ≤ i / 2 then
    (if i % 2 = 0 then .complex .f64 (pointS (l.getD (l.length - 1 - i / 2) (0, 0))).1.1 (pointS (l.getD (l.length - 1 - i / 2) (0, 0))).1.2
     else .complex .f64 (pointS (l.getD (l.length - 1 - i / 2) (0, 0))).2.1 (pointS (l.getD (l.length - 1 - i / 2) (0, 0))).2.2)
  else .complex .f64 0 0
def ptsArr (l : List Pl) (k : Nat) : Array Value := Array.ofFn fun i : Fin (l.length * 2) => ptsCell l k i.1
theorem ptsArr_get (l : List Pl) (k i : Nat) (h : i < l.length * 2) : (ptsArr l k)[i]? = some (ptsCell l k i) := by
  simp [ptsArr, h]
theorem ptsArr_zero (l : List Pl) : madeCells #[Value.complex .f64 0 0, Value.complex .f64 0 0] (l.length * 2) = ptsArr l 0 := by
  apply Array.ext
  · simp [madeCells, ptsArr]
  · intro i h1 h2
    have hi : i < l.length * 2 := by simpa [madeCells] using h1
    have hd : ¬ (l.length - 0 ≤ i / 2) := by omega
    simp only [madeCells, ptsArr, Array.getElem_map, Array.getElem_range, Array.getElem_ofFn, ptsCell, if_neg hd]
    have : i % 2 = 0 ∨ i % 2 = 1 := by omega
    rcases this with h | h <;> simp [h]
theorem ptsArr_succ (l : List Pl) (k : Nat) (hk : k < l.length) :
    ((ptsArr l k).setIfInBounds ((l.length - 1 - k) * 2) (.complex .f64 (pointS (l.getD k (0, 0))).1.1 (pointS (l.getD k (0, 0))).1.2)).setIfInBounds ((l.length - 1 - k) * 2 + 1) (.complex .f64 (pointS (l.getD k (0, 0))).2.1 (pointS (l.getD k (0, 0))).2.2) = ptsArr l (k + 1) := by
  apply Array.ext_getElem?
  intro i
  simp only [Array.getElem?_setIfInBounds, Array.size_setIfInBounds]
  have hs : (ptsArr l k).size = l.length * 2 := by simp [ptsArr]
  rw [hs]
  by_cases hi : i < l.length * 2
  · rw [ptsArr_get l (k + 1) i hi]
    by_cases h1 : (l.length - 1 - k) * 2 + 1 = i
    · have e1 : i / 2 = l.length - 1 - k := by omega
      have e2 : ¬ (i % 2 = 0) := by omega
      have e3 : l.length - (k + 1) ≤ l.length - 1 - k := by omega
      have e4 : l.length - 1 - (l.length - 1 - k) = k := by omega
      rw [if_pos h1, if_pos (by omega), ptsCell, e1, if_pos e3, if_neg e2, e4]
    · rw [if_neg h1]
      by_cases h2 : (l.length - 1 - k) * 2 = i
      · have e1 : i / 2 = l.length - 1 - k := by omega
        have e2 : i % 2 = 0 := by omega
        have e3 : l.length - (k + 1) ≤ l.length - 1 - k := by omega
        have e4 : l.length - 1 - (l.length - 1 - k) = k := by omega
        rw [if_pos h2, if_pos (by omega), ptsCell, e1, if_pos e3, if_pos e2, e4]
      · rw [if_neg h2, ptsArr_get l k i hi]
        have e : (l.length - k ≤ i / 2) ↔ (l.length - (k + 1) ≤ i / 2) := by omega
        simp only [ptsCell, e]
  · rw [if_neg (by omega), if_neg (by omega), Array.getElem?_eq_none (by rw [hs]; omega), Array.getElem?_eq_none (by simp [ptsArr]; omega)]
theorem Try.info29 : (Try.prog.info? 29).map (fun i => (i.zero, i.size, i.bytes)) = some (some (.agg #[.complex .f64 0 0, .complex .f64 0 0]), 2, 32) := by kernel_rfl
set_option maxHeartbeats 1000000 in
theorem points_fin (l : List Pl) (b off cap : Nat) (w : World) (hn : l.length ≤ 65) (hc : reads w b off l) (hf : ∀ i, i < l.length → cfin (l.getD i (0, 0)).1 (l.getD i (0, 0)).2 = true) (hb : b < w.heap.size) :
    Calls Try.prog 63 #[.slice (some ⟨b, off, none⟩) l.length cap] w fun e w' => e = .returned (.slice (some ⟨w.heap.size, 0, none⟩) l.length l.length) ∧ w'.heap[w.heap.size]? = some (.cells (ptsArr l l.length) 29 (0, 0)) ∧ Below w.heap.size w w' := by
  have HC := hid hc
  have HF := hid hf
  clear hc hf
  have hmk : ∀ W : World, (Instr.makeSlice 37 (.int .i64 l.length) (.int .i64 l.length)).run Try.prog W = .ok (.slice (some ⟨W.heap.size, 0, none⟩) l.length l.length) (W.alloc (.cells (ptsArr l 0) 29)) := by
    intro W
    obtain ⟨i, hi, hz0, hz1, hz2⟩ := info_parts Try.info29
    have h := run_make (P := Try.prog) W 37 29 i _ Try.underlying37 hi hz0 .i64 .i64 l.length l.length (by omega) (by omega) (by rw [hz2]; omega) (by omega)
    rw [h, hz1]
    simp only [Int.toNat_natCast, Value.cells]
    rw [ptsArr_zero]
  have hp0 := hid (ptsArr_succ l)
  generalize ha : ptsArr l 0 = A0 at hmk
  have HA := hid ha
  clear ha
  go_enter Try.func63, Try.ntmps63
  go_wp2
  go_loopw [4, 5, 11] (fun _ _ i wr => ∃ k : Nat, k ≤ l.length ∧ i = .int .i64 k ∧ wr.heap[w.heap.size]? = some (.cells (ptsArr l k) 29 (0, 0)) ∧ Below w.heap.size w wr) (fun _ _ i _ => l.length - (intOf i).toNat)
  case atStart => exact ⟨0, Nat.zero_le _, rfl, by rw [HA.out]; exact block_new _ _, by (repeat' (first | exact Below.refl _ _ | (refine Below.alloc ?_ ?_ _) | (refine below_plus ?_ ?_ _ _) | (refine Below.drew ?_) | (refine Below.setCell ?_ ?_ _) | (simp; done) | (simp; omega) | assumption))⟩
  case round =>
    obtain ⟨k, hk, rfl, hblk, hB⟩ := hrel
    by_cases hlt : k < l.length
    · have hcell : wr.cell? ⟨b, off + k, none⟩ = _ := (hB.cell (p := ⟨b, off + k, none⟩) hb).trans (HC.out k hlt)
      have hfin := HF.out k hlt
      have hz := lt_of_block hblk
      haveI : Has wr w.heap.size := ⟨hz⟩
      have c0 : wr.cell? ⟨w.heap.size, (l.length - 1 - k) * 2, none⟩ = some (ptsCell l k ((l.length - 1 - k) * 2)) := (cell_of_block hblk _).trans (ptsArr_get _ _ _ (by omega))
      have c1 : wr.cell? ⟨w.heap.size, (l.length - 1 - k) * 2 + 1, none⟩ = some (ptsCell l k ((l.length - 1 - k) * 2 + 1)) := (cell_of_block hblk _).trans (ptsArr_get _ _ _ (by omega))
      have f0 := free_of_block hblk ((l.length - 1 - k) * 2)
      have f1 := free_of_block hblk ((l.length - 1 - k) * 2 + 1)
      have HB := hid hblk
      clear hblk
      generalize hzz : l.getD k (0, 0) = z at hcell hfin
      have HZ := hid hzz
      clear hzz
      have ei : (l.length : Int) - 1 - k = ((l.length - 1 - k : Nat) : Int) := by omega
      have el : l.length - 1 - k < l.length := by omega
      generalize hj : l.length - 1 - k = j at c0 c1 f0 f1 ei el
      have HJ := hid hj
      clear hj
      go_wp2_with (go_at_call 78; refine (point_fin _ _ _ hfin).mono ?_; rintro e wq ⟨rfl, hb⟩; obtain ⟨os, d, rfl⟩ := plus_of_below hb; clear hb)
      refine ⟨⟨k + 1, by omega, by go_num, ?_, ?_⟩, by simp [intOf]; omega⟩
      · rw [block_plus _ _ _ _ (by simp only [World.size_setCell]; exact hz)]
        have h1 := set_of_block (set_of_block HB.out (j * 2) (.complex .f64 (fminS z.1 z.1) (fminS z.2 z.2))) (j * 2 + 1) (.complex .f64 (fmaxS z.1 z.1) (fmaxS z.2 z.2))
        rw [h1, ← HJ.out, ← HZ.out]
        exact congrArg (fun c => some (Obj.cells c 29 (0, 0))) (hp0.out k hlt)
      · (repeat' (first | exact Below.refl _ _ | (refine Below.alloc ?_ ?_ _) | (refine below_plus ?_ ?_ _ _) | (refine Below.drew ?_) | (refine Below.setCell ?_ ?_ _) | (simp; done) | (simp; omega) | assumption))
    · go_wp2
      go_ret
      have hk' : k = l.length := by omega
      subst hk'
      exact ⟨rfl, hblk, hB⟩
end Go.Proofs.Ytbocjicihamahaa
