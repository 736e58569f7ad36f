/- A complex number of the given program's reader. -/
import Derived.Test.YtnagagcgmfkjjaaGreatDoorF
import Derived.Deep.Upon
set_option linter.unusedSimpArgs false
set_option linter.unusedVariables false
namespace Go.Proofs.YtnagagcgmfkjjaaGreatDoor
open Go.RowKit

theorem Tryz.info119 : (Tryz.prog.info? 119).map (fun i => (i.zero, i.size, i.bytes)) = some (some (.pointer none), 1, 8) := by kernel_rfl
theorem app_nil (g : Nat) (w : World) : (Builtin.append_ #[125, 125] 125 #[.slice (some ⟨g, 0, none⟩) 2 2, .slice none 0 0]).run Tryz.prog w = .ok (.slice (some ⟨g, 0, none⟩) 2 2) w := by kernel_rfl
set_option maxRecDepth 100000 in
set_option maxHeartbeats 4000000 in
/-- A number: the target's complex cell has turned. -/
theorem number_any (rb : Nat) (s : ByteArray) (i : Nat) (a : Int) (tb tq : Nat) (old : Value) (w : World) (h : Rd w rb s i a) (hi : i ≤ s.size) (hs : s.size ≤ 70000) (htr : tb ≠ rb)
    (hct : w.cell? ⟨tb, tq, none⟩ = some old) (hft : w.frozen? ⟨tb, tq, none⟩ = false) :
    Calls Tryz.prog 37 #[.pointer (some ⟨rb, 0, none⟩), .pointer (some ⟨tb, tq, none⟩), .slice none 0 0] w fun e w' =>
      e = .returned (.tuple #[]) ∧ Rd w' rb s (numS s.data.toList (i, a)).2.1 (numS s.data.toList (i, a)).2.2 ∧
        w'.heap[tb]? = (w.setCell ⟨tb, tq, none⟩ (.complex .f64 (numS s.data.toList (i, a)).1.1 (numS s.data.toList (i, a)).1.2)).heap[tb]? ∧ Keeps w.heap.size [rb, tb] w w' := by
  have lrb := lt_of_block h
  have ltb := World.block_lt_of_cell? _ _ hct
  haveI : Has w rb := ⟨lrb⟩
  haveI : Has w tb := ⟨ltb⟩
  have H := hid h
  have CT := hid hct
  have FT := hid hft
  clear h hct hft
  obtain ⟨i0, hi0, hz0, hz1, hz2⟩ := info_parts Tryz.info119
  have happ := app_nil
  go_enter Tryz.func37, Tryz.ntmps37
  go_wp2_with fail
  refine (floats_two rb s i a (w.heap.size + 1 + 1) w.heap.size (w.heap.size + 1) 2 0 0 _ (((H.out.alloc _).alloc _).alloc _) hi hs (by omega) (by omega) (by omega) (by omega) (by omega) (by omega) ?_ ?_ ?_ ?_).mono ?_
  · simp [go_sem]
  · simp [go_sem]
  · simp only [block_alloc', block_at]
  · simp only [block_alloc', block_at]
  rintro e wq ⟨rfl, hR, hP, hQ, hK⟩
  have hb0 : tb < w.heap.size := ltb
  have bt : wq.heap[tb]? = w.heap[tb]? := (hK.block tb (by simp; omega) (by simp; omega)).trans (by simp only [block_alloc'])
  have ct : wq.cell? ⟨tb, tq, none⟩ = some old := (World.cell?_of_block (w := w) bt).trans CT.out
  have ft : wq.frozen? ⟨tb, tq, none⟩ = false := by
    have : wq.frozen? ⟨tb, tq, none⟩ = w.frozen? ⟨tb, tq, none⟩ := by simp only [World.frozen?, bt]
    rw [this]; exact FT.out
  have x0 := cell_of_block hP 0
  have y0 := cell_of_block hQ 0
  simp at x0 y0
  have hK1 : Keeps w.heap.size [rb, tb] w wq := Keeps.trans ((((Keeps.refl _ _ _).alloc (Nat.le_refl _) _).alloc (by simp) _).alloc (by simp; omega) _) (hK.mono (by simp; omega) (fun k hk h => by simp at h ⊢; omega))
  have HRR := hid hR
  have HK1 := hid hK1
  have BT := hid bt
  clear hR hP hQ hK hK1 bt
  go_wp2_with fail
  go_end0
  exact ⟨rfl, (block_ne _ _ _ _ _ (Ne.symm htr)).trans HRR.out, set_same BT.out _ _, HK1.out.set (Or.inl (by simp)) _ _⟩
end Go.Proofs.YtnagagcgmfkjjaaGreatDoor
