/- Floats of the given program's reader. -/
import Derived.Test.YtnagagcgmfkjjaaGreatDoorD
import Derived.Outline
set_option linter.unusedSimpArgs false
set_option linter.unusedVariables false
namespace Go.Proofs.YtnagagcgmfkjjaaGreatDoor
open Go.RowKit

section
variable (P : Program) (w : World) (a : Addr) (m : Mode)
@[go_sem] theorem run_store_float (k : FloatKind) (b : Nat) : (store a (.float k b) m).run P w = stored P w a (.float k b) m := run_store P w a _ m rfl
@[go_sem] theorem run_store_complex (k : FloatKind) (b c : Nat) : (store a (.complex k b c) m).run P w = stored P w a (.complex k b c) m := run_store P w a _ m rfl
end
theorem f64bits_run (a : Nat) (w : World) : (callFunc 58 #[.float .f64 a]).run Tryz.prog w = .ok (.value (.int .u64 a)) w := by kernel_rfl
theorem f64from_run (a : Int) (w : World) : (callFunc 57 #[.int .u64 a]).run Tryz.prog w = .ok (.value (.float .f64 a.toNat)) w := by kernel_rfl
theorem bits_any (n : Nat) (w : World) : Calls Tryz.prog 76 #[.float .f64 n] w fun e w' => e = .returned (.int .u64 (bitsS n)) ∧ w = w' := by
  have h1 := f64bits_run
  cases h : FloatKind.f64.format.order n n == some .eq
  · have eb : bitsS n = 9221120237041090560 := by unfold bitsS isNan; rw [h]; rfl
    have h' : (FloatKind.f64.format.order n n != some .eq) = true := by simp [bne, h]
    rw [eb]
    go_enter Tryz.func76, Tryz.ntmps76
    go_wp2
    go_ret
    exact ⟨rfl, rfl⟩
  · have eb : bitsS n = n := by unfold bitsS isNan; rw [h]; rfl
    have h' : (FloatKind.f64.format.order n n != some .eq) = false := by simp [bne, h]
    rw [eb]
    go_enter Tryz.func76, Tryz.ntmps76
    go_wp2
    go_ret
    exact ⟨rfl, rfl⟩
theorem from_any (n : Nat) (w : World) : Calls Tryz.prog 82 #[.int .u64 n] w fun e w' => e = .returned (.float .f64 n) ∧ w = w' := by
  have h1 := f64from_run
  go_enter Tryz.func82, Tryz.ntmps82
  go_wp2
  go_ret
  exact ⟨rfl, rfl⟩
theorem set_same {w w1 : World} {g : Nat} (h : w1.heap[g]? = w.heap[g]?) (o : Nat) (v : Value) : (w1.setCell ⟨g, o, none⟩ v).heap[g]? = (w.setCell ⟨g, o, none⟩ v).heap[g]? := by
  simp [World.setCell, Array.getElem?_modify, h]
/-- What reading one float comes to: the target's cell alone has turned, and the reader. -/
def FloatPost (rb : Nat) (s : ByteArray) (st : St) (tb tq : Nat) (w : World) (e : Ending) (w' : World) : Prop :=
  e = .returned (.tuple #[]) ∧ Rd w' rb s (floatS s.data.toList st).2.1 (floatS s.data.toList st).2.2 ∧ w'.heap[tb]? = (w.setCell ⟨tb, tq, none⟩ (.float .f64 (floatS s.data.toList st).1)).heap[tb]? ∧ Keeps w.heap.size [rb, tb] w w'
set_option maxRecDepth 100000 in
set_option maxHeartbeats 4000000 in
theorem floats_one (rb : Nat) (s : ByteArray) (i : Nat) (a : Int) (g tb tq c : Nat) (old : Value) (w : World) (h : Rd w rb s i a) (hi : i ≤ s.size) (hs : s.size ≤ 70000) (hg : g ≠ rb) (htr : tb ≠ rb) (hgt : g ≠ tb)
    (hcg : w.cell? ⟨g, 0, none⟩ = some (.pointer (some ⟨tb, tq, none⟩))) (hct : w.cell? ⟨tb, tq, none⟩ = some old) (hft : w.frozen? ⟨tb, tq, none⟩ = false) :
    Calls Tryz.prog 63 #[.pointer (some ⟨rb, 0, none⟩), .slice (some ⟨g, 0, none⟩) 1 c] w (FloatPost rb s (i, a) tb tq w) := by
  have c1 := cell_of_block h 1
  simp at c1
  have lrb := lt_of_block h
  have lg := World.block_lt_of_cell? _ _ hcg
  have ltb := World.block_lt_of_cell? _ _ hct
  have H := hid h
  clear h
  have hsx := sixteen_any rb s i a w H.out hi hs
  generalize hsv : sixteenS s.data.toList (i, a) = sv at hsx
  obtain ⟨n, i', a'⟩ := sv
  have HSV := hid hsv
  have HSX := hid hsx
  clear hsv hsx
  go_enter Tryz.func63, Tryz.ntmps63
  go_wp2_with fail
  go_loopw [10] (fun t wr => (t = .int .i64 0 ∧ w = wr) ∨ (t = .int .i64 1 ∧ FloatPost rb s (i, a) tb tq w (.returned (.tuple #[])) wr)) (fun t _ => 1 - (intOf t).toNat)
  case atStart => exact .inl ⟨rfl, rfl⟩
  case round =>
    rcases hrel with ⟨rfl, rfl⟩ | ⟨rfl, hpost⟩
    · go_wp2_with fail
      refine HSX.out.mono ?_
      rintro e wq ⟨rfl, hR, hK⟩
      have kt : wq.cell? ⟨tb, tq, none⟩ = some old := (hK.cell (q := ⟨tb, tq, none⟩) ltb (by simpa using htr)).trans hct
      have bt := hK.block tb ltb (by simpa using htr)
      have ft : wq.frozen? ⟨tb, tq, none⟩ = false := by
        have : wq.frozen? ⟨tb, tq, none⟩ = w.frozen? ⟨tb, tq, none⟩ := by simp only [World.frozen?, bt]
        rw [this]; exact hft
      have HRR := hid hR
      have HKK := hid hK
      have BT := hid bt
      clear hR hK bt
      have hlt : rb < wq.heap.size := lt_of_block HRR.out
      have hsz := HKK.out.size
      haveI : Has wq tb := ⟨by omega⟩
      by_cases hb : bitsS n = n
      · have hb' : ((bitsS n : Int) != (n : Int)) = false := by rw [hb]; simp
        have HB := hid hb
        clear hb
        go_wp2_with (first | (go_at_call 82; ((with_reducible refine (from_any n _).mono ?_); rintro e w' ⟨rfl, rfl⟩)) | (go_at_call 76; ((with_reducible refine (bits_any n _).mono ?_); rintro e w' ⟨rfl, rfl⟩)))
        go_roundw
        case rel =>
          have ef : floatS s.data.toList (i, a) = (n, i', a') := by unfold floatS; simp only [HSV.out]; rw [if_pos HB.out]
          refine .inr ⟨by rfl, rfl, ?_, ?_, ?_⟩
          · rw [ef]; exact (block_ne _ _ _ _ _ (Ne.symm htr)).trans HRR.out
          · rw [ef]; exact set_same BT.out _ _
          · exact (HKK.out.mono (Nat.le_refl _) (fun k _ hk => by simp at hk ⊢; exact Or.inl hk)).set (Or.inl (by simp)) _ _
        case measure => simp [intOf]
      · have hb' : ((bitsS n : Int) != (n : Int)) = true := by simp; omega
        have HB := hid hb
        clear hb
        go_wp2_with (first | (go_at_call 82; ((with_reducible refine (from_any n _).mono ?_); rintro e w' ⟨rfl, rfl⟩)) | (go_at_call 76; ((with_reducible refine (bits_any n _).mono ?_); rintro e w' ⟨rfl, rfl⟩)))
        refine (wrong_any rb s i' a' i _ ((block_ne _ _ _ _ _ (Ne.symm htr)).trans HRR.out)).mono ?_
        rintro e wq2 ⟨rfl, hR2, hK2⟩
        have HR2 := hid hR2
        have hK2' := hK2.mono (B' := w.heap.size) (by rw [World.size_setCell]; exact hsz) (fun k _ h => h)
        have hbt := hK2.block tb (by rw [World.size_setCell]; omega) (by simpa using htr)
        have HK2 := hid hK2'
        have HBT := hid hbt
        clear hR2 hK2 hK2' hbt
        go_wp2_with fail
        go_roundw
        case rel =>
          have ef : floatS s.data.toList (i, a) = (n, wrongS i (i', a')) := by unfold floatS; simp only [HSV.out]; rw [if_neg HB.out]
          refine .inr ⟨by rfl, rfl, ?_, ?_, ?_⟩
          · rw [ef]
            unfold wrongS
            by_cases ha : a' < 0
            · have := HR2.out; rw [if_pos ha] at this; simpa [ha] using this
            · have := HR2.out; rw [if_neg ha] at this; simpa [ha] using this
          · rw [ef]; exact HBT.out.trans (set_same BT.out _ _)
          · exact ((HKK.out.mono (Nat.le_refl _) (fun k _ hk => by simp at hk ⊢; exact Or.inl hk)).set (Or.inl (by simp)) _ _).trans (HK2.out.mono (Nat.le_refl _) (fun k _ hk => by simp at hk ⊢; exact Or.inl hk))
        case measure => simp [intOf]
    · have HP := hid hpost
      clear hpost
      go_wp2_with fail
      go_end0
      exact HP.out
end Go.Proofs.YtnagagcgmfkjjaaGreatDoor
