/- Numbers of the given program's reader. A complex number of the given program's reader. Decimal numbers, of the library that the given program calls. The sum of a text's bytes and a fault, of the given program; the shortest row of sixteens. The library's row of sixteens. A whole number, of the given program's reader. -/
import Derived.Test.YtmjpfoninpbgiaaGreatDoorD02
import Derived.Outline
import Derived.Deep.Upon
import Derived.Lib.ConvBytes
import Derived.Laws.BitsAllLaws
import Derived.Lib.Hide
import Derived.WalkKit
import Derived.Deep.LoopGhost
import Derived.IntWalk
import Derived.BigCall
import Derived.BigGuard
import Derived.Lib.LaidTab
import Derived.Lib.ItoaNum
import Derived.Laws.IdiomStrings
set_option linter.unusedSimpArgs false
set_option linter.unusedVariables false
namespace Go.Proofs.YtmjpfoninpbgiaaGreatDoor
section
open Go.RowKit


theorem must_le (l : By) : ∀ (ws : List By) (st : St), st.1 ≤ l.length → (mustS l ws st).1 ≤ l.length := by
  intro ws
  induction ws with
  | nil => intro st h; exact h
  | cons x ws ih =>
    intro st h
    by_cases h0 : st.2 < 0
    · rw [mustS, if_pos h0]
      by_cases hw : x.isPrefixOf (l.drop st.1) = true
      · rw [if_pos hw]
        refine ih _ ?_
        obtain ⟨t, ht⟩ := List.isPrefixOf_iff_prefix.1 hw
        have : (l.drop st.1).length = x.length + t.length := by rw [← ht]; simp
        simp at this
        show st.1 + x.length ≤ l.length
        omega
      · rw [if_neg hw]; exact h
    · rw [must_not l _ _ h0]; exact h
theorem sixteen_le (l : By) (st : St) (h : st.1 ≤ l.length) : (sixteenS l st).2.1 ≤ l.length := by
  unfold sixteenS
  by_cases h0 : st.2 < 0
  · simp only [if_pos h0]
    have := run_le l isHex 16 st.1 h
    by_cases hb : (runS l isHex 16 st.1).length = 16
    · simp only [if_pos hb]; rw [hb] at this; exact this
    · simp only [if_neg hb]; exact this
  · simp only [if_neg h0]; exact h
theorem float_le (l : By) (st : St) (h : st.1 ≤ l.length) : (floatS l st).2.1 ≤ l.length := by
  unfold floatS
  have := sixteen_le l st h
  by_cases hb : bitsS (sixteenS l st).1 = (sixteenS l st).1
  · simp only [if_pos hb]; exact this
  · simp only [if_neg hb]; unfold wrongS; split <;> exact this
theorem whole_le (l : By) (bits : Nat) (st : St) (h : st.1 ≤ l.length) : (wholeS l bits st).2.1 ≤ l.length := by
  unfold wholeS
  by_cases h0 : st.2 < 0
  · simp only [if_pos h0]
    have := run_le l isDig l.length st.1 h
    split <;> exact this
  · simp only [if_neg h0]; exact h
theorem num_le (l : By) (st : St) (h : st.1 ≤ l.length) : (numS l st).2.1 ≤ l.length := by
  unfold numS
  exact float_le l _ (must_le l _ _ (float_le l _ h))
theorem size_list (s : ByteArray) : s.data.toList.length = s.size := by simp
/-- A blank. -/
def blank : ByteArray := ⟨#[32]⟩
theorem must_blank (rb : Nat) (s : ByteArray) (st : St) (g c : Nat) (w : World) (h : Rd w rb s st.1 st.2) (hi : st.1 ≤ s.size) (hs : s.size ≤ 70000) (hg : g ≠ rb) (hc : w.cell? ⟨g, 0, none⟩ = some (.string blank)) :
    Calls Tryz.prog 186 #[.pointer (some ⟨rb, 0, none⟩), .slice (some ⟨g, 0, none⟩) 1 c] w fun e w' => e = .returned (.tuple #[]) ∧ Rd w' rb s (mustS s.data.toList [[32]] st).1 (mustS s.data.toList [[32]] st).2 ∧ Keeps w.heap.size [rb] w w' :=
  must_any rb s st.1 st.2 [blank] g 1 c w h hi hs rfl (by decide) hg (World.block_lt_of_cell? _ _ hc) (fun j hj => by have h0 : j = 0 := (by omega); subst h0; exact hc)
theorem Rd.alloc {w : World} {rb : Nat} {s : ByteArray} {i : Nat} {a : Int} (h : Rd w rb s i a) (o : Obj) : Rd (w.alloc o) rb s i a := (Below.heap_alloc w o rb (lt_of_block h)).trans h
/-- What reading two floats comes to. -/
def TwoPost (rb : Nat) (s : ByteArray) (st : St) (p q : Nat) (w : World) (e : Ending) (w' : World) : Prop :=
  e = .returned (.tuple #[]) ∧ Rd w' rb s (numS s.data.toList st).2.1 (numS s.data.toList st).2.2 ∧ w'.heap[p]? = some (.cells #[.float .f64 (numS s.data.toList st).1.1] 32 (0, 0)) ∧ w'.heap[q]? = some (.cells #[.float .f64 (numS s.data.toList st).1.2] 32 (0, 0)) ∧ Keeps w.heap.size [rb, p, q] w w'
/-- One float, behind its sixteens: the place where it began, the cell, the reader. -/
theorem float_st (l : By) (st : St) (n : Nat) (i' : Nat) (a' : Int) (h : sixteenS l st = (n, i', a')) : floatS l st = (n, if bitsS n = n then (i', a') else wrongS st.1 (i', a')) := by
  unfold floatS
  simp only [h]
  split <;> rfl
set_option maxRecDepth 100000 in
set_option maxHeartbeats 4000000 in
theorem floats_two (rb : Nat) (s : ByteArray) (i : Nat) (a : Int) (g p q c : Nat) (o1 o2 : Nat) (w : World) (h : Rd w rb s i a) (hi : i ≤ s.size) (hs : s.size ≤ 70000) (hg : g ≠ rb) (hpr : p ≠ rb) (hqr : q ≠ rb) (hgp : g ≠ p) (hgq : g ≠ q) (hpq : p ≠ q)
    (hc0 : w.cell? ⟨g, 0, none⟩ = some (.pointer (some ⟨p, 0, none⟩))) (hc1 : w.cell? ⟨g, 1, none⟩ = some (.pointer (some ⟨q, 0, none⟩))) (hp : w.heap[p]? = some (.cells #[.float .f64 o1] 32 (0, 0))) (hq : w.heap[q]? = some (.cells #[.float .f64 o2] 32 (0, 0))) :
    Calls Tryz.prog 192 #[.pointer (some ⟨rb, 0, none⟩), .slice (some ⟨g, 0, none⟩) 2 c] w (TwoPost rb s (i, a) p q w) := by
  have lrb := lt_of_block h
  have lg := World.block_lt_of_cell? _ _ hc0
  have lp := lt_of_block hp
  have lq := lt_of_block hq
  have H := hid h
  have HP := hid hp
  have HQ := hid hq
  clear h hp hq
  go_enter Tryz.func192, Tryz.ntmps192
  go_wp2_with fail
  go_loopw [10] (fun t wr => (t = .int .i64 0 ∧ w = wr) ∨ (t = .int .i64 1 ∧ Rd wr rb s (floatS s.data.toList (i, a)).2.1 (floatS s.data.toList (i, a)).2.2 ∧ wr.heap[p]? = some (.cells #[.float .f64 (floatS s.data.toList (i, a)).1] 32 (0, 0)) ∧ wr.heap[q]? = some (.cells #[.float .f64 o2] 32 (0, 0)) ∧ Keeps w.heap.size [rb, p, q] w wr) ∨ (t = .int .i64 2 ∧ TwoPost rb s (i, a) p q w (.returned (.tuple #[])) wr)) (fun t _ => 2 - (intOf t).toNat)
  case atStart => exact .inl ⟨rfl, rfl⟩
  case round =>
    rcases hrel with ⟨rfl, rfl⟩ | ⟨rfl, hR, hP, hQ, hK⟩ | ⟨rfl, hpost⟩
    · have hsx := sixteen_any rb s i a w H.out hi hs
      generalize hsv : sixteenS s.data.toList (i, a) = sv at hsx
      obtain ⟨n, i', a'⟩ := sv
      have HSV := hid hsv
      have HSX := hid hsx
      clear hsv hsx
      have c1 := cell_of_block H.out 1
      simp at c1
      go_wp2_with fail
      refine HSX.out.mono ?_
      rintro e wq ⟨rfl, hR, hK⟩
      have bt : wq.heap[p]? = some (.cells #[.float .f64 o1] 32 (0, 0)) := (hK.block p lp (by simpa using hpr)).trans HP.out
      have bq := (hK.block q lq (by simpa using hqr)).trans HQ.out
      have kt := cell_of_block bt 0
      have ft := free_of_block bt 0
      simp at kt
      have hszq := hK.size
      have hszm : w.heap.size ≤ w.heap.size := (Keeps.refl w.heap.size [rb, p, q] w).size
      haveI : Has wq p := ⟨lt_of_block bt⟩
      have KK := hid ((Keeps.refl w.heap.size [rb, p, q] w).trans (hK.mono hszm (fun k _ hk => by simp at hk ⊢; exact Or.inl hk)))
      have HRR := hid hR
      have BT := hid bt
      have BQ := hid bq
      clear hR hK bt bq
      by_cases hb : bitsS n = n
      · have hb' : ((bitsS n : Int) != (n : Int)) = false := by rw [hb]; simp
        have HB := hid hb
        clear hb
        go_wp2_with (first | (go_at_call 208; ((with_reducible refine (from_any n _).mono ?_); rintro e w' ⟨rfl, rfl⟩)) | (go_at_call 98; ((with_reducible refine (bits_any n _).mono ?_); rintro e w' ⟨rfl, rfl⟩)))
        go_roundw
        case rel =>
          have ef : floatS s.data.toList (i, a) = (n, (i', a')) := by rw [float_st _ _ _ _ _ HSV.out, if_pos HB.out]
          refine .inr (.inl ⟨by rfl, by rw [ef]; exact (block_ne _ _ _ _ _ (Ne.symm hpr)).trans HRR.out, by rw [ef]; exact set_of_block BT.out 0 _, (block_ne _ _ _ _ _ (Ne.symm hpq)).trans BQ.out, KK.out.set (Or.inl (by simp)) _ _⟩)
        case measure => simp [intOf]
      · have hb' : ((bitsS n : Int) != (n : Int)) = true := by simp; omega
        have HB := hid hb
        clear hb
        go_wp2_with (first | (go_at_call 208; ((with_reducible refine (from_any n _).mono ?_); rintro e w' ⟨rfl, rfl⟩)) | (go_at_call 98; ((with_reducible refine (bits_any n _).mono ?_); rintro e w' ⟨rfl, rfl⟩)))
        refine (wrong_any rb s i' a' i _ ((block_ne _ _ _ _ _ (Ne.symm hpr)).trans HRR.out)).mono ?_
        rintro e wq2 ⟨rfl, hR2, hK2⟩
        have HR2 := hid hR2
        have hbt := hK2.block p (by rw [World.size_setCell]; exact lt_of_block BT.out) (by simpa using hpr)
        have hbq := hK2.block q (by rw [World.size_setCell]; exact lt_of_block BQ.out) (by simpa using hqr)
        have HK2 := hid (hK2.mono (B' := w.heap.size) (by rw [World.size_setCell]; omega) (fun k _ h => h))
        have HBT := hid hbt
        have HBQ := hid hbq
        clear hR2 hK2 hbt hbq
        go_wp2_with fail
        go_roundw
        case rel =>
          have ef : floatS s.data.toList (i, a) = (n, wrongS i (i', a')) := by rw [float_st _ _ _ _ _ HSV.out, if_neg HB.out]
          refine .inr (.inl ⟨by rfl, by
              rw [ef]
              unfold wrongS
              by_cases ha : a' < 0
              · have := HR2.out; rw [if_pos ha] at this; simpa [ha] using this
              · have := HR2.out; rw [if_neg ha] at this; simpa [ha] using this, HBT.out.trans (by rw [ef]; exact set_of_block BT.out 0 _), HBQ.out.trans ((block_ne _ _ _ _ _ (Ne.symm hpq)).trans BQ.out), (KK.out.set (Or.inl (by simp)) _ _).trans (HK2.out.mono (Nat.le_refl _) (fun k _ hk => by simp at hk ⊢; exact Or.inl hk))⟩)
        case measure => simp [intOf]
    · have k1 : wr.cell? ⟨g, 1, none⟩ = some (.pointer (some ⟨q, 0, none⟩)) := (hK.cell (q := ⟨g, 1, none⟩) lg (by simp [hg, hgp, hgq])).trans hc1
      have hle := float_le s.data.toList (i, a) (by rw [size_list]; exact hi)
      rw [size_list] at hle
      have hwr := hK.size
      have HRW := hid hR
      have HPW := hid hP
      have HQW := hid hQ
      have HKW := hid hK
      clear hR hP hQ hK
      go_wp2_with fail
      refine (must_blank rb s (floatS s.data.toList (i, a)).2 wr.heap.size 1 _ (HRW.out.alloc _) hle hs (by omega) (by simp [go_sem, blank])).mono ?_
      rintro e wm ⟨rfl, hRm, hKm⟩
      have hle2 := must_le s.data.toList [[32]] (floatS s.data.toList (i, a)).2 (by rw [size_list]; exact hle)
      rw [size_list] at hle2
      generalize hsm : mustS s.data.toList [[32]] (floatS s.data.toList (i, a)).2 = sm at hRm hle2
      obtain ⟨i2, a2⟩ := sm
      have EM := hid hsm
      have hi2 : i2 ≤ s.size := hle2
      clear hsm hle2
      have hpm : wm.heap[p]? = some (.cells #[.float .f64 (floatS s.data.toList (i, a)).1] 32 (0, 0)) := (hKm.block p (by simp; omega) (by simpa using hpr)).trans ((Below.heap_alloc _ _ _ (by omega)).trans HPW.out)
      have hqm : wm.heap[q]? = some (.cells #[.float .f64 o2] 32 (0, 0)) := (hKm.block q (by simp; omega) (by simpa using hqr)).trans ((Below.heap_alloc _ _ _ (by omega)).trans HQW.out)
      have lpm := lt_of_block hpm
      have lqm := lt_of_block hqm
      have HPM := hid hpm
      have HQM := hid hqm
      have HRM := hid (show Rd wm rb s i2 a2 from hRm)
      have HK0 : Hid (Keeps w.heap.size [rb, p, q] w wm) := hid ((HKW.out.alloc hwr _).trans (hKm.mono (by simp; omega) (fun k _ hk => by simp at hk ⊢; exact Or.inl hk)))
      clear hpm hqm hRm hKm
      have hsx := sixteen_any rb s i2 a2 wm HRM.out hi2 hs
      generalize hsv : sixteenS s.data.toList (i2, a2) = sv at hsx
      obtain ⟨n, i', a'⟩ := sv
      have HSV := hid hsv
      have HSX := hid hsx
      clear hsv hsx
      have c1 := cell_of_block HRM.out 1
      simp at c1
      go_wp2_with fail
      refine HSX.out.mono ?_
      rintro e wq ⟨rfl, hR, hK⟩
      have bt : wq.heap[q]? = some (.cells #[.float .f64 o2] 32 (0, 0)) := (hK.block q lqm (by simpa using hqr)).trans HQM.out
      have bq := (hK.block p lpm (by simpa using hpr)).trans HPM.out
      have kt := cell_of_block bt 0
      have ft := free_of_block bt 0
      simp at kt
      have hszq := hK.size
      have hszm : w.heap.size ≤ wm.heap.size := HK0.out.size
      haveI : Has wq q := ⟨lt_of_block bt⟩
      have KK := hid (HK0.out.trans (hK.mono hszm (fun k _ hk => by simp at hk ⊢; exact Or.inl hk)))
      have HRR := hid hR
      have BT := hid bt
      have BQ := hid bq
      clear hR hK bt bq
      by_cases hb : bitsS n = n
      · have hb' : ((bitsS n : Int) != (n : Int)) = false := by rw [hb]; simp
        have HB := hid hb
        clear hb
        go_wp2_with (first | (go_at_call 208; ((with_reducible refine (from_any n _).mono ?_); rintro e w' ⟨rfl, rfl⟩)) | (go_at_call 98; ((with_reducible refine (bits_any n _).mono ?_); rintro e w' ⟨rfl, rfl⟩)))
        go_roundw
        case rel =>
          have ef : floatS s.data.toList (i2, a2) = (n, (i', a')) := by rw [float_st _ _ _ _ _ HSV.out, if_pos HB.out]
          have en : numS s.data.toList (i, a) = (((floatS s.data.toList (i, a)).1, n), (floatS s.data.toList (i2, a2)).2) := by
            unfold numS
            simp only []
            rw [show mustS s.data.toList [[32]] (floatS s.data.toList (i, a)).2 = (i2, a2) from EM.out, ef]
          refine .inr (.inr ⟨by rfl, ?_⟩)
          unfold TwoPost
          rw [en]
          refine ⟨rfl, by rw [ef]; exact (block_ne _ _ _ _ _ (Ne.symm hqr)).trans HRR.out, (block_ne _ _ _ _ _ (Ne.symm (Ne.symm hpq))).trans BQ.out, set_of_block BT.out 0 _, KK.out.set (Or.inl (by simp)) _ _⟩
        case measure => simp [intOf]
      · have hb' : ((bitsS n : Int) != (n : Int)) = true := by simp; omega
        have HB := hid hb
        clear hb
        go_wp2_with (first | (go_at_call 208; ((with_reducible refine (from_any n _).mono ?_); rintro e w' ⟨rfl, rfl⟩)) | (go_at_call 98; ((with_reducible refine (bits_any n _).mono ?_); rintro e w' ⟨rfl, rfl⟩)))
        refine (wrong_any rb s i' a' i2 _ ((block_ne _ _ _ _ _ (Ne.symm hqr)).trans HRR.out)).mono ?_
        rintro e wq2 ⟨rfl, hR2, hK2⟩
        have HR2 := hid hR2
        have hbt := hK2.block q (by rw [World.size_setCell]; exact lt_of_block BT.out) (by simpa using hqr)
        have hbq := hK2.block p (by rw [World.size_setCell]; exact lt_of_block BQ.out) (by simpa using hpr)
        have HK2 := hid (hK2.mono (B' := w.heap.size) (by rw [World.size_setCell]; omega) (fun k _ h => h))
        have HBT := hid hbt
        have HBQ := hid hbq
        clear hR2 hK2 hbt hbq
        go_wp2_with fail
        go_roundw
        case rel =>
          have ef : floatS s.data.toList (i2, a2) = (n, wrongS i2 (i', a')) := by rw [float_st _ _ _ _ _ HSV.out, if_neg HB.out]
          have en : numS s.data.toList (i, a) = (((floatS s.data.toList (i, a)).1, n), (floatS s.data.toList (i2, a2)).2) := by
            unfold numS
            simp only []
            rw [show mustS s.data.toList [[32]] (floatS s.data.toList (i, a)).2 = (i2, a2) from EM.out, ef]
          refine .inr (.inr ⟨by rfl, ?_⟩)
          unfold TwoPost
          rw [en]
          refine ⟨rfl, by
              rw [ef]
              unfold wrongS
              by_cases ha : a' < 0
              · have := HR2.out; rw [if_pos ha] at this; simpa [ha] using this
              · have := HR2.out; rw [if_neg ha] at this; simpa [ha] using this, HBQ.out.trans ((block_ne _ _ _ _ _ (Ne.symm (Ne.symm hpq))).trans BQ.out), HBT.out.trans (set_of_block BT.out 0 _), (KK.out.set (Or.inl (by simp)) _ _).trans (HK2.out.mono (Nat.le_refl _) (fun k _ hk => by simp at hk ⊢; exact Or.inl hk))⟩
        case measure => simp [intOf]
    · have HPP := hid hpost
      clear hpost
      go_wp2_with fail
      go_end0
      exact HPP.out
end
section
open Go.RowKit


theorem Tryz.info119 : (Tryz.prog.info? 276).map (fun i => (i.zero, i.size, i.bytes)) = some (some (.pointer none), 1, 8) := by kernel_rfl
theorem app_nil (g : Nat) (w : World) : (Builtin.append_ #[291, 291] 291 #[.slice (some ⟨g, 0, none⟩) 2 2, .slice none 0 0]).run Tryz.prog w = .ok (.slice (some ⟨g, 0, none⟩) 2 2) w := by kernel_rfl
set_option maxRecDepth 100000 in
set_option maxHeartbeats 4000000 in
/-- A number: the target's complex cell has turned. -/
theorem number_any (rb : Nat) (s : ByteArray) (i : Nat) (a : Int) (tb tq : Nat) (old : Value) (w : World) (h : Rd w rb s i a) (hi : i ≤ s.size) (hs : s.size ≤ 70000) (htr : tb ≠ rb)
    (hct : w.cell? ⟨tb, tq, none⟩ = some old) (hft : w.frozen? ⟨tb, tq, none⟩ = false) :
    Calls Tryz.prog 191 #[.pointer (some ⟨rb, 0, none⟩), .pointer (some ⟨tb, tq, none⟩), .slice none 0 0] w fun e w' =>
      e = .returned (.tuple #[]) ∧ Rd w' rb s (numS s.data.toList (i, a)).2.1 (numS s.data.toList (i, a)).2.2 ∧
        w'.heap[tb]? = (w.setCell ⟨tb, tq, none⟩ (.complex .f64 (numS s.data.toList (i, a)).1.1 (numS s.data.toList (i, a)).1.2)).heap[tb]? ∧ Keeps w.heap.size [rb, tb] w w' := by
  have lrb := lt_of_block h
  have ltb := World.block_lt_of_cell? _ _ hct
  haveI : Has w rb := ⟨lrb⟩
  haveI : Has w tb := ⟨ltb⟩
  have H := hid h
  have CT := hid hct
  have FT := hid hft
  clear h hct hft
  obtain ⟨i0, hi0, hz0, hz1, hz2⟩ := info_parts Tryz.info119
  have happ := app_nil
  go_enter Tryz.func191, Tryz.ntmps191
  go_wp2_with fail
  refine (floats_two rb s i a (w.heap.size + 1 + 1) w.heap.size (w.heap.size + 1) 2 0 0 _ (((H.out.alloc _).alloc _).alloc _) hi hs (by omega) (by omega) (by omega) (by omega) (by omega) (by omega) ?_ ?_ ?_ ?_).mono ?_
  · simp [go_sem]
  · simp [go_sem]
  · simp only [block_alloc', block_at]
  · simp only [block_alloc', block_at]
  rintro e wq ⟨rfl, hR, hP, hQ, hK⟩
  have hb0 : tb < w.heap.size := ltb
  have bt : wq.heap[tb]? = w.heap[tb]? := (hK.block tb (by simp; omega) (by simp; omega)).trans (by simp only [block_alloc'])
  have ct : wq.cell? ⟨tb, tq, none⟩ = some old := (World.cell?_of_block (w := w) bt).trans CT.out
  have ft : wq.frozen? ⟨tb, tq, none⟩ = false := by
    have : wq.frozen? ⟨tb, tq, none⟩ = w.frozen? ⟨tb, tq, none⟩ := by simp only [World.frozen?, bt]
    rw [this]; exact FT.out
  have x0 := cell_of_block hP 0
  have y0 := cell_of_block hQ 0
  simp at x0 y0
  have hK1 : Keeps w.heap.size [rb, tb] w wq := Keeps.trans ((((Keeps.refl _ _ _).alloc (Nat.le_refl _) _).alloc (by simp) _).alloc (by simp; omega) _) (hK.mono (by simp; omega) (fun k hk h => by simp at h ⊢; omega))
  have HRR := hid hR
  have HK1 := hid hK1
  have BT := hid bt
  clear hR hP hQ hK hK1 bt
  go_wp2_with fail
  go_end0
  exact ⟨rfl, (block_ne _ _ _ _ _ (Ne.symm htr)).trans HRR.out, set_same BT.out _ _, HK1.out.set (Or.inl (by simp)) _ _⟩
end
section
open Go.RowKit


theorem decV_mono (d : By) (k : Nat) : decV (d.take k) ≤ decV d := by
  have key : ∀ (r : By) (n : Nat), n ≤ r.foldl (fun n c => 10 * n + (c.toNat - 48)) n := by
    intro r
    induction r with
    | nil => intro n; exact Nat.le_refl _
    | cons c r ih => intro n; exact Nat.le_trans (show n ≤ 10 * n + (c.toNat - 48) by omega) (ih _)
  have h : decV d = (d.drop k).foldl (fun n c => 10 * n + (c.toNat - 48)) (decV (d.take k)) := by
    unfold decV
    rw [← List.foldl_append, List.take_append_drop]
  rw [h]
  exact key _ _
theorem isDig_iff (c : UInt8) : isDig c = true ↔ 48 ≤ c.toNat ∧ c.toNat ≤ 57 := by
  unfold isDig
  simp [UInt8.le_iff_toNat_le]
set_option maxHeartbeats 8000000 in
set_option maxRecDepth 100000 in
/-- internal/strconv.ParseUint of decimal digits, at 63 bits. -/
theorem iparse63 (t : ByteArray) (hsz0 : 0 < t.size) (hsz : t.size ≤ 70000) (hh : ∀ c ∈ t.data.toList, isDig c = true) (w : World) :
    Calls Tryz.prog 203 #[.string t, .int .i64 10, .int .i64 63] w fun e w' => e = .returned (if decV t.data.toList < 9223372036854775808 then .tuple #[.int .u64 (decV t.data.toList), .nilIface] else .tuple #[.int .u64 9223372036854775807, .iface 261 (.int .i64 1)]) ∧ Below w.heap.size w w' := by
  have hemp : t.toList.isEmpty = false := by
    rw [← decide_eq_emptyBytes]
    exact decide_eq_false (fun h => by rw [h] at hsz0; exact absurd hsz0 (by decide))
  have hcv := Lib.run_convert_string_bytes (P := Tryz.prog) w 9 22 5 t (u := .string) Tryz.underlying9 Tryz.underlying22 Tryz.underlying5
  have hB : ∀ j, j < t.size → (Lib.bytesWorld w 5 t).cell? ⟨w.heap.size, j, none⟩ = some (.int .u8 (t.data.toList.getD j 0).toNat) := fun j hj => Lib.bytesWorld_cell w 5 t j hj
  have hbel : Below w.heap.size w (Lib.bytesWorld w 5 t) := ⟨rfl, rfl, rfl, by rw [Lib.bytesWorld_size]; omega, fun j hj => Lib.bytesWorld_at_old w 5 t j hj⟩
  obtain ⟨W1, hW1⟩ : ∃ W1, W1 = Lib.bytesWorld w 5 t := ⟨_, rfl⟩
  rw [← hW1] at hcv hB hbel
  clear hW1
  obtain ⟨bs, hL⟩ : ∃ bs, bs = t.data.toList := ⟨_, rfl⟩
  have hLn : bs.length = t.size := by rw [hL]; simp
  rw [← hL] at hB hh ⊢
  clear hL
  have hmv : IntKind.u64.wrap (9223372036854775808 - 1) = 9223372036854775807 := by
    rw [IntKind.wrap_u64]
    decide
  obtain ⟨R, hR⟩ : ∃ R : Value, R = (if decV bs < 9223372036854775808 then .tuple #[.int .u64 (decV bs), .nilIface] else .tuple #[.int .u64 9223372036854775807, .iface 261 (.int .i64 1)]) := ⟨_, rfl⟩
  rw [← hR]
  have HRV := hid hR
  clear hR
  have HB := hid hB
  have HH := hid hh
  have HBEL := hid hbel
  have HLN := hid hLn
  clear hB hh hbel hLn
  go_enter Tryz.func203, Tryz.ntmps203
  go_wp2
  go_loop [12, 13, 101] (fun vu vn vi => ∃ (k : Nat) (a : Int), vu = .bool false ∧ vn = .int .u64 a ∧ vi = .int .i64 k ∧ k ≤ t.size ∧ Hid (a = ((decV (bs.take k) : Nat) : Int) ∧ decV (bs.take k) < 9223372036854775808)) (fun _ _ vi => t.size - (intOf vi).toNat)
  case atStart => exact ⟨0, 0, rfl, rfl, rfl, by omega, hid ⟨rfl, by rw [List.take_zero]; decide⟩⟩
  case round =>
    obtain ⟨k, a, rfl, rfl, rfl, hk, hha⟩ := hrel
    obtain ⟨ha, hacc⟩ := hha.out
    clear hha
    have ha0 : 0 ≤ a := by omega
    have ha1 : a < 9223372036854775808 := by omega
    by_cases hkn : k < t.size
    · have hc := HB.out k hkn
      have hlen := HLN.out
      have hx := HH.out (bs.getD k 0) (by rw [List.getD_eq_getElem?_getD, List.getElem?_eq_getElem (by omega)]; simp)
      have hs := take_snoc' bs k (by omega)
      have hmono := decV_mono bs (k + 1)
      rw [hs, decV_snoc] at hmono
      have HS := hid hs
      clear hs hlen
      generalize hcx : bs.getD k 0 = c at hc hx HS hmono
      clear hcx
      have hc256 : c.toNat < 256 := c.toNat_lt
      rw [isDig_iff] at hx
      obtain ⟨h1, h2⟩ := hx
      by_cases hD : 10 * decV (bs.take k) + (c.toNat - 48) < 9223372036854775808
      · have HN : Hid (a * 10 + ((c.toNat : Int) - 48) = ((decV (bs.take (k + 1)) : Nat) : Int) ∧ decV (bs.take (k + 1)) < 9223372036854775808) := by
          rw [HS.out, decV_snoc]
          exact hid ⟨by omega, hD⟩
        have icut : a < 1844674407370955162 := by omega
        have iov : a * 10 + ((c.toNat : Int) - 48) ≤ 9223372036854775807 := by omega
        clear hmono hD ha hacc
        go_wp2
        exact ⟨⟨k + 1, _, rfl, rfl, by rfl, by omega, HN⟩, by simp [intOf]; omega⟩
      · have hF : ¬ decV bs < 9223372036854775808 := by omega
        have HF := hid hF
        clear hF
        by_cases hcut : 1844674407370955162 ≤ a
        · clear hmono hD ha hacc
          go_wp2
          go_ret2
          exact ⟨by rw [HRV.out, if_neg HF.out]; rfl, HBEL.out⟩
        · by_cases hov : 18446744073709551616 ≤ a * 10 + ((c.toNat : Int) - 48)
          · have hwr : IntKind.u64.wrap (a * 10 + ((c.toNat : Int) - 48)) = a * 10 + ((c.toNat : Int) - 48) - 18446744073709551616 := by
              rw [IntKind.wrap_u64]
              omega
            have icut : a < 1844674407370955162 := by omega
            clear hmono hD ha hacc hcut
            go_wp2
            go_ret2
            exact ⟨by rw [HRV.out, if_neg HF.out]; rfl, HBEL.out⟩
          · have icut : a < 1844674407370955162 := by omega
            have i1 : a * 10 + ((c.toNat : Int) - 48) < 18446744073709551616 := by omega
            have i2 : 9223372036854775807 < a * 10 + ((c.toNat : Int) - 48) := by omega
            clear hmono hD ha hacc hcut hov
            go_wp2
            go_ret2
            exact ⟨by rw [HRV.out, if_neg HF.out]; rfl, HBEL.out⟩
    · obtain rfl : k = t.size := by omega
      have hlen := HLN.out
      rw [List.take_of_length_le (by omega)] at ha hacc
      have HF := hid ha
      have HA := hid hacc
      clear ha hacc hlen
      go_wp2
      go_ret2
      exact ⟨by rw [HRV.out, if_pos HA.out, HF.out]; rfl, HBEL.out⟩
end
section
open Go.RowKit

/-- The shortest row of sixteens. -/
def hexM (n : Nat) : By := if n < 16 then [hexC n] else hexM (n / 16) ++ [hexC (n % 16)]
theorem hexW_len : ∀ (k n : Nat), (hexW k n).length = k := by
  intro k
  induction k with
  | zero => intro n; rfl
  | succ k ih => intro n; simp [hexW, ih]
theorem hexW_zero : ∀ (k : Nat), hexW k 0 = List.replicate k 48 := by
  intro k
  induction k with
  | zero => rfl
  | succ k ih =>
    rw [hexW, Nat.zero_div, Nat.zero_mod, ih, List.replicate_succ']
    rfl
theorem hexM_pad : ∀ (k n : Nat), 0 < k → n < 16 ^ k → (hexM n).length ≤ k ∧ List.replicate (k - (hexM n).length) 48 ++ hexM n = hexW k n := by
  intro k
  induction k with
  | zero => intro n h; omega
  | succ k ih =>
    intro n _ hn
    rw [hexM]
    by_cases h : n < 16
    · rw [if_pos h, hexW, show n / 16 = 0 by omega, hexW_zero, Nat.mod_eq_of_lt h]
      simp
    · rw [if_neg h, hexW]
      have hk : 0 < k := by
        rcases Nat.eq_zero_or_pos k with rfl | h'
        · simp at hn; omega
        · exact h'
      obtain ⟨h1, h2⟩ := ih (n / 16) hk (by rw [Nat.pow_succ] at hn; omega)
      simp only [List.length_append, List.length_singleton]
      refine ⟨by omega, ?_⟩
      rw [← List.append_assoc, show k + 1 - ((hexM (n / 16)).length + 1) = k - (hexM (n / 16)).length by omega, h2]
theorem hexM_lt (n : Nat) (h : n < 16) : hexM n = [hexC n] := by rw [hexM, if_pos h]
theorem hexM_ge (n : Nat) (h : ¬ n < 16) : hexM n = hexM (n / 16) ++ [hexC (n % 16)] := by rw [hexM, if_neg h]

theorem take_snocJ (l : By) (k : Nat) (h : k < l.length) : l.take (k + 1) = l.take k ++ [l.getD k 0] := by
  rw [List.take_succ_eq_append_getElem h, List.getD_eq_getElem?_getD, List.getElem?_eq_getElem h]
  rfl
def sumF (n : Nat) (c : UInt8) : Nat := ((n ^^^ c.toNat) * 1099511628211) % 18446744073709551616
theorem sumS_eq (l : By) : sumS l = l.foldl sumF 14695981039346656037 := rfl
theorem sumF_lt (n : Nat) (c : UInt8) : sumF n c < 18446744073709551616 := Nat.mod_lt _ (by decide)
theorem sum_lt (l : By) : l.foldl sumF 14695981039346656037 < 18446744073709551616 := by
  rcases List.eq_nil_or_concat l with rfl | ⟨l', c, rfl⟩
  · show (14695981039346656037 : Nat) < 18446744073709551616
    omega
  · rw [List.concat_eq_append, List.foldl_append, List.foldl_cons, List.foldl_nil]; exact sumF_lt _ _
set_option maxHeartbeats 4000000 in
set_option maxRecDepth 100000 in
theorem sum_any (t : ByteArray) (hsz : t.size ≤ 10000000) (w : World) :
    Calls Tryz.prog 100 #[.string t] w fun e w' => e = .returned (.int .u64 (sumS t.data.toList)) ∧ Below w.heap.size w w' := by
  have hcv := Lib.run_convert_string_bytes (P := Tryz.prog) w 9 22 5 t (u := .string) Tryz.underlying9 Tryz.underlying22 Tryz.underlying5
  have hB : ∀ j, j < t.size → (Lib.bytesWorld w 5 t).cell? ⟨w.heap.size, j, none⟩ = some (.int .u8 (t.data.toList.getD j 0).toNat) := fun j hj => Lib.bytesWorld_cell w 5 t j hj
  have hbel : Below w.heap.size w (Lib.bytesWorld w 5 t) := ⟨rfl, rfl, rfl, by rw [Lib.bytesWorld_size]; omega, fun j hj => Lib.bytesWorld_at_old w 5 t j hj⟩
  obtain ⟨W1, hW1⟩ : ∃ W1, W1 = Lib.bytesWorld w 5 t := ⟨_, rfl⟩
  rw [← hW1] at hcv hB hbel
  clear hW1
  rw [sumS_eq]
  obtain ⟨bs, hL⟩ : ∃ bs, bs = t.data.toList := ⟨_, rfl⟩
  have hLn : bs.length = t.size := by rw [hL]; simp
  rw [← hL] at hB ⊢
  clear hL
  have HB := hid hB
  have HBEL := hid hbel
  have HLN := hid hLn
  clear hB hbel hLn
  go_enter Tryz.func100, Tryz.ntmps100
  go_wp2
  go_loop [3, 9] (fun vn vi => ∃ (k a : Nat), vn = .int .u64 a ∧ vi = .int .i64 k ∧ k ≤ t.size ∧ Hid (a = (bs.take k).foldl sumF 14695981039346656037)) (fun _ vi => t.size - (intOf vi).toNat)
  case atStart => exact ⟨0, 14695981039346656037, rfl, rfl, by omega, hid (by rw [List.take_zero, List.foldl_nil])⟩
  case round =>
    obtain ⟨k, a, rfl, rfl, hk, hha⟩ := hrel
    by_cases hkn : k < t.size
    · have hc := HB.out k hkn
      have hlen := HLN.out
      have ha := sum_lt (bs.take k)
      rw [← hha.out] at ha
      have hs := take_snocJ bs k (by omega)
      generalize hcx : bs.getD k 0 = c at hc hs
      have hx := u64_xor_nat a c.toNat ha (by have := c.toNat_lt; omega)
      have hm : IntKind.u64.wrap (((a ^^^ c.toNat : Nat) : Int) * 1099511628211) = ((sumF a c : Nat) : Int) := by
        rw [IntKind.wrap_u64]
        unfold sumF
        omega
      have HN : Hid (sumF a c = (bs.take (k + 1)).foldl sumF 14695981039346656037) := by
        rw [hs, List.foldl_append, ← hha.out, List.foldl_cons, List.foldl_nil]; exact hid (Eq.refl (sumF a c))
      have hw : IntKind.u64.wrap (c.toNat : Int) = (c.toNat : Int) := by rw [IntKind.wrap_u64]; have := c.toNat_lt; omega
      clear hs hcx hlen hha
      go_wp2
      exact ⟨⟨k + 1, sumF a c, rfl, by rfl, by omega, HN⟩, by simp [intOf]; omega⟩
    · obtain rfl : k = t.size := by omega
      have hlen := HLN.out
      have hf := hha.out
      rw [List.take_of_length_le (by omega)] at hf
      have HF := hid hf
      clear hf hlen hha
      go_wp2
      go_ret
      exact ⟨by rw [HF.out]; rfl, HBEL.out⟩
theorem fault_any (c p : Int) (w : World) :
    Calls Tryz.prog 159 #[.int .i64 c, .int .i64 p] w fun e w' => e = .returned (.iface 93 (.pointer (some ⟨w.heap.size, 0, none⟩))) ∧ w' = w.alloc (.cells #[.int .i64 c, .int .i64 p] 58) := by
  go_enter Tryz.func159, Tryz.ntmps159
  go_wp2
  go_ret
  exact ⟨rfl, rfl⟩
end
section
open Go.RowKit


/-- What the library's variables hold. -/
structure Vars (w : World) : Prop where
  synt : ∃ tp p, w.cell? ⟨4, 0, none⟩ = some (.iface tp p)
  rang : ∃ tp p, w.cell? ⟨5, 0, none⟩ = some (.iface tp p)
  dbj : w.cell? ⟨7, 15, none⟩ = some (.int .u8 4)
  tab : w.var? Tryz.prog "internal/strconv.uint64pow10" = some (Lib.pow10Tab.map fun z => Value.int .u64 z).toArray
theorem tab_named : Tryz.prog.globalNamed "internal/strconv.uint64pow10" = some 2 := by kernel_rfl
theorem Vars.keep {B : Nat} {S : List Nat} {w w' : World} (V : Vars w) (K : Keeps B S w w') (hB : 10 ≤ B) (hS : ∀ k ∈ S, 10 ≤ k) : Vars w' := by
  obtain ⟨⟨a, b, h1⟩, ⟨c, e, h2⟩, h3, h4⟩ := V
  have hk : ∀ k, k < 10 → w'.heap[k]? = w.heap[k]? := fun k hk => K.block k (by omega) (fun h => by have := hS _ h; omega)
  have hc : ∀ k o, k < 10 → w'.cell? ⟨k, o, none⟩ = w.cell? ⟨k, o, none⟩ := fun k o h => by simp only [World.cell?, hk k h]
  refine ⟨⟨a, b, (hc 4 0 (by omega)).trans h1⟩, ⟨c, e, (hc 5 0 (by omega)).trans h2⟩, (hc 7 15 (by omega)).trans h3, ?_⟩
  rw [← h4]
  simp only [World.var?, tab_named, Option.bind_some, hk 2 (by omega)]
theorem Vars.tabIs {w : World} (V : Vars w) : Lib.TabIs Tryz.prog w "internal/strconv.uint64pow10" .u64 Lib.pow10Tab := V.tab
set_option maxHeartbeats 4000000 in
set_option maxRecDepth 100000 in
theorem pow2_16 (w : World) : Calls Tryz.prog 175 #[.int .i64 16] w fun e w' => e = .returned (.bool true) ∧ w' = w := by
  have h : bits .and .i64 16 15 = 0 := by decide
  go_enter Tryz.func175, Tryz.ntmps175
  go_wp2
  go_ret
  exact ⟨rfl, rfl⟩
set_option maxHeartbeats 4000000 in
set_option maxRecDepth 100000 in
theorem zeros64_16 (w : World) (V : Vars w) : Calls Tryz.prog 200 #[.int .u64 16] w fun e w' => e = .returned (.int .i64 4) ∧ w' = w := by
  have h1 : IntKind.u64.wrap (-16) = 18446744073709551600 := by rw [IntKind.wrap_u64]; decide
  have h2 : bits .and .u64 16 18446744073709551600 = 16 := by decide
  have h3 : IntKind.u64.wrap 4573923408821661840 = 4573923408821661840 := by rw [IntKind.wrap_u64]; decide
  have hd := V.dbj
  go_enter Tryz.func200, Tryz.ntmps200
  go_wp2
  go_ret
  exact ⟨rfl, rfl⟩
set_option maxHeartbeats 4000000 in
set_option maxRecDepth 100000 in
theorem zeros_16 (w : World) (V : Vars w) : Calls Tryz.prog 176 #[.int .u64 16] w fun e w' => e = .returned (.int .i64 4) ∧ w' = w := by
  go_enter Tryz.func176, Tryz.ntmps176
  go_wp2_with (go_at_call 200; ((with_reducible refine (zeros64_16 _ V).mono ?_); rintro e w' ⟨rfl, rfl⟩))
  go_ret
  exact ⟨rfl, rfl⟩

def digs : ByteArray := ⟨#[48, 49, 50, 51, 52, 53, 54, 55, 56, 57, 97, 98, 99, 100, 101, 102, 103, 104, 105, 106, 107, 108, 109, 110, 111, 112, 113, 114, 115, 116, 117, 118, 119, 120, 121, 122]⟩
theorem and15 (u : Nat) (h : u < 18446744073709551616) : bits .and .u64 (u : Int) 15 = ((u % 16 : Nat) : Int) := by
  have h1 := u64_and_nat u 15 h (by omega)
  rw [Nat.and_two_pow_sub_one_eq_mod u 4] at h1
  exact h1

/-- The row is written from behind: k sixteens stand, the rest is u. -/
structure Hx (n : Nat) (w : World) (k u : Nat) (l : By) (wr : World) : Prop where
  blk : ∃ cs, wr.heap[w.heap.size]? = some (.cells cs 256 (0, 0)) ∧ cs.size = 65 ∧ ∀ i, i < k → cs[65 - k + i]? = some (.int .u8 (l.getD i 0).toNat)
  len : l.length = k
  le : k ≤ 15
  lt : u < 16 ^ (16 - k)
  eq : hexM n = hexM u ++ l
  keep : Keeps w.heap.size [] w wr
theorem setNew (cs : Array Value) (k : Nat) (l : By) (c : UInt8) (hs : cs.size = 65) (hk : k ≤ 15) (hl : l.length = k) (h : ∀ i, i < k → cs[65 - k + i]? = some (.int .u8 (l.getD i 0).toNat)) :
    ∀ i, i < k + 1 → (cs.setIfInBounds (64 - k) (.int .u8 c.toNat))[65 - (k + 1) + i]? = some (.int .u8 ((c :: l).getD i 0).toNat) := by
  intro i hi
  cases i with
  | zero => rw [show 65 - (k + 1) + 0 = 64 - k by omega, Array.getElem?_setIfInBounds_self_of_lt (by omega)]; rfl
  | succ i =>
    rw [Array.getElem?_setIfInBounds_ne (by omega), show 65 - (k + 1) + (i + 1) = 65 - k + i by omega, h i (by omega)]
    rfl
theorem Hx.step {n : Nat} {w : World} {k u : Nat} {l : By} {wr : World} (h : Hx n w k u l wr) (hu : ¬ u < 16) :
    Hx n w (k + 1) (u / 16) (hexC (u % 16) :: l) (wr.setCell ⟨w.heap.size, 64 - k, none⟩ (.int .u8 (hexC (u % 16)).toNat)) ∧ k ≤ 14 := by
  obtain ⟨⟨cs, hb, hs, hc⟩, hlen, hle, hlt, he, hk⟩ := h
  have h14 : k ≤ 14 := by
    rcases Nat.lt_or_ge k 15 with h | h
    · omega
    · have e1 : 16 - k = 1 := by omega
      rw [e1] at hlt
      omega
  refine ⟨⟨⟨_, set_of_block hb _ _, by simpa using hs, setNew cs k l _ hs hle hlen hc⟩, by simp [hlen], by omega, ?_, ?_, hk.set (Or.inr (Nat.le_refl _)) _ _⟩, h14⟩
  · have e1 : 16 - k = (16 - (k + 1)) + 1 := by omega
    rw [e1, Nat.pow_succ] at hlt
    omega
  · rw [he, hexM_ge u hu]; simp
theorem Hx.fin {n : Nat} {w : World} {k u : Nat} {l : By} {wr : World} (h : Hx n w k u l wr) (hu : u < 16) :
    ∀ j (hj : j < (hexM n).length), (wr.setCell ⟨w.heap.size, 64 - k, none⟩ (.int .u8 (hexC u).toNat)).cell? (Addr.add ⟨w.heap.size, 64 - k, none⟩ j) = some (.int .u8 ((hexM n)[j].toNat : Int)) := by
  obtain ⟨⟨cs, hb, hs, hc⟩, hlen, hle, hlt, he, hk⟩ := h
  have hl : hexM n = hexC u :: l := by rw [he, hexM_lt u hu]; rfl
  intro j hj
  have h1 := setNew cs k l (hexC u) hs hle hlen hc j (by rw [hl] at hj; simp [hlen] at hj; omega)
  have h2 : ((hexC u :: l).getD j 0) = (hexM n)[j] := by
    rw [List.getD_eq_getElem?_getD]
    simp only [← hl, List.getElem?_eq_getElem hj, Option.getD_some]
  rw [h2] at h1
  have ea : Addr.add ⟨w.heap.size, 64 - k, none⟩ j = ⟨w.heap.size, 64 - k + j, none⟩ := by simp [Addr.add]
  rw [ea]
  rw [cell_of_block (set_of_block hb (64 - k) _), show 64 - k + j = 65 - (k + 1) + j by omega]
  exact h1
theorem digs_at (d : Nat) (h : d < 16) : digs.data.toList.getD d 0 = hexC d := by
  have H : ∀ n : Fin 16, digs.data.toList.getD n.1 0 = hexC n.1 := by decide +kernel
  exact H ⟨d, h⟩
theorem slice256 (W : World) (g j : Nat) (hj : j ≤ 64) : (Instr.sliceAt 256 (.pointer (some ⟨g, 0, none⟩)) (some (.int .i64 j)) none none).run Tryz.prog W = .ok (.slice (some ⟨g, j, none⟩) (65 - j) (65 - j)) W := by
  have hal : Tryz.prog.arrayLen 256 = 65 := by simp [Program.arrayLen, Tryz.underlying256]
  have hel : Tryz.prog.elem 256 = 5 := by simp [Program.elem, Tryz.underlying256]
  have hsz : (sizeOf (5 : TypeId)).run Tryz.prog W = .ok 1 W := by kernel_rfl
  rw [run_sliceAt_array_l W 256 ⟨g, 0, none⟩ (by simp [Program.arrayLen, Program.elem, Tryz.underlying256]) .i64 j (by omega) (by rw [hal]; omega), hal, hel, hsz]
  simp only [Result.andThen, slicedAt, Int.toNat_natCast, Nat.mul_one]
  rw [if_neg (by omega)]
  simp [Addr.add]
  omega
theorem digs_get (d : Nat) (h : d < 36) (h16 : d < 16) : digs[d]'h = hexC d := by
  have H : ∀ n : Fin 16, digs[n.1]'(Nat.lt_trans n.2 (by decide)) = hexC n.1 := by decide +kernel
  exact H ⟨d, h16⟩
set_option maxHeartbeats 8000000 in
set_option maxRecDepth 100000 in
theorem format_bits (n : Nat) (hn : n < 18446744073709551616) (w : World) (V : Vars w) (hB : 10 ≤ w.heap.size) :
    Calls Tryz.prog 145 #[.slice none 0 0, .int .u64 n, .int .i64 16, .bool false, .bool false] w fun e w' => e = .returned (.tuple #[.slice none 0 0, .string ⟨(hexM n).toArray⟩]) ∧ Below w.heap.size w w' := by
  go_enter Tryz.func145, Tryz.ntmps145
  go_wp2_with (first | (go_at_call 175; ((with_reducible refine (pow2_16 _).mono ?_); rintro e w' ⟨rfl, rfl⟩)) | (go_at_call 176; ((with_reducible refine (zeros_16 _ (V.keep (Keeps.alloc (Keeps.refl w.heap.size [] _) (Nat.le_refl _) _) hB (by simp))).mono ?_); rintro e w' ⟨rfl, rfl⟩)))
  go_loopw [1, 13] (fun vu vi wr => ∃ (k u : Nat) (l : By), vu = .int .u64 u ∧ vi = .int .i64 (((64 - k : Nat) : Int) + 1) ∧ Hid (Hx n w k u l wr)) (fun vu _ _ => (intOf vu).toNat)
  case atStart =>
    refine ⟨0, n, [], rfl, rfl, hid ⟨⟨Tryz.zeroCells256, by simp only [block_at], by kernel_rfl, fun i hi => by omega⟩, rfl, by omega, by omega, by simp, (Keeps.refl _ _ _).alloc (Nat.le_refl _) _⟩⟩
  case round =>
    obtain ⟨k, u, l, rfl, rfl, hx⟩ := hrel
    obtain ⟨cs, hb, hs, -⟩ := hx.out.blk
    have hle := hx.out.le
    obtain ⟨j, hj⟩ : ∃ j, j = 64 - k := ⟨_, rfl⟩
    obtain ⟨v0, c0⟩ : ∃ v0, wr.cell? ⟨w.heap.size, j, none⟩ = some v0 := ⟨cs[j], by rw [cell_of_block hb]; exact Array.getElem?_eq_getElem (by omega)⟩
    have f0 := free_of_block hb j
    have hjj : j ≤ 64 := by omega
    have hu64 : u < 18446744073709551616 := by
      have := hx.out.lt
      have h2 : 16 ^ (16 - k) ≤ 16 ^ 16 := Nat.pow_le_pow_right (by decide) (by omega)
      have h3 : (16 : Nat) ^ 16 = 18446744073709551616 := by decide
      omega
    have HB := hid hb
    have HS := hid hs
    have HJ := hid hj
    rw [← hj]
    clear hb hj
    by_cases hu : u < 16
    · have hd := digs_get u (by omega) hu
      unfold digs at hd
      have hsl := slice256
      have hfin := hx.out.fin hu
      rw [← HJ.out, ← hd] at hfin
      have hlen : (hexM n).length = k + 1 := by rw [hx.out.eq, hexM_lt u hu]; simp [hx.out.len]
      have hk65 : 65 - j = (hexM n).length := by rw [hlen, HJ.out]; omega
      have hcv := run_convert_bytes_back (P := Tryz.prog) _ 22 9 5 ⟨w.heap.size, j, none⟩ (65 - j) (hexM n) Tryz.underlying22 Tryz.underlying5 Tryz.underlying9 hfin
      rw [← hk65] at hcv
      have KK := hid (Keeps.set (S := []) hx.out.keep (Or.inr (Nat.le_refl _)) j (.int .u8 (hexC u).toNat))
      rw [← hd] at KK
      clear hd hfin hk65 hlen
      go_wp2
      go_ret2
      exact ⟨rfl, KK.out.below⟩
    · have ha := and15 u hu64
      have hd := digs_get (u % 16) (by omega) (by omega)
      obtain ⟨hst, h14⟩ := hx.out.step hu
      rw [← HJ.out] at hst
      rw [← hd] at hst
      unfold digs at hst
      have HST := hid hst
      clear hst hd
      obtain ⟨q, hq⟩ : ∃ q, q = u % 16 := ⟨_, rfl⟩
      rw [← hq] at ha
      have hq16 : q < 16 := by omega
      have HQ := hid hq
      clear hq
      go_wp2
      obtain rfl := HQ.out
      exact ⟨⟨k + 1, u / 16, _, by rfl, by rw [show (((64 - (k + 1) : Nat) : Int) + 1) = (j : Int) by rw [HJ.out]; omega], HST⟩, by simp [intOf]; omega⟩
set_option maxRecDepth 100000 in
theorem format_108 (n : Nat) (hn : n < 18446744073709551616) (w : World) (V : Vars w) (hB : 10 ≤ w.heap.size) :
    Calls Tryz.prog 101 #[.int .u64 n, .int .i64 16] w fun e w' => e = .returned (.string ⟨(hexM n).toArray⟩) ∧ Below w.heap.size w w' := by
  go_enter Tryz.func101, Tryz.ntmps101
  go_wp2_with fail
  refine (format_bits n hn _ V hB).mono ?_
  rintro e wq ⟨rfl, hb⟩
  go_wp2_with fail
  go_ret
  exact ⟨rfl, hb⟩
set_option maxRecDepth 100000 in
theorem format_94 (n : Nat) (hn : n < 18446744073709551616) (w : World) (V : Vars w) (hB : 10 ≤ w.heap.size) :
    Calls Tryz.prog 61 #[.int .u64 n, .int .i64 16] w fun e w' => e = .returned (.string ⟨(hexM n).toArray⟩) ∧ Below w.heap.size w w' := by
  go_enter Tryz.func61, Tryz.ntmps61
  go_wp2_with fail
  refine (format_108 n hn _ V hB).mono ?_
  rintro e wq ⟨rfl, hb⟩
  go_wp2_with fail
  go_ret
  exact ⟨rfl, hb⟩
end
section
open Go.RowKit


theorem decV_fold (r : By) (n : Nat) : n ≤ r.foldl (fun n c => 10 * n + (c.toNat - 48)) n := by
  induction r generalizing n with
  | nil => exact Nat.le_refl _
  | cons c r ih => exact Nat.le_trans (show n ≤ 10 * n + (c.toNat - 48) by omega) (ih _)
theorem parseM_dig (M : Nat) (hM : M < 1844674407370955162) : ∀ (l : By) (acc : Nat), acc ≤ M → (∀ c ∈ l, isDig c = true) →
    Lib.parseUintM M acc l = if l.foldl (fun n c => 10 * n + (c.toNat - 48)) acc ≤ M then .ok (l.foldl (fun n c => 10 * n + (c.toNat - 48)) acc) else .range := by
  intro l
  induction l with
  | nil => intro acc h _; simp [Lib.parseUintM, h]
  | cons c r ih =>
    intro acc h hd
    have hc := (isDig_iff c).1 (hd c (by simp))
    rw [Lib.parseUintM, if_pos hc, if_neg (by omega)]
    have e : acc * 10 + (c.toNat - 48) = 10 * acc + (c.toNat - 48) := by omega
    by_cases hm : M < acc * 10 + (c.toNat - 48)
    · rw [if_pos hm, if_neg]
      have := decV_fold r (10 * acc + (c.toNat - 48))
      simp only [List.foldl_cons]
      omega
    · rw [if_neg hm, ih _ (by omega) (fun x hx => hd x (by simp [hx])), List.foldl_cons, e]
theorem parse8_dig (d : By) (hd : ∀ c ∈ d, isDig c = true) (h : d ≠ []) : Lib.parseUintB 8 d = if decV d < 256 then .ok (decV d) else .range := by
  unfold Lib.parseUintB
  rw [if_neg h, parseM_dig _ (by decide) d 0 (by omega) hd]
  show (if decV d ≤ 255 then Lib.NumEnd.ok (decV d) else .range) = _
  by_cases h2 : decV d < 256
  · rw [if_pos h2, if_pos (by omega)]
  · rw [if_neg h2, if_neg (by omega)]
theorem size_pos_iff (t : ByteArray) : t.data.toList = [] ↔ t.size = 0 := by
  rw [← size_list]; exact List.length_eq_zero_iff.symm
theorem parse_ok (bits : Nat) (hb : bits = 8 ∨ bits = 63) (t : ByteArray) (hsz0 : 0 < t.size) (hsz : t.size ≤ 70000) (hh : ∀ c ∈ t.data.toList, isDig c = true) (hv : decV t.data.toList < 2 ^ bits) (w : World) :
    Calls Tryz.prog 207 #[.string t, .int .i64 10, .int .i64 bits] w fun e w' => e = .returned (.tuple #[.int .u64 (decV t.data.toList), .nilIface]) ∧ Below w.heap.size w w' := by
  rcases hb with rfl | rfl
  · have h := parse8_dig t.data.toList hh (by rw [ne_eq, size_pos_iff]; omega)
    rw [if_pos (by omega)] at h
    refine (Tryz.strconv_ParseUint_10_at8_ok t (by omega) _ h w).mono ?_
    rintro e w' ⟨rfl, hw⟩
    refine ⟨rfl, ?_⟩
    rcases hw with rfl | rfl
    · exact Below.refl _ _
    · exact ⟨rfl, rfl, rfl, by rw [Lib.bytesWorld_size]; omega, fun j hj => Lib.bytesWorld_at_old w 5 t j hj⟩
  · have hI := iparse63 t hsz0 hsz hh w
    rw [if_pos (by omega)] at hI
    have HI := hid hI
    clear hI
    go_enter Tryz.func207, Tryz.ntmps207
    go_wp2_with fail
    refine HI.out.mono ?_
    rintro e wq ⟨rfl, hb⟩
    go_wp2_with fail
    go_ret2
    exact ⟨rfl, hb⟩
theorem parse_bad (bits : Nat) (hb : bits = 8 ∨ bits = 63) (t : ByteArray) (hsz : t.size ≤ 70000) (hh : ∀ c ∈ t.data.toList, isDig c = true) (hv : t.size = 0 ∨ 2 ^ bits ≤ decV t.data.toList) (w : World) (V : Vars w) :
    Calls Tryz.prog 207 #[.string t, .int .i64 10, .int .i64 bits] w fun e w' => (∃ (x : Int) (N : Nat), e = .returned (.tuple #[.int .u64 x, .iface 264 (.pointer (some ⟨N, 0, none⟩))])) ∧ Below w.heap.size w w' := by
  obtain ⟨⟨tp, p, h2⟩, ⟨tp3, p3, h3⟩, -, -⟩ := V
  have L17 : LaysPu.n17 Tryz.prog Tryz.laysPu14_ren := { Tryz.laysPu14 with }
  by_cases h0 : t.size = 0
  · have ht : t = ⟨#[]⟩ := by
      have : t.data.toList = [] := (size_pos_iff t).2 h0
      cases t with | mk d => simp at this; rw [this]
    have hI := Tryz.internal_strconv_ParseUint_empty 10 bits w
    rw [← ht] at hI
    have hT := fun w' (hb : Below w.heap.size w w') => AnyPu.strconv_toError_syntax L17 ⟨#[80, 97, 114, 115, 101, 85, 105, 110, 116]⟩ t 10 bits (.iface tp p) w' (by omega) (((Keeps.of_below (S := []) hb).cell (q := ⟨4, 0, none⟩) (World.block_lt_of_cell? _ _ h2) (by simp)).trans h2) (Or.inr ⟨_, _, rfl⟩)
    have HI := hid hI
    have HT := hid hT
    clear hI hT ht
    go_enter Tryz.func207, Tryz.ntmps207
    go_wp2_with fail
    refine HI.out.mono ?_
    rintro e wq ⟨rfl, rfl⟩
    go_wp2_with fail
    refine (HT.out _ (Below.refl _ _)).mono ?_
    rintro e wq2 ⟨N, rfl, -, -, hb⟩
    go_wp2_with fail
    go_ret2
    exact ⟨⟨_, N, rfl⟩, hb⟩
  · rcases hb with rfl | rfl
    · have h := parse8_dig t.data.toList hh (by rw [ne_eq, size_pos_iff]; omega)
      rw [if_neg (by omega)] at h
      refine (Tryz.strconv_ParseUint_10_at8_range t (by omega) h _ w h3 (Or.inr ⟨_, _, rfl⟩)).mono ?_
      rintro e w' ⟨N, rfl, -, -, hb⟩
      exact ⟨⟨_, N, rfl⟩, hb⟩
    · have hI := iparse63 t (by omega) hsz hh w
      rw [if_neg (by omega)] at hI
      have hT := fun w' (hb : Below w.heap.size w w') => AnyPu.strconv_toError_range L17 ⟨#[80, 97, 114, 115, 101, 85, 105, 110, 116]⟩ t 10 63 (.iface tp3 p3) w' (by omega) (((Keeps.of_below (S := []) hb).cell (q := ⟨5, 0, none⟩) (World.block_lt_of_cell? _ _ h3) (by simp)).trans h3) (Or.inr ⟨_, _, rfl⟩)
      have HI := hid hI
      have HT := hid hT
      clear hI hT
      go_enter Tryz.func207, Tryz.ntmps207
      go_wp2_with fail
      refine HI.out.mono ?_
      rintro e wq ⟨rfl, hb0⟩
      have HB0 := hid hb0
      clear hb0
      go_wp2_with fail
      refine (HT.out _ HB0.out).mono ?_
      rintro e wq2 ⟨N, rfl, -, -, hb⟩
      go_wp2_with fail
      go_ret2
      exact ⟨⟨_, N, rfl⟩, HB0.out.trans (hb.mono HB0.out.size)⟩
/-- The row of ten digits. -/
def decRow : ByteArray := ⟨#[48, 49, 50, 51, 52, 53, 54, 55, 56, 57]⟩
theorem inRow_dec : inRow decRow = isDig := by
  have H : ∀ n : Fin 256, inRow decRow (UInt8.ofNat n.1) = isDig (UInt8.ofNat n.1) := by decide +kernel
  funext c
  have := H ⟨c.toNat, UInt8.toNat_lt c⟩
  simpa using this
set_option maxRecDepth 100000 in
set_option maxHeartbeats 2000000 in
theorem whole_any (bits : Nat) (hb : bits = 8 ∨ bits = 63) (rb : Nat) (s : ByteArray) (i : Nat) (a : Int) (w : World) (h : Rd w rb s i a) (hi : i ≤ s.size) (hs : s.size ≤ 70000) (V : Vars w) (hB : 10 ≤ w.heap.size) (hrb : 10 ≤ rb) :
    Calls Tryz.prog 187 #[.pointer (some ⟨rb, 0, none⟩), .int .i64 bits] w fun e w' => e = .returned (.int .u64 (wholeS s.data.toList bits (i, a)).1) ∧
      Rd w' rb s (wholeS s.data.toList bits (i, a)).2.1 (wholeS s.data.toList bits (i, a)).2.2 ∧ Keeps w.heap.size [rb] w w' := by
  have c0 := cell_of_block h 0
  have c1 := cell_of_block h 1
  simp at c0 c1
  have H := hid h
  clear h
  by_cases ha : a < 0
  · have hd : decide (a < 0) = true := by simpa using ha
    have hrow := inRow_dec
    have hrun := run_any rb s decRow i a s.size w H.out hi hs hs
    rw [hrow] at hrun
    have HRUN := hid hrun
    clear hrun hrow
    unfold wholeS
    rw [if_pos (show (i, a).2 < 0 from ha), size_list]
    show Calls Tryz.prog 187 #[.pointer (some ⟨rb, 0, none⟩), .int .i64 bits] w fun e w' => _
    simp only []
    have hex := extract_run s isDig s.size i
    have hal := run_all s.data.toList isDig s.size i
    have hle := run_le s.data.toList isDig s.size i (by rw [size_list]; exact hi)
    rw [size_list] at hle
    generalize hd2 : runS s.data.toList isDig s.size i = d at HRUN hex hal hle
    generalize s.extract i (i + d.length) = t at HRUN hex
    have htl : t.size = d.length := by rw [← hex]; simp
    have hts : t.size ≤ 70000 := by omega
    clear hd2
    have HAL := hid hal
    have HEX := hid hex
    have HTL := hid htl
    have VV := fun (w1 : World) (K : Keeps w.heap.size [rb] w w1) => V.keep K hB (by simpa using hrb)
    have HV := hid VV
    clear VV V hal hex htl hle
    by_cases hbad : t.size = 0 ∨ 2 ^ bits ≤ decV d
    · have hbw : badWhole d bits = true := by
        unfold badWhole
        rcases hbad with h | h
        · have : d = [] := List.length_eq_zero_iff.1 (by rw [← HTL.out]; exact h)
          simp [this]
        · simp [h]
      have hPB := fun (w1 : World) (V1 : Vars w1) => parse_bad bits hb t hts (by rw [HEX.out]; exact HAL.out) (by rw [HEX.out]; exact hbad) w1 V1
      have HPB := hid hPB
      clear hPB hbad
      rw [if_pos hbw]
      go_enter Tryz.func187, Tryz.ntmps187
      go_wp2_with (go_at_call 188; ((with_reducible refine (ok_any rb s i a _ H.out).mono ?_); rintro e w' ⟨rfl, rfl⟩))
      refine HRUN.out.mono ?_
      rintro e wq ⟨rfl, hR, hK⟩
      have HRR := hid hR
      have HKK := hid hK
      clear hR hK
      go_wp2_with fail
      refine (HPB.out _ (HV.out _ HKK.out)).mono ?_
      rintro e wq2 ⟨⟨x, NN, rfl⟩, hbl⟩
      have R2 := HRR.out.keep (Keeps.of_below (S := []) hbl) (lt_of_block HRR.out) (by simp)
      have K2 := HKK.out.trans ((Keeps.of_below (S := [rb]) hbl).mono HKK.out.size (fun _ _ h => h))
      have HR2 := hid R2
      have HK2 := hid K2
      clear R2 K2 hbl
      go_wp2_with fail
      refine (wrong_any rb s (i + d.length) a i _ HR2.out).mono ?_
      rintro e wq3 ⟨rfl, hR, hK⟩
      rw [if_pos ha] at hR
      have HR3 := hid hR
      have HK3 := hid (HK2.out.trans (hK.mono HK2.out.size (fun _ _ h => h)))
      clear hR hK
      go_wp2_with fail
      go_ret
      exact ⟨rfl, HR3.out, HK3.out⟩
    · have hpos : 0 < t.size := by omega
      have hPO := fun (w1 : World) => parse_ok bits hb t hpos hts (by rw [HEX.out]; exact HAL.out) (by rw [HEX.out]; omega) w1
      rw [HEX.out] at hPO
      have HPO := hid hPO
      have h0 : t[0].toNat = (d.headD 0).toNat := by
        rw [← HEX.out]
        cases t with | mk q => cases q with | mk l => cases l with
          | nil => simp [ByteArray.size] at hpos
          | cons c r => rfl
      have hbw : badWhole d bits = (decide (1 < d.length) && d.headD 0 == 48) := by
        unfold badWhole
        have h1 : d.isEmpty = false := by
          rw [List.isEmpty_eq_false_iff]
          intro e
          have := HTL.out
          rw [e, List.length_nil] at this
          omega
        have h2 : decide (2 ^ bits ≤ decV d) = false := by simp; omega
        rw [h1, h2]
        rfl
      clear hPO hbad
      have h48 : (d.headD 0 == 48) = (((t[0].toNat : Nat) : Int) == 48) := by
        have hu : (d.headD 0 = 48) ↔ (d.headD 0).toNat = 48 := ⟨fun h => by rw [h]; rfl, fun h => UInt8.toNat_inj.1 h⟩
        rw [h0, Bool.eq_iff_iff, beq_iff_eq, beq_iff_eq, hu]
        omega
      have HBW := hid hbw
      have htl2 : decide (1 < d.length) = decide (1 < (t.size : Int)) := by rw [HTL.out]; exact decide_eq_decide.2 (by omega)
      rw [hbw]
      clear hbw h0
      rw [h48, htl2]
      have tail : ∀ (bb : Bool) (wq : World) (R : World → Prop), True := fun _ _ _ => trivial
      clear tail
      by_cases h1 : (1 : Int) < (t.size : Int)
      · have h1' : decide (1 < (t.size : Int)) = true := by simpa using h1
        cases h2 : (((t[0].toNat : Nat) : Int) == 48)
        · rw [h1', show (true && false) = false by rfl]
          go_enter Tryz.func187, Tryz.ntmps187
          go_wp2_with (go_at_call 188; ((with_reducible refine (ok_any rb s i a _ H.out).mono ?_); rintro e w' ⟨rfl, rfl⟩))
          refine HRUN.out.mono ?_
          rintro e wq ⟨rfl, hR, hK⟩
          have HRR := hid hR
          have HKK := hid hK
          clear hR hK
          go_wp2_with fail
          refine (HPO.out _).mono ?_
          rintro e wq2 ⟨rfl, hbl⟩
          have R2 := HRR.out.keep (Keeps.of_below (S := []) hbl) (lt_of_block HRR.out) (by simp)
          have K2 := HKK.out.trans ((Keeps.of_below (S := [rb]) hbl).mono HKK.out.size (fun _ _ h => h))
          have HR2 := hid R2
          have HK2 := hid K2
          clear R2 K2 hbl
          go_wp2_with fail
          go_ret
          exact ⟨rfl, HR2.out, HK2.out⟩
        · rw [h1', show (true && true) = true by rfl]
          go_enter Tryz.func187, Tryz.ntmps187
          go_wp2_with (go_at_call 188; ((with_reducible refine (ok_any rb s i a _ H.out).mono ?_); rintro e w' ⟨rfl, rfl⟩))
          refine HRUN.out.mono ?_
          rintro e wq ⟨rfl, hR, hK⟩
          have HRR := hid hR
          have HKK := hid hK
          clear hR hK
          go_wp2_with fail
          refine (HPO.out _).mono ?_
          rintro e wq2 ⟨rfl, hbl⟩
          have R2 := HRR.out.keep (Keeps.of_below (S := []) hbl) (lt_of_block HRR.out) (by simp)
          have K2 := HKK.out.trans ((Keeps.of_below (S := [rb]) hbl).mono HKK.out.size (fun _ _ h => h))
          have HR2 := hid R2
          have HK2 := hid K2
          clear R2 K2 hbl
          go_wp2_with fail
          refine (wrong_any rb s (i + d.length) a i _ HR2.out).mono ?_
          rintro e wq3 ⟨rfl, hR, hK⟩
          rw [if_pos ha] at hR
          have HR3 := hid hR
          have HK3 := hid (HK2.out.trans (hK.mono HK2.out.size (fun _ _ h => h)))
          clear hR hK
          go_wp2_with fail
          go_ret
          exact ⟨rfl, HR3.out, HK3.out⟩
      · have h1' : decide (1 < (t.size : Int)) = false := by simpa using h1
        rw [h1', show (false && (((t[0].toNat : Nat) : Int) == 48)) = false by rfl]
        go_enter Tryz.func187, Tryz.ntmps187
        go_wp2_with (go_at_call 188; ((with_reducible refine (ok_any rb s i a _ H.out).mono ?_); rintro e w' ⟨rfl, rfl⟩))
        refine HRUN.out.mono ?_
        rintro e wq ⟨rfl, hR, hK⟩
        have HRR := hid hR
        have HKK := hid hK
        clear hR hK
        go_wp2_with fail
        refine (HPO.out _).mono ?_
        rintro e wq2 ⟨rfl, hbl⟩
        have R2 := HRR.out.keep (Keeps.of_below (S := []) hbl) (lt_of_block HRR.out) (by simp)
        have K2 := HKK.out.trans ((Keeps.of_below (S := [rb]) hbl).mono HKK.out.size (fun _ _ h => h))
        have HR2 := hid R2
        have HK2 := hid K2
        clear R2 K2 hbl
        go_wp2_with fail
        go_ret
        exact ⟨rfl, HR2.out, HK2.out⟩
  · have hd : decide (a < 0) = false := by simpa using ha
    unfold wholeS
    rw [if_neg (show ¬ (i, a).2 < 0 from ha)]
    go_enter Tryz.func187, Tryz.ntmps187
    go_wp2_with (go_at_call 188; ((with_reducible refine (ok_any rb s i a _ H.out).mono ?_); rintro e w' ⟨rfl, rfl⟩))
    go_ret
    exact ⟨rfl, H.out, Keeps.refl _ _ _⟩
end
end Go.Proofs.YtmjpfoninpbgiaaGreatDoor
