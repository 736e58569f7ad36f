/- Numbers of the given program's reader. -/
import Derived.Test.YtnagagcgmfkjjaaGreatDoorE
import Derived.Outline
set_option linter.unusedSimpArgs false
set_option linter.unusedVariables false
namespace Go.Proofs.YtnagagcgmfkjjaaGreatDoor
open Go.RowKit

theorem must_le (l : By) : ∀ (ws : List By) (st : St), st.1 ≤ l.length → (mustS l ws st).1 ≤ l.length := by
  intro ws
  induction ws with
  | nil => intro st h; exact h
  | cons x ws ih =>
    intro st h
    by_cases h0 : st.2 < 0
    · rw [mustS, if_pos h0]
      by_cases hw : x.isPrefixOf (l.drop st.1) = true
      · rw [if_pos hw]
        refine ih _ ?_
        obtain ⟨t, ht⟩ := List.isPrefixOf_iff_prefix.1 hw
        have : (l.drop st.1).length = x.length + t.length := by rw [← ht]; simp
        simp at this
        show st.1 + x.length ≤ l.length
        omega
      · rw [if_neg hw]; exact h
    · rw [must_not l _ _ h0]; exact h
theorem sixteen_le (l : By) (st : St) (h : st.1 ≤ l.length) : (sixteenS l st).2.1 ≤ l.length := by
  unfold sixteenS
  by_cases h0 : st.2 < 0
  · simp only [if_pos h0]
    have := run_le l isHex 16 st.1 h
    by_cases hb : (runS l isHex 16 st.1).length = 16
    · simp only [if_pos hb]; rw [hb] at this; exact this
    · simp only [if_neg hb]; exact this
  · simp only [if_neg h0]; exact h
theorem float_le (l : By) (st : St) (h : st.1 ≤ l.length) : (floatS l st).2.1 ≤ l.length := by
  unfold floatS
  have := sixteen_le l st h
  by_cases hb : bitsS (sixteenS l st).1 = (sixteenS l st).1
  · simp only [if_pos hb]; exact this
  · simp only [if_neg hb]; unfold wrongS; split <;> exact this
theorem whole_le (l : By) (bits : Nat) (st : St) (h : st.1 ≤ l.length) : (wholeS l bits st).2.1 ≤ l.length := by
  unfold wholeS
  by_cases h0 : st.2 < 0
  · simp only [if_pos h0]
    have := run_le l isDig l.length st.1 h
    split <;> exact this
  · simp only [if_neg h0]; exact h
theorem num_le (l : By) (st : St) (h : st.1 ≤ l.length) : (numS l st).2.1 ≤ l.length := by
  unfold numS
  exact float_le l _ (must_le l _ _ (float_le l _ h))
theorem size_list (s : ByteArray) : s.data.toList.length = s.size := by simp
/-- A blank. -/
def blank : ByteArray := ⟨#[32]⟩
theorem must_blank (rb : Nat) (s : ByteArray) (st : St) (g c : Nat) (w : World) (h : Rd w rb s st.1 st.2) (hi : st.1 ≤ s.size) (hs : s.size ≤ 70000) (hg : g ≠ rb) (hc : w.cell? ⟨g, 0, none⟩ = some (.string blank)) :
    Calls Tryz.prog 59 #[.pointer (some ⟨rb, 0, none⟩), .slice (some ⟨g, 0, none⟩) 1 c] w fun e w' => e = .returned (.tuple #[]) ∧ Rd w' rb s (mustS s.data.toList [[32]] st).1 (mustS s.data.toList [[32]] st).2 ∧ Keeps w.heap.size [rb] w w' :=
  must_any rb s st.1 st.2 [blank] g 1 c w h hi hs rfl (by decide) hg (World.block_lt_of_cell? _ _ hc) (fun j hj => by have h0 : j = 0 := (by omega); subst h0; exact hc)
theorem Rd.alloc {w : World} {rb : Nat} {s : ByteArray} {i : Nat} {a : Int} (h : Rd w rb s i a) (o : Obj) : Rd (w.alloc o) rb s i a := (Below.heap_alloc w o rb (lt_of_block h)).trans h
/-- What reading two floats comes to. -/
def TwoPost (rb : Nat) (s : ByteArray) (st : St) (p q : Nat) (w : World) (e : Ending) (w' : World) : Prop :=
  e = .returned (.tuple #[]) ∧ Rd w' rb s (numS s.data.toList st).2.1 (numS s.data.toList st).2.2 ∧ w'.heap[p]? = some (.cells #[.float .f64 (numS s.data.toList st).1.1] 54 (0, 0)) ∧ w'.heap[q]? = some (.cells #[.float .f64 (numS s.data.toList st).1.2] 54 (0, 0)) ∧ Keeps w.heap.size [rb, p, q] w w'
/-- One float, behind its sixteens: the place where it began, the cell, the reader. -/
theorem float_st (l : By) (st : St) (n : Nat) (i' : Nat) (a' : Int) (h : sixteenS l st = (n, i', a')) : floatS l st = (n, if bitsS n = n then (i', a') else wrongS st.1 (i', a')) := by
  unfold floatS
  simp only [h]
  split <;> rfl
set_option maxRecDepth 100000 in
set_option maxHeartbeats 4000000 in
theorem floats_two (rb : Nat) (s : ByteArray) (i : Nat) (a : Int) (g p q c : Nat) (o1 o2 : Nat) (w : World) (h : Rd w rb s i a) (hi : i ≤ s.size) (hs : s.size ≤ 70000) (hg : g ≠ rb) (hpr : p ≠ rb) (hqr : q ≠ rb) (hgp : g ≠ p) (hgq : g ≠ q) (hpq : p ≠ q)
    (hc0 : w.cell? ⟨g, 0, none⟩ = some (.pointer (some ⟨p, 0, none⟩))) (hc1 : w.cell? ⟨g, 1, none⟩ = some (.pointer (some ⟨q, 0, none⟩))) (hp : w.heap[p]? = some (.cells #[.float .f64 o1] 54 (0, 0))) (hq : w.heap[q]? = some (.cells #[.float .f64 o2] 54 (0, 0))) :
    Calls Tryz.prog 63 #[.pointer (some ⟨rb, 0, none⟩), .slice (some ⟨g, 0, none⟩) 2 c] w (TwoPost rb s (i, a) p q w) := by
  have lrb := lt_of_block h
  have lg := World.block_lt_of_cell? _ _ hc0
  have lp := lt_of_block hp
  have lq := lt_of_block hq
  have H := hid h
  have HP := hid hp
  have HQ := hid hq
  clear h hp hq
  go_enter Tryz.func63, Tryz.ntmps63
  go_wp2_with fail
  go_loopw [10] (fun t wr => (t = .int .i64 0 ∧ w = wr) ∨ (t = .int .i64 1 ∧ Rd wr rb s (floatS s.data.toList (i, a)).2.1 (floatS s.data.toList (i, a)).2.2 ∧ wr.heap[p]? = some (.cells #[.float .f64 (floatS s.data.toList (i, a)).1] 54 (0, 0)) ∧ wr.heap[q]? = some (.cells #[.float .f64 o2] 54 (0, 0)) ∧ Keeps w.heap.size [rb, p, q] w wr) ∨ (t = .int .i64 2 ∧ TwoPost rb s (i, a) p q w (.returned (.tuple #[])) wr)) (fun t _ => 2 - (intOf t).toNat)
  case atStart => exact .inl ⟨rfl, rfl⟩
  case round =>
    rcases hrel with ⟨rfl, rfl⟩ | ⟨rfl, hR, hP, hQ, hK⟩ | ⟨rfl, hpost⟩
    · have hsx := sixteen_any rb s i a w H.out hi hs
      generalize hsv : sixteenS s.data.toList (i, a) = sv at hsx
      obtain ⟨n, i', a'⟩ := sv
      have HSV := hid hsv
      have HSX := hid hsx
      clear hsv hsx
      have c1 := cell_of_block H.out 1
      simp at c1
      go_wp2_with fail
      refine HSX.out.mono ?_
      rintro e wq ⟨rfl, hR, hK⟩
      have bt : wq.heap[p]? = some (.cells #[.float .f64 o1] 54 (0, 0)) := (hK.block p lp (by simpa using hpr)).trans HP.out
      have bq := (hK.block q lq (by simpa using hqr)).trans HQ.out
      have kt := cell_of_block bt 0
      have ft := free_of_block bt 0
      simp at kt
      have hszq := hK.size
      have hszm : w.heap.size ≤ w.heap.size := (Keeps.refl w.heap.size [rb, p, q] w).size
      haveI : Has wq p := ⟨lt_of_block bt⟩
      have KK := hid ((Keeps.refl w.heap.size [rb, p, q] w).trans (hK.mono hszm (fun k _ hk => by simp at hk ⊢; exact Or.inl hk)))
      have HRR := hid hR
      have BT := hid bt
      have BQ := hid bq
      clear hR hK bt bq
      by_cases hb : bitsS n = n
      · have hb' : ((bitsS n : Int) != (n : Int)) = false := by rw [hb]; simp
        have HB := hid hb
        clear hb
        go_wp2_with (first | (go_at_call 82; ((with_reducible refine (from_any n _).mono ?_); rintro e w' ⟨rfl, rfl⟩)) | (go_at_call 76; ((with_reducible refine (bits_any n _).mono ?_); rintro e w' ⟨rfl, rfl⟩)))
        go_roundw
        case rel =>
          have ef : floatS s.data.toList (i, a) = (n, (i', a')) := by rw [float_st _ _ _ _ _ HSV.out, if_pos HB.out]
          refine .inr (.inl ⟨by rfl, by rw [ef]; exact (block_ne _ _ _ _ _ (Ne.symm hpr)).trans HRR.out, by rw [ef]; exact set_of_block BT.out 0 _, (block_ne _ _ _ _ _ (Ne.symm hpq)).trans BQ.out, KK.out.set (Or.inl (by simp)) _ _⟩)
        case measure => simp [intOf]
      · have hb' : ((bitsS n : Int) != (n : Int)) = true := by simp; omega
        have HB := hid hb
        clear hb
        go_wp2_with (first | (go_at_call 82; ((with_reducible refine (from_any n _).mono ?_); rintro e w' ⟨rfl, rfl⟩)) | (go_at_call 76; ((with_reducible refine (bits_any n _).mono ?_); rintro e w' ⟨rfl, rfl⟩)))
        refine (wrong_any rb s i' a' i _ ((block_ne _ _ _ _ _ (Ne.symm hpr)).trans HRR.out)).mono ?_
        rintro e wq2 ⟨rfl, hR2, hK2⟩
        have HR2 := hid hR2
        have hbt := hK2.block p (by rw [World.size_setCell]; exact lt_of_block BT.out) (by simpa using hpr)
        have hbq := hK2.block q (by rw [World.size_setCell]; exact lt_of_block BQ.out) (by simpa using hqr)
        have HK2 := hid (hK2.mono (B' := w.heap.size) (by rw [World.size_setCell]; omega) (fun k _ h => h))
        have HBT := hid hbt
        have HBQ := hid hbq
        clear hR2 hK2 hbt hbq
        go_wp2_with fail
        go_roundw
        case rel =>
          have ef : floatS s.data.toList (i, a) = (n, wrongS i (i', a')) := by rw [float_st _ _ _ _ _ HSV.out, if_neg HB.out]
          refine .inr (.inl ⟨by rfl, by
              rw [ef]
              unfold wrongS
              by_cases ha : a' < 0
              · have := HR2.out; rw [if_pos ha] at this; simpa [ha] using this
              · have := HR2.out; rw [if_neg ha] at this; simpa [ha] using this, HBT.out.trans (by rw [ef]; exact set_of_block BT.out 0 _), HBQ.out.trans ((block_ne _ _ _ _ _ (Ne.symm hpq)).trans BQ.out), (KK.out.set (Or.inl (by simp)) _ _).trans (HK2.out.mono (Nat.le_refl _) (fun k _ hk => by simp at hk ⊢; exact Or.inl hk))⟩)
        case measure => simp [intOf]
    · have k1 : wr.cell? ⟨g, 1, none⟩ = some (.pointer (some ⟨q, 0, none⟩)) := (hK.cell (q := ⟨g, 1, none⟩) lg (by simp [hg, hgp, hgq])).trans hc1
      have hle := float_le s.data.toList (i, a) (by rw [size_list]; exact hi)
      rw [size_list] at hle
      have hwr := hK.size
      have HRW := hid hR
      have HPW := hid hP
      have HQW := hid hQ
      have HKW := hid hK
      clear hR hP hQ hK
      go_wp2_with fail
      refine (must_blank rb s (floatS s.data.toList (i, a)).2 wr.heap.size 1 _ (HRW.out.alloc _) hle hs (by omega) (by simp [go_sem, blank])).mono ?_
      rintro e wm ⟨rfl, hRm, hKm⟩
      have hle2 := must_le s.data.toList [[32]] (floatS s.data.toList (i, a)).2 (by rw [size_list]; exact hle)
      rw [size_list] at hle2
      generalize hsm : mustS s.data.toList [[32]] (floatS s.data.toList (i, a)).2 = sm at hRm hle2
      obtain ⟨i2, a2⟩ := sm
      have EM := hid hsm
      have hi2 : i2 ≤ s.size := hle2
      clear hsm hle2
      have hpm : wm.heap[p]? = some (.cells #[.float .f64 (floatS s.data.toList (i, a)).1] 54 (0, 0)) := (hKm.block p (by simp; omega) (by simpa using hpr)).trans ((Below.heap_alloc _ _ _ (by omega)).trans HPW.out)
      have hqm : wm.heap[q]? = some (.cells #[.float .f64 o2] 54 (0, 0)) := (hKm.block q (by simp; omega) (by simpa using hqr)).trans ((Below.heap_alloc _ _ _ (by omega)).trans HQW.out)
      have lpm := lt_of_block hpm
      have lqm := lt_of_block hqm
      have HPM := hid hpm
      have HQM := hid hqm
      have HRM := hid (show Rd wm rb s i2 a2 from hRm)
      have HK0 : Hid (Keeps w.heap.size [rb, p, q] w wm) := hid ((HKW.out.alloc hwr _).trans (hKm.mono (by simp; omega) (fun k _ hk => by simp at hk ⊢; exact Or.inl hk)))
      clear hpm hqm hRm hKm
      have hsx := sixteen_any rb s i2 a2 wm HRM.out hi2 hs
      generalize hsv : sixteenS s.data.toList (i2, a2) = sv at hsx
      obtain ⟨n, i', a'⟩ := sv
      have HSV := hid hsv
      have HSX := hid hsx
      clear hsv hsx
      have c1 := cell_of_block HRM.out 1
      simp at c1
      go_wp2_with fail
      refine HSX.out.mono ?_
      rintro e wq ⟨rfl, hR, hK⟩
      have bt : wq.heap[q]? = some (.cells #[.float .f64 o2] 54 (0, 0)) := (hK.block q lqm (by simpa using hqr)).trans HQM.out
      have bq := (hK.block p lpm (by simpa using hpr)).trans HPM.out
      have kt := cell_of_block bt 0
      have ft := free_of_block bt 0
      simp at kt
      have hszq := hK.size
      have hszm : w.heap.size ≤ wm.heap.size := HK0.out.size
      haveI : Has wq q := ⟨lt_of_block bt⟩
      have KK := hid (HK0.out.trans (hK.mono hszm (fun k _ hk => by simp at hk ⊢; exact Or.inl hk)))
      have HRR := hid hR
      have BT := hid bt
      have BQ := hid bq
      clear hR hK bt bq
      by_cases hb : bitsS n = n
      · have hb' : ((bitsS n : Int) != (n : Int)) = false := by rw [hb]; simp
        have HB := hid hb
        clear hb
        go_wp2_with (first | (go_at_call 82; ((with_reducible refine (from_any n _).mono ?_); rintro e w' ⟨rfl, rfl⟩)) | (go_at_call 76; ((with_reducible refine (bits_any n _).mono ?_); rintro e w' ⟨rfl, rfl⟩)))
        go_roundw
        case rel =>
          have ef : floatS s.data.toList (i2, a2) = (n, (i', a')) := by rw [float_st _ _ _ _ _ HSV.out, if_pos HB.out]
          have en : numS s.data.toList (i, a) = (((floatS s.data.toList (i, a)).1, n), (floatS s.data.toList (i2, a2)).2) := by
            unfold numS
            simp only []
            rw [show mustS s.data.toList [[32]] (floatS s.data.toList (i, a)).2 = (i2, a2) from EM.out, ef]
          refine .inr (.inr ⟨by rfl, ?_⟩)
          unfold TwoPost
          rw [en]
          refine ⟨rfl, by rw [ef]; exact (block_ne _ _ _ _ _ (Ne.symm hqr)).trans HRR.out, (block_ne _ _ _ _ _ (Ne.symm (Ne.symm hpq))).trans BQ.out, set_of_block BT.out 0 _, KK.out.set (Or.inl (by simp)) _ _⟩
        case measure => simp [intOf]
      · have hb' : ((bitsS n : Int) != (n : Int)) = true := by simp; omega
        have HB := hid hb
        clear hb
        go_wp2_with (first | (go_at_call 82; ((with_reducible refine (from_any n _).mono ?_); rintro e w' ⟨rfl, rfl⟩)) | (go_at_call 76; ((with_reducible refine (bits_any n _).mono ?_); rintro e w' ⟨rfl, rfl⟩)))
        refine (wrong_any rb s i' a' i2 _ ((block_ne _ _ _ _ _ (Ne.symm hqr)).trans HRR.out)).mono ?_
        rintro e wq2 ⟨rfl, hR2, hK2⟩
        have HR2 := hid hR2
        have hbt := hK2.block q (by rw [World.size_setCell]; exact lt_of_block BT.out) (by simpa using hqr)
        have hbq := hK2.block p (by rw [World.size_setCell]; exact lt_of_block BQ.out) (by simpa using hpr)
        have HK2 := hid (hK2.mono (B' := w.heap.size) (by rw [World.size_setCell]; omega) (fun k _ h => h))
        have HBT := hid hbt
        have HBQ := hid hbq
        clear hR2 hK2 hbt hbq
        go_wp2_with fail
        go_roundw
        case rel =>
          have ef : floatS s.data.toList (i2, a2) = (n, wrongS i2 (i', a')) := by rw [float_st _ _ _ _ _ HSV.out, if_neg HB.out]
          have en : numS s.data.toList (i, a) = (((floatS s.data.toList (i, a)).1, n), (floatS s.data.toList (i2, a2)).2) := by
            unfold numS
            simp only []
            rw [show mustS s.data.toList [[32]] (floatS s.data.toList (i, a)).2 = (i2, a2) from EM.out, ef]
          refine .inr (.inr ⟨by rfl, ?_⟩)
          unfold TwoPost
          rw [en]
          refine ⟨rfl, by
              rw [ef]
              unfold wrongS
              by_cases ha : a' < 0
              · have := HR2.out; rw [if_pos ha] at this; simpa [ha] using this
              · have := HR2.out; rw [if_neg ha] at this; simpa [ha] using this, HBQ.out.trans ((block_ne _ _ _ _ _ (Ne.symm (Ne.symm hpq))).trans BQ.out), HBT.out.trans (set_of_block BT.out 0 _), (KK.out.set (Or.inl (by simp)) _ _).trans (HK2.out.mono (Nat.le_refl _) (fun k _ hk => by simp at hk ⊢; exact Or.inl hk))⟩
        case measure => simp [intOf]
    · have HPP := hid hpost
      clear hpost
      go_wp2_with fail
      go_end0
      exact HPP.out
end Go.Proofs.YtnagagcgmfkjjaaGreatDoor
