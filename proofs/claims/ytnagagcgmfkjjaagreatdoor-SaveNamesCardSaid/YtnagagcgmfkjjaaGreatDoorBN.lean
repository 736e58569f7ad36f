/- The first statement: what is read. -/
import Derived.Test.YtnagagcgmfkjjaaGreatDoorBJ
import Derived.Test.YtnagagcgmfkjjaaGreatDoorBK
import Derived.Test.YtnagagcgmfkjjaaGreatDoorBL
import Derived.Test.YtnagagcgmfkjjaaGreatDoorBM
set_option linter.unusedSimpArgs false
set_option linter.unusedVariables false
namespace Go.Proofs.YtnagagcgmfkjjaaGreatDoor
open Go.RowKit

theorem flowR_len (s : By) : (flowR s).1.length ≤ 65536 := by
  by_cases h : (flowR s).2.1 = 0
  · exact (flowR_ok s h).2.1
  · unfold flowR at h ⊢
    split
    · rename_i h1
      rw [if_pos h1] at h
      split
      · rename_i h2; rw [if_pos h2] at h; exact absurd rfl h
      · exact Nat.zero_le _
    · exact Nat.zero_le _
theorem tracersR_len (s : By) : (tracersR s).1.length ≤ 65536 := by
  by_cases h : (tracersR s).2.1 = 0
  · exact (tracersR_ok s h).2.1
  · unfold tracersR at h ⊢
    split
    · rename_i h1
      rw [if_pos h1] at h
      split
      · exact Nat.zero_le _
      · rename_i h2; rw [if_neg h2] at h; exact absurd rfl h
    · exact Nat.zero_le _
theorem whirlsR_len (s : By) : (whirlsR s).1.length ≤ 65536 := by
  by_cases h : (whirlsR s).2.1 = 0
  · exact (whirlsR_ok s h).2.1
  · unfold whirlsR at h ⊢
    split
    · rename_i h1
      rw [if_pos h1] at h
      split
      · rename_i h2; rw [if_pos h2] at h; exact absurd rfl h
      · exact Nat.zero_le _
    · exact Nat.zero_le _
theorem flowR_zero (s : By) (h : (flowR s).2.1 = 0) : (flowR s).2.2 = 0 := by
  unfold flowR at h ⊢
  split
  · rename_i h1
    rw [if_pos h1] at h
    split <;> rfl
  · rename_i h1; rw [if_neg h1] at h; exact absurd h h1
theorem tracersR_zero (s : By) (h : (tracersR s).2.1 = 0) : (tracersR s).2.2 = 0 := by
  unfold tracersR at h ⊢
  split
  · rename_i h1
    rw [if_pos h1] at h
    split <;> rfl
  · rename_i h1; rw [if_neg h1] at h; exact absurd h h1
theorem whirlsR_zero (s : By) (h : (whirlsR s).2.1 = 0) : (whirlsR s).2.2 = 0 := by
  unfold whirlsR at h ⊢
  split
  · rename_i h1
    rw [if_pos h1] at h
    split <;> rfl
  · rename_i h1; rw [if_neg h1] at h; exact absurd h h1
theorem readN_zero (s : By) (h : (readN s).2.1 = 0) : (readN s).2.2 = 0 := by
  unfold readN at h ⊢
  split
  · rfl
  · rename_i h0
    rw [if_neg h0] at h
    simp only [] at h ⊢
    split
    · rename_i h1
      rw [if_pos h1] at h
      split
      · rename_i h2; rw [if_pos h2] at h; cases h
      · rfl
    · rename_i h1; rw [if_neg h1] at h; cases h
/-- A row that was read: from where it lies, below where. -/
structure Rw where
  base : Nat
  lim : Nat
  E : Nat
  size : Nat
  sv : Value
  n : Nat
  xs : List Value
/-- Rows and blocks that stand. -/
structure Hs (w0 : World) (R : List Rw) (F : List Fx) (w : World) : Prop where
  rows : ∀ r ∈ R, w.ownsRow r.base r.E r.size r.sv r.n r.xs
  lims : ∀ r ∈ R, ∀ g, r.sv.ownBlock = some g → g < r.lim
  fix : ∀ p ∈ F, w.heap[p.1]? = some (.cells p.2.1 p.2.2 (0, 0))
  ty : ∀ p ∈ F, p.2.2 = 25 ∨ p.2.2 = 41
  kp : Keeps w0.heap.size [] w0 w
section
variable {w0 w w' : World} {R : List Rw} {F : List Fx}
theorem Hs.quiet (H : Hs w0 R F w) (b : Below w.heap.size w w') : Hs w0 R F w' :=
  ⟨fun r hr => own_keeps (H.rows r hr) (Keeps.of_below (S := []) b) (Nat.le_refl _) (by simp), H.lims, fun p hp => (b.block p.1 (lt_of_block (H.fix p hp))).trans (H.fix p hp), H.ty, H.kp.trans (Keeps.of_below (S := []) (b.mono H.kp.size))⟩
theorem Hs.row (H : Hs w0 R F w) (B E size : Nat) (sv : Value) (n : Nat) (xs : List Value) (h : w.ownsRow B E size sv n xs) : Hs w0 (⟨B, w.heap.size, E, size, sv, n, xs⟩ :: R) F w := by
  refine ⟨fun r hr => ?_, fun r hr g hg => ?_, H.fix, H.ty, H.kp⟩
  · rcases List.mem_cons.1 hr with rfl | hr
    · exact h
    · exact H.rows r hr
  · rcases List.mem_cons.1 hr with rfl | hr
    · exact (own_span h hg).2
    · exact H.lims r hr g hg
theorem Hs.fxs (H : Hs w0 R F w) {Ft : List Fx} (h : ∀ p ∈ Ft, w.heap[p.1]? = some (.cells p.2.1 p.2.2 (0, 0)) ∧ p.2.2 = 41) : Hs w0 R (Ft ++ F) w := by
  refine ⟨H.rows, H.lims, fun p hp => ?_, fun p hp => ?_, H.kp⟩
  · rcases List.mem_append.1 hp with hp | hp
    · exact (h p hp).1
    · exact H.fix p hp
  · rcases List.mem_append.1 hp with hp | hp
    · exact .inr (h p hp).2
    · exact H.ty p hp
theorem Hs.allocF (H : Hs w0 R F w) (c : Array Value) (T : Nat) (hT : T = 25 ∨ T = 41) : Hs w0 R ((w.heap.size, c, T) :: F) (w.alloc (.cells c T)) := by
  have A := H.quiet (w' := w.alloc (.cells c T)) (Below.alloc (Below.refl _ _) (Nat.le_refl _) _)
  refine ⟨A.rows, A.lims, fun p hp => ?_, fun p hp => ?_, A.kp⟩
  · rcases List.mem_cons.1 hp with rfl | hp
    · simp only [block_at]
    · exact A.fix p hp
  · rcases List.mem_cons.1 hp with rfl | hp
    · exact hT
    · exact A.ty p hp
theorem Hs.alloc2 (H : Hs w0 R F w) (c c2 : Array Value) (T T2 : Nat) (hT : T = 25 ∨ T = 41) (hT2 : T2 = 25 ∨ T2 = 41) : Hs w0 R ((w.heap.size + 1, c2, T2) :: (w.heap.size, c, T) :: F) ((w.alloc (.cells c T)).alloc (.cells c2 T2)) := by
  have h := (H.allocF c T hT).allocF c2 T2 hT2
  rw [show (w.alloc (.cells c T)).heap.size = w.heap.size + 1 by simp] at h
  exact h
theorem Hs.sub (H : Hs w0 R F w) {R' : List Rw} (h : ∀ r ∈ R', r ∈ R) : Hs w0 R' F w := ⟨fun r hr => H.rows r (h r hr), fun r hr => H.lims r (h r hr), H.fix, H.ty, H.kp⟩
theorem Hs.below (H : Hs w0 R F w) : Below w0.heap.size w0 w := H.kp.below
theorem Hs.h8 (H : Hs w0 R F w) (h : 8 ≤ w0.heap.size) : 8 ≤ w.heap.size := Nat.le_trans h H.kp.size
theorem Hs.vars (H : Hs w0 R F w) (V : Vars w0) (h : 8 ≤ w0.heap.size) : Vars w := V.keep H.kp h (by simp)
/-- .. beside a row that is written over. -/
structure Hv (w0 : World) (g E N : Nat) (R : List Rw) (F : List Fx) (w : World) : Prop where
  hs : Hs w0 R F w
  blk : ∃ C : Array Value, w.heap[g]? = some (.cells C E (0, 0)) ∧ N ≤ C.size
  rows : ∀ r ∈ R, r.sv.ownBlock ≠ some g
  fix : ∀ p ∈ F, p.1 ≠ g
  far : w0.heap.size ≤ g
theorem Hv.store {g E N : Nat} (O : Hv w0 g E N R F w) (o : Nat) (v : Value) : Hv w0 g E N R F (w.setCell ⟨g, o, none⟩ v) := by
  obtain ⟨C, hC, hN⟩ := O.blk
  refine ⟨⟨fun r hr => own_set (O.hs.rows r hr) (O.rows r hr), O.hs.lims, fun p hp => (block_ne _ _ _ _ _ (O.fix p hp)).trans (O.hs.fix p hp), O.hs.ty, O.hs.kp.set (Or.inr O.far) _ _⟩, ⟨C.setIfInBounds o v, set_of_block hC o v, by simpa using hN⟩, O.rows, O.fix, O.far⟩
theorem Hv.cell {g E N : Nat} (O : Hv w0 g E N R F w) (o : Nat) (h : o < N) : (∃ v, w.cell? ⟨g, o, none⟩ = some v) ∧ w.frozen? ⟨g, o, none⟩ = false := by
  obtain ⟨C, hC, hN⟩ := O.blk
  refine ⟨⟨C[o]'(by omega), ?_⟩, free_of_block hC o⟩
  rw [cell_of_block hC o]
  exact Array.getElem?_eq_getElem (by omega)
theorem Hv.both {g E N n : Nat} (O : Hv w0 g E N R F w) : Hid (Hs w0 R F w) ∧ (0 < n → ∃ g', (some ⟨g, 0, none⟩ : Option Addr) = some ⟨g', 0, none⟩ ∧ Hid (Hv w0 g' E N R F w)) := ⟨hid O.hs, fun _ => ⟨g, rfl, hid O⟩⟩
theorem Hv.lt {g E N : Nat} (O : Hv w0 g E N R F w) : g < w.heap.size := by
  obtain ⟨C, hC, hN⟩ := O.blk
  exact lt_of_block hC
theorem Hs.over (H : Hs w0 R F w) {B lim E size n cap : Nat} {sa : Option Addr} {xs : List Value} {R' : List Rw} (hr : (⟨B, lim, E, size, .slice sa n cap, n, xs⟩ : Rw) ∈ R) (hs : ∀ q ∈ R', q ∈ R) (hR : ∀ q ∈ R', q.E ≠ E ∨ lim ≤ q.base) (hE : E ≠ 25 ∧ E ≠ 41) (hB : w0.heap.size ≤ B) (hn : 0 < n) :
    ∃ g, sa = some ⟨g, 0, none⟩ ∧ Hv w0 g E (n * size) R' F w := by
  have ho := H.rows _ hr
  simp only at ho
  rcases ho.2 with ⟨-, h0⟩ | ⟨g, cap', cur, he, hg, hb, h1, h2, h3, h4⟩
  · omega
  · simp only [Value.slice.injEq] at he
    obtain ⟨rfl, -, rfl⟩ := he
    have hlim : g < lim := H.lims _ hr g rfl
    refine ⟨g, rfl, H.sub hs, ⟨cur, hb, by rw [h3]; exact Nat.mul_le_mul_right _ h1⟩, fun q hq e => ?_, fun p hp e => ?_, by omega⟩
    · rcases hR q hq with h | h
      · exact own_ne (H.rows q (hs q hq)) hb (fun x => h x.symm) e
      · have := (own_span (H.rows q (hs q hq)) e).1
        omega
    · have h5 := H.fix p hp
      rw [e, hb] at h5
      simp only [Option.some.injEq, Obj.cells.injEq] at h5
      rcases H.ty p hp with h | h
      · exact hE.1 (by rw [← h]; exact h5.2.1)
      · exact hE.2 (by rw [← h]; exact h5.2.1)
end
/-- What an error says, and the blocks of its own. -/
def Tells (v : Value) (c p : Int) (Ft : List Fx) : Prop := (c = 0 ∧ p = 0 ∧ v = .nilIface) ∨ (c ≠ 0 ∧ ∃ g, v = .iface 121 (.pointer (some ⟨g, 0, none⟩)) ∧ (g, #[.int .i64 c, .int .i64 p], 41) ∈ Ft)
theorem Told.tells {w w' : World} {c p : Int} {v : Value} (h : Told w c p v w') (hp : c = 0 → p = 0) : ∃ Ft : List Fx, Tells v c p Ft ∧ ∀ q ∈ Ft, w'.heap[q.1]? = some (.cells q.2.1 q.2.2 (0, 0)) ∧ q.2.2 = 41 := by
  rcases h with ⟨hc, hv⟩ | ⟨hc, g, -, hv, hb⟩
  · exact ⟨[], .inl ⟨hc, hp hc, hv⟩, by simp⟩
  · refine ⟨[(g, #[.int .i64 c, .int .i64 p], 41)], .inr ⟨hc, g, hv, by simp⟩, fun q hq => ?_⟩
    rw [List.mem_singleton] at hq
    subst hq
    exact ⟨hb, rfl⟩
theorem Tells.says {w : World} {c p : Int} {v : Value} {Ft : List Fx} (h : Tells v c p Ft) (hf : ∀ q ∈ Ft, w.heap[q.1]? = some (.cells q.2.1 q.2.2 (0, 0))) : Says v c p w := by
  rcases h with h | ⟨hc, g, hv, hm⟩
  · exact .inl h
  · exact .inr ⟨hc, g, hv, hf _ hm⟩
theorem says_self (v : Value) (c p : Int) (w : World) (V : Vars w) (h8 : 8 ≤ w.heap.size) (h : Says v c p w) :
    Calls Tryz.prog 19 #[v, .agg #[.int .i64 c, .int .i64 p]] w fun e w' => e = .returned (.bool true) ∧ Below w.heap.size w w' := by
  have hh := says_any v c p c p w V h8 h
  rw [show decide (c = c ∧ p = p) = true by simp] at hh
  exact hh
set_option maxRecDepth 100000 in
set_option maxHeartbeats 32000000 in
theorem saveReads_any (s : ByteArray) (hsm : s.size ≤ maxLen) (w : World) (V : Vars w) : Calls Tryz.prog 3 #[.string s] w fun e w' => e = .returned (.bool true) ∧ Below w.heap.size w w' := by
  have h8 : 8 ≤ w.heap.size := by have := World.block_lt_of_cell? _ _ V.dbj; simp at this; omega
  have V' := hid V
  have hal := alive_any w V
  have HAL := hid hal
  clear V hal
  by_cases hlong : 70000 < s.size
  · go_enter Tryz.func3, Tryz.ntmps3
    go_wp2_with fail
    refine HAL.out.mono ?_
    rintro e w1 ⟨rfl, hb⟩
    have hl : (70000 : Int) < (s.size : Int) := by omega
    have HB := hid hb
    clear hb
    go_wp2_with fail
    go_ret
    exact ⟨rfl, HB.out⟩
  · have hs : s.size ≤ 70000 := by omega
    have hl : ¬ (70000 : Int) < (s.size : Int) := by omega
    have l1 := flowR_len s.data.toList
    have l2 := tracersR_len s.data.toList
    have l3 := whirlsR_len s.data.toList
    have k1 := flowR_zero s.data.toList
    have k2 := tracersR_zero s.data.toList
    have k3 := whirlsR_zero s.data.toList
    have k4 := readN_zero s.data.toList
    obtain ⟨qF, eF⟩ : ∃ x, x = flowR s.data.toList := ⟨_, rfl⟩
    obtain ⟨qL, eL⟩ : ∃ x, x = tracersR s.data.toList := ⟨_, rfl⟩
    obtain ⟨qW, eW⟩ : ∃ x, x = whirlsR s.data.toList := ⟨_, rfl⟩
    obtain ⟨qN, eN⟩ : ∃ x, x = readN s.data.toList := ⟨_, rfl⟩
    rw [← eF] at l1 k1
    rw [← eL] at l2 k2
    rw [← eW] at l3 k3
    rw [← eN] at k4
    obtain ⟨LF, c1, p1⟩ := qF
    obtain ⟨LT, c2, p2⟩ := qL
    obtain ⟨LW, c3, p3⟩ := qW
    obtain ⟨⟨n1, n2⟩, c4, p4⟩ := qN
    simp only [] at l1 l2 l3 k1 k2 k3 k4
    have hFl : LF.length ≤ 70000 := by omega
    have hLl : LT.length ≤ 70000 := by omega
    have hWl : LW.length ≤ 70000 := by omega
    have hF0 := hid k1
    have hL0 := hid k2
    have hW0 := hid k3
    have hN0 := hid k4
    have eF := hid eF
    have eL := hid eL
    have eW := hid eW
    have eN := hid eN
    clear k1 k2 k3 k4 l1 l2 l3
    go_enter Tryz.func3, Tryz.ntmps3
    go_wp2_with fail
    refine HAL.out.mono ?_
    rintro e w1 ⟨rfl, hb⟩
    have H1 : Hid (Hs w [] [] w1) := hid ⟨by simp, by simp, by simp, by simp, Keeps.of_below hb⟩
    have Z1 : Hid (w.heap.size ≤ w1.heap.size) := hid hb.size
    clear hb
    go_wp2_with fail
    refine (readF_any s hs _ (H1.out.vars V'.out h8) (H1.out.h8 h8)).mono ?_
    rintro e w2 ⟨sv, vt1, rfl, ht, ho, hb⟩
    rw [← eF.out] at ht ho
    obtain ⟨t1, t1t, t1f⟩ := ht.tells hF0.out
    obtain ⟨aF, mF, rfl, -⟩ := own_form ho
    have H2 := hid ((H1.out.quiet hb).row w1.heap.size 56 4 (.slice aF LF.length mF) LF.length (LF.flatMap elCells) (own_mono ho (by first | exact Nat.le_refl _ | (simp; done) | (simp; omega))))
    have Z2 : Hid (w1.heap.size ≤ w2.heap.size) := hid (by have := hb.size; (try simp at this); omega)
    have t1h := hid t1t
    have H2b := hid ((H2.out.fxs t1f).allocF #[.slice aF LF.length mF] 25 (Or.inl rfl))
    clear ht ho hb t1f t1t H1 H2
    go_wp2_with fail
    refine (readT_any s hs _ (H2b.out.vars V'.out h8) (H2b.out.h8 h8)).mono ?_
    rintro e w3 ⟨sv, vt2, rfl, ht, ho, hb⟩
    rw [← eL.out] at ht ho
    obtain ⟨t2, t2t, t2f⟩ := ht.tells hL0.out
    obtain ⟨aL, mL, rfl, -⟩ := own_form ho
    have H3 := hid ((H2b.out.quiet hb).row w2.heap.size 58 3 (.slice aL LT.length mL) LT.length (LT.flatMap trCells) (own_mono ho (by first | exact Nat.le_refl _ | (simp; done) | (simp; omega))))
    have Z3 : Hid (w2.heap.size ≤ w3.heap.size) := hid (by have := hb.size; (try simp at this); omega)
    have t2h := hid t2t
    have H3b := hid ((H3.out.fxs t2f))
    clear ht ho hb t2f t2t H2b H3
    go_wp2_with fail
    refine (readW_any s hs _ (H3b.out.vars V'.out h8) (H3b.out.h8 h8)).mono ?_
    rintro e w4 ⟨sv, vt3, rfl, ht, ho, hb⟩
    rw [← eW.out] at ht ho
    obtain ⟨t3, t3t, t3f⟩ := ht.tells hW0.out
    obtain ⟨aW, mW, rfl, -⟩ := own_form ho
    have H4 := hid ((H3b.out.quiet hb).row w3.heap.size 60 2 (.slice aW LW.length mW) LW.length (LW.flatMap whCells) (own_mono ho (by first | exact Nat.le_refl _ | (simp; done) | (simp; omega))))
    have Z4 : Hid (w3.heap.size ≤ w4.heap.size) := hid (by have := hb.size; (try simp at this); omega)
    have t3h := hid t3t
    have H4b := hid ((H4.out.fxs t3f))
    clear ht ho hb t3f t3t H3b H4
    go_wp2_with fail
    refine (readN_any s hs _).mono ?_
    rintro e w5 ⟨vt4, rfl, ht, hb⟩
    rw [← eN.out] at ht ⊢
    obtain ⟨t4, t4t, t4f⟩ := ht.tells hN0.out
    have H5 := hid ((H4b.out.quiet hb).fxs t4f)
    have Z5 : Hid (w4.heap.size ≤ w5.heap.size) := hid (by have := hb.size; (try simp at this); omega)
    have t4h := hid t4t
    clear ht hb t4f t4t H4b
    go_wp2_with fail
    refine (dreadF_any s hs _).mono ?_
    rintro e w6 ⟨sv, rfl, ho, hb⟩
    rw [← eF.out] at ho ⊢
    obtain ⟨aG, mG, rfl, -⟩ := own_form ho
    have H6 := hid ((H5.out.quiet hb).row w5.heap.size 56 4 (.slice aG LF.length mG) LF.length (LF.flatMap elCells) (own_mono ho (by first | exact Nat.le_refl _ | (simp; done) | (simp; omega))))
    have Z6 : Hid (w5.heap.size ≤ w6.heap.size) := hid (by have := hb.size; (try simp at this); omega)
    have H6b := hid (H6.out.alloc2 #[.slice aG LF.length mG] #[.int .i64 c1, .int .i64 p1] 25 41 (Or.inl rfl) (Or.inr rfl))
    clear ho hb H5 H6
    go_wp2_with fail
    refine (dreadT_any s hs _).mono ?_
    rintro e w7 ⟨sv, rfl, ho, hb⟩
    rw [← eL.out] at ho ⊢
    obtain ⟨aM, mM, rfl, -⟩ := own_form ho
    have H7 := hid ((H6b.out.quiet hb).row w6.heap.size 58 3 (.slice aM LT.length mM) LT.length (LT.flatMap trCells) (own_mono ho (by first | exact Nat.le_refl _ | (simp; done) | (simp; omega))))
    have Z7 : Hid (w6.heap.size ≤ w7.heap.size) := hid (by have := hb.size; (try simp at this); omega)
    have H7b := hid (H7.out.allocF #[.int .i64 c2, .int .i64 p2] 41 (Or.inr rfl))
    clear ho hb H6b H7
    go_wp2_with fail
    refine (dreadW_any s hs _).mono ?_
    rintro e w8 ⟨sv, rfl, ho, hb⟩
    rw [← eW.out] at ho ⊢
    obtain ⟨aV, mV, rfl, -⟩ := own_form ho
    have H8 := hid ((H7b.out.quiet hb).row w7.heap.size 60 2 (.slice aV LW.length mV) LW.length (LW.flatMap whCells) (own_mono ho (by first | exact Nat.le_refl _ | (simp; done) | (simp; omega))))
    have Z8 : Hid (w7.heap.size ≤ w8.heap.size) := hid (by have := hb.size; (try simp at this); omega)
    have H8b := hid (H8.out.allocF #[.int .i64 c3, .int .i64 p3] 41 (Or.inr rfl))
    clear ho hb H7b H8
    go_wp2_with fail
    refine (dreadN_any s hs _).mono ?_
    rintro e w9 ⟨rfl, hb⟩
    rw [← eN.out]
    have H9 := hid (H8b.out.quiet hb)
    have Z9 : Hid (w8.heap.size ≤ w9.heap.size) := hid (by have := hb.size; (try simp at this); omega)
    clear hb H8b
    have zF := cell_of_block (H9.out.fix (w2.heap.size, #[.slice aF LF.length mF], 25) (List.mem_cons_of_mem _ (List.mem_cons_of_mem _ (List.mem_cons_of_mem _ (List.mem_cons_of_mem _ (List.mem_append_right _ (List.mem_append_right _ (List.mem_append_right _ List.mem_cons_self)))))))) 0
    simp at zF
    haveI : Has w9 (w2.heap.size) := ⟨lt_of_block (H9.out.fix (w2.heap.size, #[.slice aF LF.length mF], 25) (List.mem_cons_of_mem _ (List.mem_cons_of_mem _ (List.mem_cons_of_mem _ (List.mem_cons_of_mem _ (List.mem_append_right _ (List.mem_append_right _ (List.mem_append_right _ List.mem_cons_self))))))))⟩
    have zG := cell_of_block (H9.out.fix (w6.heap.size, #[.slice aG LF.length mG], 25) (List.mem_cons_of_mem _ (List.mem_cons_of_mem _ (List.mem_cons_of_mem _ List.mem_cons_self)))) 0
    simp at zG
    haveI : Has w9 (w6.heap.size) := ⟨lt_of_block (H9.out.fix (w6.heap.size, #[.slice aG LF.length mG], 25) (List.mem_cons_of_mem _ (List.mem_cons_of_mem _ (List.mem_cons_of_mem _ List.mem_cons_self))))⟩
    have H9b := hid (H9.out.allocF #[.int .i64 c4, .int .i64 p4] 41 (Or.inr rfl))
    clear H9
    go_wp2_with fail
    refine (same15_self LF hFl _ _ _ _ _ (H9b.out.rows _ (List.mem_cons_of_mem _ (List.mem_cons_of_mem _ (List.mem_cons_of_mem _ (List.mem_cons_of_mem _ (List.mem_cons_of_mem _ List.mem_cons_self)))))) (H9b.out.rows _ (List.mem_cons_of_mem _ (List.mem_cons_of_mem _ List.mem_cons_self)))).mono ?_
    rintro e w10 ⟨rfl, hb⟩
    have H10 := hid (H9b.out.quiet hb)
    have Z10 : Hid (w9.heap.size ≤ w10.heap.size) := hid (by have := hb.size; (try simp at this); omega)
    clear hb H9b zF zG
    go_wp2_with fail
    refine (same16_self LT hLl _ _ _ _ _ (H10.out.rows _ (List.mem_cons_of_mem _ (List.mem_cons_of_mem _ (List.mem_cons_of_mem _ (List.mem_cons_of_mem _ List.mem_cons_self))))) (H10.out.rows _ (List.mem_cons_of_mem _ List.mem_cons_self))).mono ?_
    rintro e w11 ⟨rfl, hb⟩
    have H11 := hid (H10.out.quiet hb)
    have Z11 : Hid (w10.heap.size ≤ w11.heap.size) := hid (by have := hb.size; (try simp at this); omega)
    clear hb H10
    go_wp2_with fail
    refine (same17_self LW hWl _ _ _ _ _ (H11.out.rows _ (List.mem_cons_of_mem _ (List.mem_cons_of_mem _ (List.mem_cons_of_mem _ List.mem_cons_self)))) (H11.out.rows _ List.mem_cons_self)).mono ?_
    rintro e w12 ⟨rfl, hb⟩
    have H12 := hid (H11.out.quiet hb)
    have Z12 : Hid (w11.heap.size ≤ w12.heap.size) := hid (by have := hb.size; (try simp at this); omega)
    clear hb H11
    go_wp2_with (go_at_call 18; ((with_reducible refine (same18_self _ _ _).mono ?_); rintro e w' ⟨rfl, hw⟩; obtain rfl := hw.symm))
    refine (readF_any s hs _ (H12.out.vars V'.out h8) (H12.out.h8 h8)).mono ?_
    rintro e w13 ⟨sv, vt5, rfl, ht, ho, hb⟩
    rw [← eF.out] at ht ho
    obtain ⟨t5, t5t, t5f⟩ := ht.tells hF0.out
    obtain ⟨aQ, mQ, rfl, -⟩ := own_form ho
    have H13 := hid ((H12.out.quiet hb).row w12.heap.size 56 4 (.slice aQ LF.length mQ) LF.length (LF.flatMap elCells) (own_mono ho (by first | exact Nat.le_refl _ | (simp; done) | (simp; omega))))
    have Z13 : Hid (w12.heap.size ≤ w13.heap.size) := hid (by have := hb.size; (try simp at this); omega)
    have t5h := hid t5t
    have H13b := hid ((H13.out.fxs t5f).allocF #[.slice aQ LF.length mQ] 25 (Or.inl rfl))
    clear ht ho hb t5f t5t H12 H13
    go_wp2_with fail
    refine (readT_any s hs _ (H13b.out.vars V'.out h8) (H13b.out.h8 h8)).mono ?_
    rintro e w14 ⟨sv, vt6, rfl, ht, ho, hb⟩
    rw [← eL.out] at ht ho
    obtain ⟨t6, t6t, t6f⟩ := ht.tells hL0.out
    obtain ⟨aK, mK, rfl, -⟩ := own_form ho
    have H14 := hid ((H13b.out.quiet hb).row w13.heap.size 58 3 (.slice aK LT.length mK) LT.length (LT.flatMap trCells) (own_mono ho (by first | exact Nat.le_refl _ | (simp; done) | (simp; omega))))
    have Z14 : Hid (w13.heap.size ≤ w14.heap.size) := hid (by have := hb.size; (try simp at this); omega)
    have t6h := hid t6t
    have H14b := hid ((H14.out.fxs t6f))
    clear ht ho hb t6f t6t H13b H14
    go_wp2_with fail
    refine (readW_any s hs _ (H14b.out.vars V'.out h8) (H14b.out.h8 h8)).mono ?_
    rintro e w15 ⟨sv, vt7, rfl, ht, ho, hb⟩
    rw [← eW.out] at ht ho
    obtain ⟨t7, t7t, t7f⟩ := ht.tells hW0.out
    obtain ⟨aU, mU, rfl, -⟩ := own_form ho
    have H15 := hid ((H14b.out.quiet hb).row w14.heap.size 60 2 (.slice aU LW.length mU) LW.length (LW.flatMap whCells) (own_mono ho (by first | exact Nat.le_refl _ | (simp; done) | (simp; omega))))
    have Z15 : Hid (w14.heap.size ≤ w15.heap.size) := hid (by have := hb.size; (try simp at this); omega)
    have t7h := hid t7t
    have H15b := hid ((H15.out.fxs t7f))
    clear ht ho hb t7f t7t H14b H15
    go_wp2_with fail
    have zall : Hid (w.heap.size ≤ w1.heap.size ∧ w1.heap.size ≤ w2.heap.size ∧ w2.heap.size ≤ w3.heap.size ∧ w3.heap.size ≤ w4.heap.size ∧ w4.heap.size ≤ w5.heap.size ∧ w5.heap.size ≤ w6.heap.size ∧ w6.heap.size ≤ w7.heap.size ∧ w7.heap.size ≤ w8.heap.size ∧ w8.heap.size ≤ w9.heap.size ∧ w9.heap.size ≤ w10.heap.size ∧ w10.heap.size ≤ w11.heap.size ∧ w11.heap.size ≤ w12.heap.size ∧ w12.heap.size ≤ w13.heap.size ∧ w13.heap.size ≤ w14.heap.size ∧ w14.heap.size ≤ w15.heap.size) := hid ⟨Z1.out, Z2.out, Z3.out, Z4.out, Z5.out, Z6.out, Z7.out, Z8.out, Z9.out, Z10.out, Z11.out, Z12.out, Z13.out, Z14.out, Z15.out⟩
    obtain ⟨FF, eFF⟩ : ∃ x : List Fx, x = (t7 ++ (t6 ++ ((w13.heap.size, #[.slice aQ LF.length mQ], 25) :: (t5 ++ ((w9.heap.size, #[.int .i64 c4, .int .i64 p4], 41) :: ((w8.heap.size, #[.int .i64 c3, .int .i64 p3], 41) :: ((w7.heap.size, #[.int .i64 c2, .int .i64 p2], 41) :: ((w6.heap.size + 1, #[.int .i64 c1, .int .i64 p1], 41) :: ((w6.heap.size, #[.slice aG LF.length mG], 25) :: (t4 ++ (t3 ++ (t2 ++ ((w2.heap.size, #[.slice aF LF.length mF], 25) :: (t1 ++ [])))))))))))))) := ⟨_, rfl⟩
    rw [← eFF] at H15b
    have eFF := hid eFF
    have memF : (⟨w1.heap.size, w2.heap.size, 56, 4, .slice aF LF.length mF, LF.length, LF.flatMap elCells⟩ : Rw) ∈ ([⟨w14.heap.size, w15.heap.size, 60, 2, .slice aU LW.length mU, LW.length, LW.flatMap whCells⟩, ⟨w13.heap.size, w14.heap.size, 58, 3, .slice aK LT.length mK, LT.length, LT.flatMap trCells⟩, ⟨w12.heap.size, w13.heap.size, 56, 4, .slice aQ LF.length mQ, LF.length, LF.flatMap elCells⟩, ⟨w7.heap.size, w8.heap.size, 60, 2, .slice aV LW.length mV, LW.length, LW.flatMap whCells⟩, ⟨w6.heap.size, w7.heap.size, 58, 3, .slice aM LT.length mM, LT.length, LT.flatMap trCells⟩, ⟨w5.heap.size, w6.heap.size, 56, 4, .slice aG LF.length mG, LF.length, LF.flatMap elCells⟩, ⟨w3.heap.size, w4.heap.size, 60, 2, .slice aW LW.length mW, LW.length, LW.flatMap whCells⟩, ⟨w2.heap.size, w3.heap.size, 58, 3, .slice aL LT.length mL, LT.length, LT.flatMap trCells⟩, ⟨w1.heap.size, w2.heap.size, 56, 4, .slice aF LF.length mF, LF.length, LF.flatMap elCells⟩] : List Rw) := by
      exact (List.mem_cons_of_mem _ (List.mem_cons_of_mem _ (List.mem_cons_of_mem _ (List.mem_cons_of_mem _ (List.mem_cons_of_mem _ (List.mem_cons_of_mem _ (List.mem_cons_of_mem _ (List.mem_cons_of_mem _ List.mem_cons_self))))))))
    obtain ⟨RF, eRF⟩ : ∃ x : List Rw, x = [⟨w14.heap.size, w15.heap.size, 60, 2, .slice aU LW.length mU, LW.length, LW.flatMap whCells⟩, ⟨w13.heap.size, w14.heap.size, 58, 3, .slice aK LT.length mK, LT.length, LT.flatMap trCells⟩, ⟨w12.heap.size, w13.heap.size, 56, 4, .slice aQ LF.length mQ, LF.length, LF.flatMap elCells⟩, ⟨w7.heap.size, w8.heap.size, 60, 2, .slice aV LW.length mV, LW.length, LW.flatMap whCells⟩, ⟨w6.heap.size, w7.heap.size, 58, 3, .slice aM LT.length mM, LT.length, LT.flatMap trCells⟩, ⟨w5.heap.size, w6.heap.size, 56, 4, .slice aG LF.length mG, LF.length, LF.flatMap elCells⟩, ⟨w3.heap.size, w4.heap.size, 60, 2, .slice aW LW.length mW, LW.length, LW.flatMap whCells⟩, ⟨w2.heap.size, w3.heap.size, 58, 3, .slice aL LT.length mL, LT.length, LT.flatMap trCells⟩] := ⟨_, rfl⟩
    have subF : ∀ q ∈ RF, q ∈ ([⟨w14.heap.size, w15.heap.size, 60, 2, .slice aU LW.length mU, LW.length, LW.flatMap whCells⟩, ⟨w13.heap.size, w14.heap.size, 58, 3, .slice aK LT.length mK, LT.length, LT.flatMap trCells⟩, ⟨w12.heap.size, w13.heap.size, 56, 4, .slice aQ LF.length mQ, LF.length, LF.flatMap elCells⟩, ⟨w7.heap.size, w8.heap.size, 60, 2, .slice aV LW.length mV, LW.length, LW.flatMap whCells⟩, ⟨w6.heap.size, w7.heap.size, 58, 3, .slice aM LT.length mM, LT.length, LT.flatMap trCells⟩, ⟨w5.heap.size, w6.heap.size, 56, 4, .slice aG LF.length mG, LF.length, LF.flatMap elCells⟩, ⟨w3.heap.size, w4.heap.size, 60, 2, .slice aW LW.length mW, LW.length, LW.flatMap whCells⟩, ⟨w2.heap.size, w3.heap.size, 58, 3, .slice aL LT.length mL, LT.length, LT.flatMap trCells⟩, ⟨w1.heap.size, w2.heap.size, 56, 4, .slice aF LF.length mF, LF.length, LF.flatMap elCells⟩] : List Rw) := by
      intro q hq
      rw [eRF] at hq
      simp only [List.mem_cons, List.not_mem_nil, or_false] at hq
      rcases hq with rfl | rfl | rfl | rfl | rfl | rfl | rfl | rfl
      · exact List.mem_cons_self
      · exact (List.mem_cons_of_mem _ List.mem_cons_self)
      · exact (List.mem_cons_of_mem _ (List.mem_cons_of_mem _ List.mem_cons_self))
      · exact (List.mem_cons_of_mem _ (List.mem_cons_of_mem _ (List.mem_cons_of_mem _ List.mem_cons_self)))
      · exact (List.mem_cons_of_mem _ (List.mem_cons_of_mem _ (List.mem_cons_of_mem _ (List.mem_cons_of_mem _ List.mem_cons_self))))
      · exact (List.mem_cons_of_mem _ (List.mem_cons_of_mem _ (List.mem_cons_of_mem _ (List.mem_cons_of_mem _ (List.mem_cons_of_mem _ List.mem_cons_self)))))
      · exact (List.mem_cons_of_mem _ (List.mem_cons_of_mem _ (List.mem_cons_of_mem _ (List.mem_cons_of_mem _ (List.mem_cons_of_mem _ (List.mem_cons_of_mem _ List.mem_cons_self))))))
      · exact (List.mem_cons_of_mem _ (List.mem_cons_of_mem _ (List.mem_cons_of_mem _ (List.mem_cons_of_mem _ (List.mem_cons_of_mem _ (List.mem_cons_of_mem _ (List.mem_cons_of_mem _ List.mem_cons_self)))))))
    have farF : ∀ q ∈ RF, q.E ≠ 56 ∨ w2.heap.size ≤ q.base := by
      intro q hq
      rw [eRF] at hq
      simp only [List.mem_cons, List.not_mem_nil, or_false] at hq
      have zz := zall.out
      rcases hq with rfl | rfl | rfl | rfl | rfl | rfl | rfl | rfl
      · left; show (60 : Nat) ≠ 56; decide
      · left; show (58 : Nat) ≠ 56; decide
      · right; show w2.heap.size ≤ w12.heap.size; omega
      · left; show (60 : Nat) ≠ 56; decide
      · left; show (58 : Nat) ≠ 56; decide
      · right; show w2.heap.size ≤ w5.heap.size; omega
      · left; show (60 : Nat) ≠ 56; decide
      · left; show (58 : Nat) ≠ 56; decide
    have startF := hid (fun hn => H15b.out.over (R' := RF) memF subF farF (by decide) (by show w.heap.size ≤ w1.heap.size; have zz := zall.out; omega) hn)
    have ERF := hid eRF
    have hsF := hid (H15b.out.sub subF)
    clear eRF subF farF memF H15b
    go_loopw [27] (fun t wr => ∃ k : Nat, t = .int .i64 k ∧ k ≤ LF.length ∧ Hid (Hs w RF FF wr) ∧ (0 < LF.length → ∃ g, aF = some ⟨g, 0, none⟩ ∧ Hid (Hv w g 56 (LF.length * 4) RF FF wr))) (fun t _ => LF.length - (intOf t).toNat)
    case atStart =>
      refine ⟨0, rfl, Nat.zero_le _, hsF, fun hn => ?_⟩
      obtain ⟨g, e, hv⟩ := startF.out hn
      exact ⟨g, e, hid hv⟩
    case round =>
      obtain ⟨k, rfl, hk, hH, hO⟩ := hrel
      have zF := cell_of_block (hH.out.fix (w2.heap.size, #[.slice aF LF.length mF], 25) (by rw [eFF.out]; exact (List.mem_append_right _ (List.mem_append_right _ (List.mem_cons_of_mem _ (List.mem_append_right _ (List.mem_cons_of_mem _ (List.mem_cons_of_mem _ (List.mem_cons_of_mem _ (List.mem_cons_of_mem _ (List.mem_cons_of_mem _ (List.mem_append_right _ (List.mem_append_right _ (List.mem_append_right _ List.mem_cons_self)))))))))))))) 0
      simp at zF
      haveI : Has wr (w2.heap.size) := ⟨lt_of_block (hH.out.fix (w2.heap.size, #[.slice aF LF.length mF], 25) (by rw [eFF.out]; exact (List.mem_append_right _ (List.mem_append_right _ (List.mem_cons_of_mem _ (List.mem_append_right _ (List.mem_cons_of_mem _ (List.mem_cons_of_mem _ (List.mem_cons_of_mem _ (List.mem_cons_of_mem _ (List.mem_cons_of_mem _ (List.mem_append_right _ (List.mem_append_right _ (List.mem_append_right _ List.mem_cons_self))))))))))))))⟩
      by_cases hkn : k < LF.length
      · obtain ⟨g, rfl, hv⟩ := hO (by omega)
        have hk' : (k : Int) < (LF.length : Int) := by omega
        have hk0 : (0 : Int) ≤ (k : Int) := by omega
        obtain ⟨⟨u0, d0⟩, f0⟩ := hv.out.cell (k * 4) (by omega)
        obtain ⟨⟨u1, d1⟩, f1⟩ := hv.out.cell (k * 4 + 1) (by omega)
        obtain ⟨⟨u2, d2⟩, f2⟩ := hv.out.cell (k * 4 + 2) (by omega)
        obtain ⟨⟨u3, d3⟩, f3⟩ := hv.out.cell (k * 4 + 3) (by omega)
        haveI : Has wr g := ⟨hv.out.lt⟩
        go_wp2_with fail
        go_roundw
        case rel =>
          refine ⟨k + 1, by rfl, by omega, ?_⟩
          exact Hv.both (((((hv.out.store _ _).store _ _).store _ _).store _ _))
        case measure => simp [intOf]; omega
      · clear hO hsF startF
        have HXF := hH
        clear hH
        go_wp2_with fail
        have memL : (⟨w2.heap.size, w3.heap.size, 58, 3, .slice aL LT.length mL, LT.length, LT.flatMap trCells⟩ : Rw) ∈ RF := by
          rw [ERF.out]; exact (List.mem_cons_of_mem _ (List.mem_cons_of_mem _ (List.mem_cons_of_mem _ (List.mem_cons_of_mem _ (List.mem_cons_of_mem _ (List.mem_cons_of_mem _ (List.mem_cons_of_mem _ List.mem_cons_self)))))))
        obtain ⟨RL, eRL⟩ : ∃ x : List Rw, x = [⟨w14.heap.size, w15.heap.size, 60, 2, .slice aU LW.length mU, LW.length, LW.flatMap whCells⟩, ⟨w13.heap.size, w14.heap.size, 58, 3, .slice aK LT.length mK, LT.length, LT.flatMap trCells⟩, ⟨w12.heap.size, w13.heap.size, 56, 4, .slice aQ LF.length mQ, LF.length, LF.flatMap elCells⟩, ⟨w7.heap.size, w8.heap.size, 60, 2, .slice aV LW.length mV, LW.length, LW.flatMap whCells⟩, ⟨w6.heap.size, w7.heap.size, 58, 3, .slice aM LT.length mM, LT.length, LT.flatMap trCells⟩, ⟨w5.heap.size, w6.heap.size, 56, 4, .slice aG LF.length mG, LF.length, LF.flatMap elCells⟩, ⟨w3.heap.size, w4.heap.size, 60, 2, .slice aW LW.length mW, LW.length, LW.flatMap whCells⟩] := ⟨_, rfl⟩
        have subL : ∀ q ∈ RL, q ∈ RF := by
          intro q hq
          rw [eRL] at hq
          simp only [List.mem_cons, List.not_mem_nil, or_false] at hq
          rcases hq with rfl | rfl | rfl | rfl | rfl | rfl | rfl
          · rw [ERF.out]; exact List.mem_cons_self
          · rw [ERF.out]; exact (List.mem_cons_of_mem _ List.mem_cons_self)
          · rw [ERF.out]; exact (List.mem_cons_of_mem _ (List.mem_cons_of_mem _ List.mem_cons_self))
          · rw [ERF.out]; exact (List.mem_cons_of_mem _ (List.mem_cons_of_mem _ (List.mem_cons_of_mem _ List.mem_cons_self)))
          · rw [ERF.out]; exact (List.mem_cons_of_mem _ (List.mem_cons_of_mem _ (List.mem_cons_of_mem _ (List.mem_cons_of_mem _ List.mem_cons_self))))
          · rw [ERF.out]; exact (List.mem_cons_of_mem _ (List.mem_cons_of_mem _ (List.mem_cons_of_mem _ (List.mem_cons_of_mem _ (List.mem_cons_of_mem _ List.mem_cons_self)))))
          · rw [ERF.out]; exact (List.mem_cons_of_mem _ (List.mem_cons_of_mem _ (List.mem_cons_of_mem _ (List.mem_cons_of_mem _ (List.mem_cons_of_mem _ (List.mem_cons_of_mem _ List.mem_cons_self))))))
        have farL : ∀ q ∈ RL, q.E ≠ 58 ∨ w3.heap.size ≤ q.base := by
          intro q hq
          rw [eRL] at hq
          simp only [List.mem_cons, List.not_mem_nil, or_false] at hq
          have zz := zall.out
          rcases hq with rfl | rfl | rfl | rfl | rfl | rfl | rfl
          · left; show (60 : Nat) ≠ 58; decide
          · right; show w3.heap.size ≤ w13.heap.size; omega
          · left; show (56 : Nat) ≠ 58; decide
          · left; show (60 : Nat) ≠ 58; decide
          · right; show w3.heap.size ≤ w6.heap.size; omega
          · left; show (56 : Nat) ≠ 58; decide
          · left; show (60 : Nat) ≠ 58; decide
        have startL := hid (fun hn => HXF.out.over (R' := RL) memL subL farL (by decide) (by show w.heap.size ≤ w2.heap.size; have zz := zall.out; omega) hn)
        have ERL := hid eRL
        have hsL := hid (HXF.out.sub subL)
        clear eRL subL farL memL HXF
        go_loopw [28] (fun t wr => ∃ k : Nat, t = .int .i64 k ∧ k ≤ LT.length ∧ Hid (Hs w RL FF wr) ∧ (0 < LT.length → ∃ g, aL = some ⟨g, 0, none⟩ ∧ Hid (Hv w g 58 (LT.length * 3) RL FF wr))) (fun t _ => LT.length - (intOf t).toNat)
        case atStart =>
          refine ⟨0, rfl, Nat.zero_le _, hsL, fun hn => ?_⟩
          obtain ⟨g, e, hv⟩ := startL.out hn
          exact ⟨g, e, hid hv⟩
        case round =>
          obtain ⟨k, rfl, hk, hH, hO⟩ := hrel
          by_cases hkn : k < LT.length
          · obtain ⟨g, rfl, hv⟩ := hO (by omega)
            have hk' : (k : Int) < (LT.length : Int) := by omega
            have hk0 : (0 : Int) ≤ (k : Int) := by omega
            obtain ⟨⟨u0, d0⟩, f0⟩ := hv.out.cell (k * 3) (by omega)
            obtain ⟨⟨u1, d1⟩, f1⟩ := hv.out.cell (k * 3 + 1) (by omega)
            obtain ⟨⟨u2, d2⟩, f2⟩ := hv.out.cell (k * 3 + 2) (by omega)
            haveI : Has wr g := ⟨hv.out.lt⟩
            go_wp2_with fail
            go_roundw
            case rel =>
              refine ⟨k + 1, by rfl, by omega, ?_⟩
              exact Hv.both ((((hv.out.store _ _).store _ _).store _ _))
            case measure => simp [intOf]; omega
          · clear hO hsL startL
            have HXL := hH
            clear hH
            go_wp2_with fail
            have memW : (⟨w3.heap.size, w4.heap.size, 60, 2, .slice aW LW.length mW, LW.length, LW.flatMap whCells⟩ : Rw) ∈ RL := by
              rw [ERL.out]; exact (List.mem_cons_of_mem _ (List.mem_cons_of_mem _ (List.mem_cons_of_mem _ (List.mem_cons_of_mem _ (List.mem_cons_of_mem _ (List.mem_cons_of_mem _ List.mem_cons_self))))))
            obtain ⟨RW, eRW⟩ : ∃ x : List Rw, x = [⟨w14.heap.size, w15.heap.size, 60, 2, .slice aU LW.length mU, LW.length, LW.flatMap whCells⟩, ⟨w13.heap.size, w14.heap.size, 58, 3, .slice aK LT.length mK, LT.length, LT.flatMap trCells⟩, ⟨w12.heap.size, w13.heap.size, 56, 4, .slice aQ LF.length mQ, LF.length, LF.flatMap elCells⟩, ⟨w7.heap.size, w8.heap.size, 60, 2, .slice aV LW.length mV, LW.length, LW.flatMap whCells⟩, ⟨w6.heap.size, w7.heap.size, 58, 3, .slice aM LT.length mM, LT.length, LT.flatMap trCells⟩, ⟨w5.heap.size, w6.heap.size, 56, 4, .slice aG LF.length mG, LF.length, LF.flatMap elCells⟩] := ⟨_, rfl⟩
            have subW : ∀ q ∈ RW, q ∈ RL := by
              intro q hq
              rw [eRW] at hq
              simp only [List.mem_cons, List.not_mem_nil, or_false] at hq
              rcases hq with rfl | rfl | rfl | rfl | rfl | rfl
              · rw [ERL.out]; exact List.mem_cons_self
              · rw [ERL.out]; exact (List.mem_cons_of_mem _ List.mem_cons_self)
              · rw [ERL.out]; exact (List.mem_cons_of_mem _ (List.mem_cons_of_mem _ List.mem_cons_self))
              · rw [ERL.out]; exact (List.mem_cons_of_mem _ (List.mem_cons_of_mem _ (List.mem_cons_of_mem _ List.mem_cons_self)))
              · rw [ERL.out]; exact (List.mem_cons_of_mem _ (List.mem_cons_of_mem _ (List.mem_cons_of_mem _ (List.mem_cons_of_mem _ List.mem_cons_self))))
              · rw [ERL.out]; exact (List.mem_cons_of_mem _ (List.mem_cons_of_mem _ (List.mem_cons_of_mem _ (List.mem_cons_of_mem _ (List.mem_cons_of_mem _ List.mem_cons_self)))))
            have farW : ∀ q ∈ RW, q.E ≠ 60 ∨ w4.heap.size ≤ q.base := by
              intro q hq
              rw [eRW] at hq
              simp only [List.mem_cons, List.not_mem_nil, or_false] at hq
              have zz := zall.out
              rcases hq with rfl | rfl | rfl | rfl | rfl | rfl
              · right; show w4.heap.size ≤ w14.heap.size; omega
              · left; show (58 : Nat) ≠ 60; decide
              · left; show (56 : Nat) ≠ 60; decide
              · right; show w4.heap.size ≤ w7.heap.size; omega
              · left; show (58 : Nat) ≠ 60; decide
              · left; show (56 : Nat) ≠ 60; decide
            have startW := hid (fun hn => HXL.out.over (R' := RW) memW subW farW (by decide) (by show w.heap.size ≤ w3.heap.size; have zz := zall.out; omega) hn)
            have ERW := hid eRW
            have hsW := hid (HXL.out.sub subW)
            clear eRW subW farW memW HXL
            go_loopw [29] (fun t wr => ∃ k : Nat, t = .int .i64 k ∧ k ≤ LW.length ∧ Hid (Hs w RW FF wr) ∧ (0 < LW.length → ∃ g, aW = some ⟨g, 0, none⟩ ∧ Hid (Hv w g 60 (LW.length * 2) RW FF wr))) (fun t _ => LW.length - (intOf t).toNat)
            case atStart =>
              refine ⟨0, rfl, Nat.zero_le _, hsW, fun hn => ?_⟩
              obtain ⟨g, e, hv⟩ := startW.out hn
              exact ⟨g, e, hid hv⟩
            case round =>
              obtain ⟨k, rfl, hk, hH, hO⟩ := hrel
              by_cases hkn : k < LW.length
              · obtain ⟨g, rfl, hv⟩ := hO (by omega)
                have hk' : (k : Int) < (LW.length : Int) := by omega
                have hk0 : (0 : Int) ≤ (k : Int) := by omega
                obtain ⟨⟨u0, d0⟩, f0⟩ := hv.out.cell (k * 2) (by omega)
                obtain ⟨⟨u1, d1⟩, f1⟩ := hv.out.cell (k * 2 + 1) (by omega)
                haveI : Has wr g := ⟨hv.out.lt⟩
                go_wp2_with fail
                go_roundw
                case rel =>
                  refine ⟨k + 1, by rfl, by omega, ?_⟩
                  exact Hv.both (((hv.out.store _ _).store _ _))
                case measure => simp [intOf]; omega
              · clear hO hsW startW
                have HXW := hH
                clear hH
                have zQ := cell_of_block (HXW.out.fix (w13.heap.size, #[.slice aQ LF.length mQ], 25) (by rw [eFF.out]; exact (List.mem_append_right _ (List.mem_append_right _ List.mem_cons_self)))) 0
                simp at zQ
                haveI : Has wr (w13.heap.size) := ⟨lt_of_block (HXW.out.fix (w13.heap.size, #[.slice aQ LF.length mQ], 25) (by rw [eFF.out]; exact (List.mem_append_right _ (List.mem_append_right _ List.mem_cons_self))))⟩
                have zG := cell_of_block (HXW.out.fix (w6.heap.size, #[.slice aG LF.length mG], 25) (by rw [eFF.out]; exact (List.mem_append_right _ (List.mem_append_right _ (List.mem_cons_of_mem _ (List.mem_append_right _ (List.mem_cons_of_mem _ (List.mem_cons_of_mem _ (List.mem_cons_of_mem _ (List.mem_cons_of_mem _ List.mem_cons_self)))))))))) 0
                simp at zG
                haveI : Has wr (w6.heap.size) := ⟨lt_of_block (HXW.out.fix (w6.heap.size, #[.slice aG LF.length mG], 25) (by rw [eFF.out]; exact (List.mem_append_right _ (List.mem_append_right _ (List.mem_cons_of_mem _ (List.mem_append_right _ (List.mem_cons_of_mem _ (List.mem_cons_of_mem _ (List.mem_cons_of_mem _ (List.mem_cons_of_mem _ List.mem_cons_self))))))))))⟩
                go_wp2_with fail
                have o1 := HXW.out.rows ⟨w12.heap.size, w13.heap.size, 56, 4, .slice aQ LF.length mQ, LF.length, LF.flatMap elCells⟩ (by rw [ERW.out]; exact (List.mem_cons_of_mem _ (List.mem_cons_of_mem _ List.mem_cons_self)))
                have o2 := HXW.out.rows ⟨w5.heap.size, w6.heap.size, 56, 4, .slice aG LF.length mG, LF.length, LF.flatMap elCells⟩ (by rw [ERW.out]; exact (List.mem_cons_of_mem _ (List.mem_cons_of_mem _ (List.mem_cons_of_mem _ (List.mem_cons_of_mem _ (List.mem_cons_of_mem _ List.mem_cons_self))))))
                refine (same15_self LF hFl _ _ _ _ _ o1 o2).mono ?_
                rintro e w16 ⟨rfl, hb⟩
                have H16 := hid (HXW.out.quiet hb)
                clear hb HXW o1 o2 zQ zG
                go_wp2_with fail
                have o1 := H16.out.rows ⟨w13.heap.size, w14.heap.size, 58, 3, .slice aK LT.length mK, LT.length, LT.flatMap trCells⟩ (by rw [ERW.out]; exact (List.mem_cons_of_mem _ List.mem_cons_self))
                have o2 := H16.out.rows ⟨w6.heap.size, w7.heap.size, 58, 3, .slice aM LT.length mM, LT.length, LT.flatMap trCells⟩ (by rw [ERW.out]; exact (List.mem_cons_of_mem _ (List.mem_cons_of_mem _ (List.mem_cons_of_mem _ (List.mem_cons_of_mem _ List.mem_cons_self)))))
                refine (same16_self LT hLl _ _ _ _ _ o1 o2).mono ?_
                rintro e w17 ⟨rfl, hb⟩
                have H17 := hid (H16.out.quiet hb)
                clear hb H16 o1 o2
                go_wp2_with fail
                have o1 := H17.out.rows ⟨w14.heap.size, w15.heap.size, 60, 2, .slice aU LW.length mU, LW.length, LW.flatMap whCells⟩ (by rw [ERW.out]; exact List.mem_cons_self)
                have o2 := H17.out.rows ⟨w7.heap.size, w8.heap.size, 60, 2, .slice aV LW.length mV, LW.length, LW.flatMap whCells⟩ (by rw [ERW.out]; exact (List.mem_cons_of_mem _ (List.mem_cons_of_mem _ (List.mem_cons_of_mem _ List.mem_cons_self))))
                refine (same17_self LW hWl _ _ _ _ _ o1 o2).mono ?_
                rintro e w18 ⟨rfl, hb⟩
                have H18 := hid (H17.out.quiet hb)
                clear hb H17 o1 o2
                have y0 := cell_of_block (H18.out.fix (w6.heap.size + 1, #[.int .i64 c1, .int .i64 p1], 41) (by rw [eFF.out]; exact (List.mem_append_right _ (List.mem_append_right _ (List.mem_cons_of_mem _ (List.mem_append_right _ (List.mem_cons_of_mem _ (List.mem_cons_of_mem _ (List.mem_cons_of_mem _ List.mem_cons_self))))))))) 0
                have y1 := cell_of_block (H18.out.fix (w6.heap.size + 1, #[.int .i64 c1, .int .i64 p1], 41) (by rw [eFF.out]; exact (List.mem_append_right _ (List.mem_append_right _ (List.mem_cons_of_mem _ (List.mem_append_right _ (List.mem_cons_of_mem _ (List.mem_cons_of_mem _ (List.mem_cons_of_mem _ List.mem_cons_self))))))))) 1
                simp at y0 y1
                haveI : Has w18 (w6.heap.size + 1) := ⟨lt_of_block (H18.out.fix (w6.heap.size + 1, #[.int .i64 c1, .int .i64 p1], 41) (by rw [eFF.out]; exact (List.mem_append_right _ (List.mem_append_right _ (List.mem_cons_of_mem _ (List.mem_append_right _ (List.mem_cons_of_mem _ (List.mem_cons_of_mem _ (List.mem_cons_of_mem _ List.mem_cons_self)))))))))⟩
                go_wp2_with fail
                refine (says_self vt1 c1 p1 _ (H18.out.vars V'.out h8) (H18.out.h8 h8) (t1h.out.says (fun q hq => H18.out.fix q (by rw [eFF.out]; exact (List.mem_append_right _ (List.mem_append_right _ (List.mem_cons_of_mem _ (List.mem_append_right _ (List.mem_cons_of_mem _ (List.mem_cons_of_mem _ (List.mem_cons_of_mem _ (List.mem_cons_of_mem _ (List.mem_cons_of_mem _ (List.mem_append_right _ (List.mem_append_right _ (List.mem_append_right _ (List.mem_cons_of_mem _ (List.mem_append_left _ hq)))))))))))))))))).mono ?_
                rintro e w19 ⟨rfl, hb⟩
                have H19 := hid (H18.out.quiet hb)
                clear hb H18 y0 y1
                have y0 := cell_of_block (H19.out.fix (w7.heap.size, #[.int .i64 c2, .int .i64 p2], 41) (by rw [eFF.out]; exact (List.mem_append_right _ (List.mem_append_right _ (List.mem_cons_of_mem _ (List.mem_append_right _ (List.mem_cons_of_mem _ (List.mem_cons_of_mem _ List.mem_cons_self)))))))) 0
                have y1 := cell_of_block (H19.out.fix (w7.heap.size, #[.int .i64 c2, .int .i64 p2], 41) (by rw [eFF.out]; exact (List.mem_append_right _ (List.mem_append_right _ (List.mem_cons_of_mem _ (List.mem_append_right _ (List.mem_cons_of_mem _ (List.mem_cons_of_mem _ List.mem_cons_self)))))))) 1
                simp at y0 y1
                haveI : Has w19 (w7.heap.size) := ⟨lt_of_block (H19.out.fix (w7.heap.size, #[.int .i64 c2, .int .i64 p2], 41) (by rw [eFF.out]; exact (List.mem_append_right _ (List.mem_append_right _ (List.mem_cons_of_mem _ (List.mem_append_right _ (List.mem_cons_of_mem _ (List.mem_cons_of_mem _ List.mem_cons_self))))))))⟩
                go_wp2_with fail
                refine (says_self vt2 c2 p2 _ (H19.out.vars V'.out h8) (H19.out.h8 h8) (t2h.out.says (fun q hq => H19.out.fix q (by rw [eFF.out]; exact (List.mem_append_right _ (List.mem_append_right _ (List.mem_cons_of_mem _ (List.mem_append_right _ (List.mem_cons_of_mem _ (List.mem_cons_of_mem _ (List.mem_cons_of_mem _ (List.mem_cons_of_mem _ (List.mem_cons_of_mem _ (List.mem_append_right _ (List.mem_append_right _ (List.mem_append_left _ hq)))))))))))))))).mono ?_
                rintro e w20 ⟨rfl, hb⟩
                have H20 := hid (H19.out.quiet hb)
                clear hb H19 y0 y1
                have y0 := cell_of_block (H20.out.fix (w8.heap.size, #[.int .i64 c3, .int .i64 p3], 41) (by rw [eFF.out]; exact (List.mem_append_right _ (List.mem_append_right _ (List.mem_cons_of_mem _ (List.mem_append_right _ (List.mem_cons_of_mem _ List.mem_cons_self))))))) 0
                have y1 := cell_of_block (H20.out.fix (w8.heap.size, #[.int .i64 c3, .int .i64 p3], 41) (by rw [eFF.out]; exact (List.mem_append_right _ (List.mem_append_right _ (List.mem_cons_of_mem _ (List.mem_append_right _ (List.mem_cons_of_mem _ List.mem_cons_self))))))) 1
                simp at y0 y1
                haveI : Has w20 (w8.heap.size) := ⟨lt_of_block (H20.out.fix (w8.heap.size, #[.int .i64 c3, .int .i64 p3], 41) (by rw [eFF.out]; exact (List.mem_append_right _ (List.mem_append_right _ (List.mem_cons_of_mem _ (List.mem_append_right _ (List.mem_cons_of_mem _ List.mem_cons_self)))))))⟩
                go_wp2_with fail
                refine (says_self vt3 c3 p3 _ (H20.out.vars V'.out h8) (H20.out.h8 h8) (t3h.out.says (fun q hq => H20.out.fix q (by rw [eFF.out]; exact (List.mem_append_right _ (List.mem_append_right _ (List.mem_cons_of_mem _ (List.mem_append_right _ (List.mem_cons_of_mem _ (List.mem_cons_of_mem _ (List.mem_cons_of_mem _ (List.mem_cons_of_mem _ (List.mem_cons_of_mem _ (List.mem_append_right _ (List.mem_append_left _ hq))))))))))))))).mono ?_
                rintro e w21 ⟨rfl, hb⟩
                have H21 := hid (H20.out.quiet hb)
                clear hb H20 y0 y1
                have y0 := cell_of_block (H21.out.fix (w9.heap.size, #[.int .i64 c4, .int .i64 p4], 41) (by rw [eFF.out]; exact (List.mem_append_right _ (List.mem_append_right _ (List.mem_cons_of_mem _ (List.mem_append_right _ List.mem_cons_self)))))) 0
                have y1 := cell_of_block (H21.out.fix (w9.heap.size, #[.int .i64 c4, .int .i64 p4], 41) (by rw [eFF.out]; exact (List.mem_append_right _ (List.mem_append_right _ (List.mem_cons_of_mem _ (List.mem_append_right _ List.mem_cons_self)))))) 1
                simp at y0 y1
                haveI : Has w21 (w9.heap.size) := ⟨lt_of_block (H21.out.fix (w9.heap.size, #[.int .i64 c4, .int .i64 p4], 41) (by rw [eFF.out]; exact (List.mem_append_right _ (List.mem_append_right _ (List.mem_cons_of_mem _ (List.mem_append_right _ List.mem_cons_self))))))⟩
                go_wp2_with fail
                refine (says_self vt4 c4 p4 _ (H21.out.vars V'.out h8) (H21.out.h8 h8) (t4h.out.says (fun q hq => H21.out.fix q (by rw [eFF.out]; exact (List.mem_append_right _ (List.mem_append_right _ (List.mem_cons_of_mem _ (List.mem_append_right _ (List.mem_cons_of_mem _ (List.mem_cons_of_mem _ (List.mem_cons_of_mem _ (List.mem_cons_of_mem _ (List.mem_cons_of_mem _ (List.mem_append_left _ hq)))))))))))))).mono ?_
                rintro e w22 ⟨rfl, hb⟩
                have H22 := hid (H21.out.quiet hb)
                clear hb H21 y0 y1
                have y0 := cell_of_block (H22.out.fix (w6.heap.size + 1, #[.int .i64 c1, .int .i64 p1], 41) (by rw [eFF.out]; exact (List.mem_append_right _ (List.mem_append_right _ (List.mem_cons_of_mem _ (List.mem_append_right _ (List.mem_cons_of_mem _ (List.mem_cons_of_mem _ (List.mem_cons_of_mem _ List.mem_cons_self))))))))) 0
                have y1 := cell_of_block (H22.out.fix (w6.heap.size + 1, #[.int .i64 c1, .int .i64 p1], 41) (by rw [eFF.out]; exact (List.mem_append_right _ (List.mem_append_right _ (List.mem_cons_of_mem _ (List.mem_append_right _ (List.mem_cons_of_mem _ (List.mem_cons_of_mem _ (List.mem_cons_of_mem _ List.mem_cons_self))))))))) 1
                simp at y0 y1
                haveI : Has w22 (w6.heap.size + 1) := ⟨lt_of_block (H22.out.fix (w6.heap.size + 1, #[.int .i64 c1, .int .i64 p1], 41) (by rw [eFF.out]; exact (List.mem_append_right _ (List.mem_append_right _ (List.mem_cons_of_mem _ (List.mem_append_right _ (List.mem_cons_of_mem _ (List.mem_cons_of_mem _ (List.mem_cons_of_mem _ List.mem_cons_self)))))))))⟩
                go_wp2_with fail
                refine (says_self vt5 c1 p1 _ (H22.out.vars V'.out h8) (H22.out.h8 h8) (t5h.out.says (fun q hq => H22.out.fix q (by rw [eFF.out]; exact (List.mem_append_right _ (List.mem_append_right _ (List.mem_cons_of_mem _ (List.mem_append_left _ hq)))))))).mono ?_
                rintro e w23 ⟨rfl, hb⟩
                have H23 := hid (H22.out.quiet hb)
                clear hb H22 y0 y1
                have y0 := cell_of_block (H23.out.fix (w7.heap.size, #[.int .i64 c2, .int .i64 p2], 41) (by rw [eFF.out]; exact (List.mem_append_right _ (List.mem_append_right _ (List.mem_cons_of_mem _ (List.mem_append_right _ (List.mem_cons_of_mem _ (List.mem_cons_of_mem _ List.mem_cons_self)))))))) 0
                have y1 := cell_of_block (H23.out.fix (w7.heap.size, #[.int .i64 c2, .int .i64 p2], 41) (by rw [eFF.out]; exact (List.mem_append_right _ (List.mem_append_right _ (List.mem_cons_of_mem _ (List.mem_append_right _ (List.mem_cons_of_mem _ (List.mem_cons_of_mem _ List.mem_cons_self)))))))) 1
                simp at y0 y1
                haveI : Has w23 (w7.heap.size) := ⟨lt_of_block (H23.out.fix (w7.heap.size, #[.int .i64 c2, .int .i64 p2], 41) (by rw [eFF.out]; exact (List.mem_append_right _ (List.mem_append_right _ (List.mem_cons_of_mem _ (List.mem_append_right _ (List.mem_cons_of_mem _ (List.mem_cons_of_mem _ List.mem_cons_self))))))))⟩
                go_wp2_with fail
                refine (says_self vt6 c2 p2 _ (H23.out.vars V'.out h8) (H23.out.h8 h8) (t6h.out.says (fun q hq => H23.out.fix q (by rw [eFF.out]; exact (List.mem_append_right _ (List.mem_append_left _ hq)))))).mono ?_
                rintro e w24 ⟨rfl, hb⟩
                have H24 := hid (H23.out.quiet hb)
                clear hb H23 y0 y1
                have y0 := cell_of_block (H24.out.fix (w8.heap.size, #[.int .i64 c3, .int .i64 p3], 41) (by rw [eFF.out]; exact (List.mem_append_right _ (List.mem_append_right _ (List.mem_cons_of_mem _ (List.mem_append_right _ (List.mem_cons_of_mem _ List.mem_cons_self))))))) 0
                have y1 := cell_of_block (H24.out.fix (w8.heap.size, #[.int .i64 c3, .int .i64 p3], 41) (by rw [eFF.out]; exact (List.mem_append_right _ (List.mem_append_right _ (List.mem_cons_of_mem _ (List.mem_append_right _ (List.mem_cons_of_mem _ List.mem_cons_self))))))) 1
                simp at y0 y1
                haveI : Has w24 (w8.heap.size) := ⟨lt_of_block (H24.out.fix (w8.heap.size, #[.int .i64 c3, .int .i64 p3], 41) (by rw [eFF.out]; exact (List.mem_append_right _ (List.mem_append_right _ (List.mem_cons_of_mem _ (List.mem_append_right _ (List.mem_cons_of_mem _ List.mem_cons_self)))))))⟩
                go_wp2_with fail
                refine (says_self vt7 c3 p3 _ (H24.out.vars V'.out h8) (H24.out.h8 h8) (t7h.out.says (fun q hq => H24.out.fix q (by rw [eFF.out]; exact (List.mem_append_left _ hq))))).mono ?_
                rintro e w25 ⟨rfl, hb⟩
                have H25 := hid (H24.out.quiet hb)
                clear hb H24 y0 y1
                go_wp2_with fail
                go_ret
                exact ⟨rfl, H25.out.below⟩
end Go.Proofs.YtnagagcgmfkjjaaGreatDoor
