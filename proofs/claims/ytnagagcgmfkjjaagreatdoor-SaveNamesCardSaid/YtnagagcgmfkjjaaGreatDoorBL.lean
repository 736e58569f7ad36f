/- The document's reader of numbers. -/
import Derived.Test.YtnagagcgmfkjjaaGreatDoorBE
set_option linter.unusedSimpArgs false
set_option linter.unusedVariables false
namespace Go.Proofs.YtnagagcgmfkjjaaGreatDoor
open Go.RowKit

theorem must_at (l : By) : ∀ (ws : List By) (st : St), st.1 ≤ l.length → st.2 ≤ (l.length : Int) → (mustS l ws st).2 ≤ (l.length : Int) := by
  intro ws
  induction ws with
  | nil => intro st h h2; exact h2
  | cons x ws ih =>
    intro st h h2
    by_cases h0 : st.2 < 0
    · rw [mustS, if_pos h0]
      by_cases hw : x.isPrefixOf (l.drop st.1) = true
      · rw [if_pos hw]
        refine ih _ ?_ h2
        obtain ⟨t, ht⟩ := List.isPrefixOf_iff_prefix.1 hw
        have : (l.drop st.1).length = x.length + t.length := by rw [← ht]; simp
        simp at this
        show st.1 + x.length ≤ l.length
        omega
      · rw [if_neg hw]; show (st.1 : Int) ≤ _; omega
    · rw [must_not l _ _ h0]; exact h2
theorem sixteen_at (l : By) (st : St) (h : st.1 ≤ l.length) (h2 : st.2 ≤ (l.length : Int)) : (sixteenS l st).2.2 ≤ (l.length : Int) := by
  unfold sixteenS
  by_cases h0 : st.2 < 0
  · simp only [if_pos h0]
    split
    · exact h2
    · show (st.1 : Int) ≤ _; omega
  · simp only [if_neg h0]; exact h2
theorem float_at (l : By) (st : St) (h : st.1 ≤ l.length) (h2 : st.2 ≤ (l.length : Int)) : (floatS l st).2.2 ≤ (l.length : Int) := by
  unfold floatS
  have := sixteen_at l st h h2
  by_cases hb : bitsS (sixteenS l st).1 = (sixteenS l st).1
  · simp only [if_pos hb]; exact this
  · simp only [if_neg hb]
    unfold wrongS
    split
    · show (st.1 : Int) ≤ _; omega
    · exact this
theorem num_at (l : By) (st : St) (h : st.1 ≤ l.length) (h2 : st.2 ≤ (l.length : Int)) : (numS l st).2.2 ≤ (l.length : Int) := by
  unfold numS
  have h3 := float_le l st h
  exact float_at l _ (must_le l _ _ h3) (must_at l _ _ h3 (float_at l st h h2))
set_option maxRecDepth 100000 in
set_option maxHeartbeats 8000000 in
theorem dreadN_any (s : ByteArray) (hs : s.size ≤ 70000) (w : World) :
    Calls Tryz.prog 14 #[.string s] w fun e w' => e = .returned (.tuple #[.complex .f64 (readN s.data.toList).1.1 (readN s.data.toList).1.2, .agg #[.int .i64 (readN s.data.toList).2.1, .int .i64 (readN s.data.toList).2.2]]) ∧ Below w.heap.size w w' := by
  obtain ⟨Q, hQ⟩ : ∃ Q, Q = readN s.data.toList := ⟨_, rfl⟩
  rw [← hQ]
  unfold readN at hQ
  by_cases hlong : 65536 < s.size
  · have hd : decide (65536 < s.size) = true := by simpa using hlong
    rw [if_pos (by rw [size_list]; exact hlong)] at hQ
    have HQ := hid hQ
    clear hQ
    go_enter Tryz.func14, Tryz.ntmps14
    go_wp2_with (go_at_call 40; ((with_reducible refine (rlong_any _ _).mono ?_); rintro e w' ⟨rfl, rfl⟩; rw [hd]))
    refine bodyPost_ret (v := .tuple #[.complex .f64 0 0, .agg #[.int .i64 3, .int .i64 0]]) (by simp [results, Tryz.results14, go_sem]) rfl ⟨by rw [HQ.out], ?_⟩
    (repeat' (first | exact Below.refl _ _ | (refine Below.alloc ?_ ?_ _) | (refine Below.drew ?_) | (refine Below.setCell ?_ ?_ _) | (simp; done) | (simp; omega) | assumption))
  · have hd : decide (65536 < s.size) = false := by simpa using hlong
    rw [if_neg (by rw [size_list]; exact hlong)] at hQ
    simp only [size_list] at hQ
    have hi := num_le s.data.toList (0, -1) (Nat.zero_le _)
    have ha := num_at s.data.toList (0, -1) (Nat.zero_le _) (by show (-1 : Int) ≤ _; omega)
    have hnd := num_doc s.data.toList
    rw [size_list] at hi ha
    obtain ⟨t, ht⟩ : ∃ t : ByteArray, t = ⟨#[32]⟩ ++ s := ⟨_, rfl⟩
    have htl : t.data.toList = 32 :: s.data.toList := by rw [ht, ba_append]; rfl
    have hts : t.size = s.size + 1 := by rw [← size_list t, htl, List.length_cons, size_list]
    rw [← htl] at hnd
    generalize numS s.data.toList (0, -1) = r at hQ hi ha hnd
    obtain ⟨⟨v1, v2⟩, i, a⟩ := r
    simp only [] at hQ hi ha hnd
    have HT := hid ht
    have HQ := hid hQ
    have HND := hid hnd
    have R0 : Hid (Rr ((w.alloc (.cells #[.int .i64 0, .int .i64 0] 41)).alloc (.cells #[.string t, .int .i64 0, .bool false, .int .i64 0] 96)) (w.heap.size + 1) t ((0, -1) : St).1 ((0, -1) : St).2) := hid (by unfold Rr; simp only [block_alloc', block_at]; rfl)
    have B0 : Hid (((w.alloc (.cells #[.int .i64 0, .int .i64 0] 41)).alloc (.cells #[.string t, .int .i64 0, .bool false, .int .i64 0] 96)).heap[w.heap.size]? = some (.cells #[.int .i64 0, .int .i64 0] 41 (0, 0))) := hid (by simp only [block_alloc', block_at])
    have K0 : Hid (Keeps w.heap.size [] w ((w.alloc (.cells #[.int .i64 0, .int .i64 0] 41)).alloc (.cells #[.string t, .int .i64 0, .bool false, .int .i64 0] 96))) := hid (((Keeps.refl _ _ _).alloc (Nat.le_refl _) _).alloc (by simp) _)
    clear hQ ht hnd htl
    go_enter Tryz.func14, Tryz.ntmps14
    go_wp2_with (go_at_call 40; ((with_reducible refine (rlong_any _ _).mono ?_); rintro e w' ⟨rfl, rfl⟩; rw [hd]))
    rw [← HT.out]
    refine (rnumber_any (w.heap.size + 1) t (0, -1) _ R0.out (Nat.zero_le _) (by omega)).mono ?_
    rintro e w1 ⟨rfl, hR, hK⟩
    rw [HND.out] at hR ⊢
    simp only [shS] at hR ⊢
    have hB := (hK.block w.heap.size (by simp; omega) (by simp)).trans B0.out
    have K1 := hid (K0.out.trans (hK.mono (by simp; omega) (fun j hj hm => by simp at hm; omega)))
    have z0 := cell_of_block hR 0
    have z1 := cell_of_block hR 1
    have z2 := cell_of_block hR 2
    have z3 := cell_of_block hR 3
    simp at z0 z1 z2 z3
    have b0 := cell_of_block hB 0
    have b1 := cell_of_block hB 1
    have f0 := free_of_block hB 0
    have f1 := free_of_block hB 1
    simp at b0 b1
    haveI : Has w1 (w.heap.size + 1) := ⟨lt_of_block hR⟩
    haveI : Has w1 w.heap.size := ⟨lt_of_block hB⟩
    have R1 := hid hR
    have BB1 := hid hB
    clear hR hB hK R0 B0 K0
    have hsz1 := K1.out.size
    by_cases h7 : a < 0
    · have hsh : shA a = a := if_pos h7
      rw [hsh] at z2 z3 R1
      have hd2 : decide (0 ≤ a) = false := by simpa using h7
      rw [hd2] at z2
      rw [if_pos h7] at HQ
      by_cases h8 : i < s.size
      · have h8' : ((i : Int) + 1) < (t.size : Int) := by omega
        have h8'' : decide (i + 1 < t.size) = true := by simp; omega
        rw [if_pos h8] at HQ
        clear h8
        go_wp2_with fail
        go_quiet (fail)
        go_wp2_with fail
        refine (rwrong_any (w.heap.size + 1) t (i + 1) a (i + 1) _ (show Rr (w1.drewN nq) (w.heap.size + 1) t (i + 1) a from R1.out)).mono ?_
        rintro e w2 ⟨rfl, hR, hK⟩
        rw [if_pos h7] at hR
        have hB := (hK.block w.heap.size (by simp; exact lt_of_block BB1.out) (by simp)).trans BB1.out
        have K2 := hid ((K1.out.drewN nq).trans (hK.mono hsz1 (fun j hj hm => by simp at hm; omega)))
        clear z0 z1 z2 z3 b0 b1 f0 f1
        have z2 := cell_of_block hR 2
        have z3 := cell_of_block hR 3
        simp at z2 z3
        have b0 := cell_of_block hB 0
        have b1 := cell_of_block hB 1
        have f0 := free_of_block hB 0
        have f1 := free_of_block hB 1
        simp at b0 b1
        haveI : Has w2 (w.heap.size + 1) := ⟨lt_of_block hR⟩
        haveI : Has w2 w.heap.size := ⟨lt_of_block hB⟩
        have hd3 : decide ((0 : Int) ≤ (i : Int) + 1) = true := by simp; omega
        have hc3 : (if (0 : Int) ≤ (i : Int) + 1 then (i : Int) + 1 else 0) = (i : Int) + 1 := if_pos (by omega)
        try rw [hd3] at z2
        try rw [hc3] at z3
        have hwr : IntKind.i64.wrap ((i : Int) + 1 - 1) = (i : Int) := by rw [show (i : Int) + 1 - 1 = (i : Int) by omega]; exact IntWalk.i64_in _ (by omega)
        have hwr2 : (i : Int) + 1 - 1 = (i : Int) := by omega
        have hw64 : RowKit.wrap64 (i : Int) = (i : Int) := by unfold RowKit.wrap64; omega
        clear hR hB hK h8' h8'' hd3 hc3
        go_wp2_with fail
        go_region
        all_goals
          go_wp2_with fail
          refine bodyPost_ret (v := .tuple #[.complex .f64 0 0, .agg #[.int .i64 290, .int .i64 i]]) (by simp [results, Tryz.results14, go_sem, b0, b1, hwr, hwr2, hw64]) rfl ⟨by rw [HQ.out], ?_⟩
          have K3 := K2.out
          exact Keeps.below (by repeat' (first | exact K3 | (refine Keeps.set ?_ (Or.inr (Nat.le_refl _)) _ _) | (refine Keeps.drewN ?_ _) | (refine Keeps.drew ?_)))
      · have h8' : ¬ ((i : Int) + 1) < (t.size : Int) := by omega
        have h8'' : decide (i + 1 < t.size) = false := by simp; omega
        rw [if_neg h8] at HQ
        clear h8
        go_wp2_with fail
        go_quiet (fail)
        go_wp2_with fail
        (try go_region)
        all_goals
          (try go_wp2_with fail)
          refine bodyPost_ret (v := .tuple #[.complex .f64 v1 v2, .agg #[.int .i64 0, .int .i64 0]]) (by simp [results, Tryz.results14, go_sem, b0, b1]) rfl ⟨by rw [HQ.out], ?_⟩
          have K3 := K1.out
          exact Keeps.below (by repeat' (first | exact K3 | (refine Keeps.set ?_ (Or.inr (Nat.le_refl _)) _ _) | (refine Keeps.drewN ?_ _) | (refine Keeps.drew ?_)))
    · have hsh : shA a = a + 1 := if_neg h7
      rw [hsh] at z2 z3 R1
      have hd2 : decide (0 ≤ a + 1) = true := by simp; omega
      rw [hd2] at z2
      rw [if_pos (show 0 ≤ a + 1 by omega)] at z3
      rw [if_neg h7] at HQ
      have hwr : IntKind.i64.wrap (a + 1 - 1) = a := by rw [show a + 1 - 1 = a by omega]; exact IntWalk.i64_in _ (by omega)
      have hwr2 : a + 1 - 1 = a := by omega
      have hw64 : RowKit.wrap64 a = a := by unfold RowKit.wrap64; omega
      clear ha
      go_wp2_with fail
      go_quiet (fail)
      go_wp2_with fail
      go_region
      all_goals
        go_wp2_with fail
        refine bodyPost_ret (v := .tuple #[.complex .f64 0 0, .agg #[.int .i64 290, .int .i64 a]]) (by simp [results, Tryz.results14, go_sem, b0, b1, hwr, hwr2, hw64]) rfl ⟨by rw [HQ.out], ?_⟩
        have K3 := K1.out
        exact Keeps.below (by repeat' (first | exact K3 | (refine Keeps.set ?_ (Or.inr (Nat.le_refl _)) _ _) | (refine Keeps.drewN ?_ _) | (refine Keeps.drew ?_)))
end Go.Proofs.YtnagagcgmfkjjaaGreatDoor
