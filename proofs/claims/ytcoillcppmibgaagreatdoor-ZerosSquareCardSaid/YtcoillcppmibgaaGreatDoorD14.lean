/- Shifted up; products into one of the two. Sums of fractions. Rows; whole numbers by instances. Exact numbers: products. Exact numbers: sums and squares. Exact numbers of floats. The least float whose square is enough. Exact numbers by their parts. -/
import Derived.Test.YtcoillcppmibgaaGreatDoorD13
import Derived.Deep.AppendLies
set_option linter.unusedSimpArgs false
set_option linter.unusedVariables false
namespace Go.Proofs.YtcoillcppmibgaaGreatDoor
section
open Go.RowKit
namespace Big
set_option maxRecDepth 100000 in
set_option maxHeartbeats 16000000 in
theorem biLsh (gz gx T : Nat) (z0 z1 : Value) (R : List Value) (n : Int) (k : Nat) (w : World) (hz : Bk w gz (z0 :: z1 :: R) T) (hx : Ia w gx n) (ln : (words n.natAbs).length ≤ 1073741824) (hk : k ≤ 1073741824) (s : Int) (hs : s = n * 2 ^ k) :
    Calls Tryz.prog 43 #[.pointer (some ⟨gz, 0, none⟩), .pointer (some ⟨gx, 0, none⟩), .int .u64 k] w fun e w' => e = .returned (.pointer (some ⟨gz, 0, none⟩)) ∧ Iz R T w' gz s ∧ Keeps w.heap.size [gz] w w' := by
  obtain ⟨vx, Rx, Tx, bx, wx⟩ := hx
  have l2 := two_len k
  have l3 := mul_len n.natAbs (2 ^ k)
  have UP := hid (fun w' (h : Below w.heap.size w w') => bup vx n.natAbs k w' (wx.below h) (by omega) (by omega))
  have SE := hid (fun v w' (h : Below w.heap.size w w') (q : Wd w' v (words (n.natAbs * 2 ^ k))) => biset gz T z0 z1 R (decide (n < 0)) v (n.natAbs * 2 ^ k) w' (hz.below h) q (by omega))
  rw [← sg_neg] at SE
  have hs2 : sg (decide (n < 0)) (n.natAbs * 2 ^ k) = s := by
    rw [hs]
    obtain ⟨P, hP⟩ : ∃ P : Nat, P = 2 ^ k := ⟨_, rfl⟩
    have hP2 : ((2 : Int) ^ k) = (P : Int) := by rw [hP]; exact (Int.natCast_pow 2 k).symm
    rw [hP2, ← hP]
    have hn := sg_of n
    obtain ⟨a, ha⟩ : ∃ a, a = n.natAbs := ⟨_, rfl⟩
    rw [← ha] at hn ⊢
    cases hd : decide (n < 0)
    · rw [hd] at hn
      rw [hn]
      show ((a * P : Nat) : Int) = (a : Int) * P
      exact Int.natCast_mul a P
    · rw [hd] at hn
      rw [hn]
      show -((a * P : Nat) : Int) = -(a : Int) * P
      rw [Int.natCast_mul, Int.neg_mul]
  have hs3 : n.natAbs * 2 ^ k = s.natAbs := by rw [← hs2, sg_abs]
  rw [hs2] at SE
  rw [hs3] at SE UP
  unfold Iz
  obtain ⟨ax, cx, rfl, -, -⟩ := wx.form
  have BX := hid bx
  have x0 := bx.cell (i := 0) rfl
  have x1 := bx.cell (i := 1) rfl
  haveI : Has w gx := ⟨bx.lt⟩
  have zk : (k : Int) < 9223372036854775808 := by omega
  have zk0 : (0 : Int) ≤ (k : Int) := by omega
  have zk1 : ((k : Int) + 9223372036854775808) % 18446744073709551616 - 9223372036854775808 = (k : Int) := by omega
  have zk2 : IntKind.i64.wrap (k : Int) = (k : Int) := by rw [IntKind.wrap_i64]; omega
  clear hs hs2 hs3 bx wx hz ln l2 l3 hk
  generalize (words n.natAbs).length = kx at *
  generalize decide (s < 0) = ns at *
  generalize decide (n < 0) = nx at *
  go_enter Tryz.func43, Tryz.ntmps43
  go_wp2_with fail
  refine wp_region_late (S := (fun W => W.cell? ⟨gx, 0, none⟩ = some (.bool nx) ∧ W.cell? ⟨gx, 1, none⟩ = some (.slice ax kx cx))) 12 (by kernel_rfl) ?_ (fun hHeld => ?_)
  · (refine ⟨?_, ?_⟩ <;> (first | assumption | (simp [go_sem, *]; done)))
  refine wpAnyL_p 0 (v := ?_) rfl (Or.inl ⟨by rfl, ?_⟩) ?_
  rotate_left
  · intro w hSw
    (try dsimp only at hSw)
    go_simp
    all_goals (with_reducible rfl)
  try simp only [Act.put, List.setIfInBounds_toArray, List.set_cons_zero, List.set_cons_succ]
  refine wpAnyL_p 1 (v := ?_) rfl (Or.inl ⟨by rfl, ?_⟩) ?_
  rotate_left
  · intro w hSw
    (try dsimp only at hSw)
    go_simp
    all_goals (with_reducible rfl)
  try simp only [Act.put, List.setIfInBounds_toArray, List.set_cons_zero, List.set_cons_succ]
  refine wpAnyL_p 2 (v := ?_) rfl (Or.inl ⟨by rfl, ?_⟩) ?_
  rotate_left
  · intro w hSw
    (try dsimp only at hSw)
    go_simp
    all_goals (with_reducible rfl)
  try simp only [Act.put, List.setIfInBounds_toArray, List.set_cons_zero, List.set_cons_succ]
  refine wpAnyL_p 3 (v := ?_) rfl (Or.inl ⟨by rfl, ?_⟩) ?_
  rotate_left
  · intro w hSw
    (try dsimp only at hSw)
    go_simp
    all_goals (with_reducible rfl)
  try simp only [Act.put, List.setIfInBounds_toArray, List.set_cons_zero, List.set_cons_succ]
  refine wpAnyL_p 5 (v := ?_) rfl (Or.inl ⟨by rfl, ?_⟩) ?_
  rotate_left
  · intro w hSw
    (try dsimp only at hSw)
    go_simp
    all_goals (with_reducible rfl)
  try simp only [Act.put, List.setIfInBounds_toArray, List.set_cons_zero, List.set_cons_succ]
  refine wpAnyL_p 6 (v := ?_) rfl (Or.inl ⟨by rfl, ?_⟩) ?_
  rotate_left
  · intro w hSw
    (try dsimp only at hSw)
    go_simp
    all_goals (with_reducible rfl)
  try simp only [Act.put, List.setIfInBounds_toArray, List.set_cons_zero, List.set_cons_succ]
  refine wpAnyL_p 7 (v := ?_) rfl (Or.inl ⟨by rfl, ?_⟩) ?_
  rotate_left
  · intro w hSw
    (try dsimp only at hSw)
    go_simp
    all_goals (with_reducible rfl)
  try simp only [Act.put, List.setIfInBounds_toArray, List.set_cons_zero, List.set_cons_succ]
  refine wpAnyL_p 9 (v := ?_) rfl (Or.inl ⟨by rfl, ?_⟩) ?_
  rotate_left
  · intro w hSw
    (try dsimp only at hSw)
    go_simp
    all_goals (with_reducible rfl)
  try simp only [Act.put, List.setIfInBounds_toArray, List.set_cons_zero, List.set_cons_succ]
  refine wpAnyL_p 10 (v := ?_) rfl (Or.inl ⟨by rfl, ?_⟩) ?_
  rotate_left
  · intro w hSw
    (try dsimp only at hSw)
    go_simp
    all_goals (with_reducible rfl)
  try simp only [Act.put, List.setIfInBounds_toArray, List.set_cons_zero, List.set_cons_succ]
  refine wpAnyL_t 4 (v := ?_) rfl (Or.inl ⟨by rfl, ?_⟩) ?_
  rotate_left
  · intro w hSw
    (try dsimp only at hSw)
    go_simp
    all_goals (with_reducible rfl)
  try simp only [Act.put, List.setIfInBounds_toArray, List.set_cons_zero, List.set_cons_succ]
  refine wpAnyL_t 8 (v := ?_) rfl (Or.inl ⟨by rfl, ?_⟩) ?_
  rotate_left
  · intro w hSw
    (try dsimp only at hSw)
    go_simp
    all_goals (with_reducible rfl)
  try simp only [Act.put, List.setIfInBounds_toArray, List.set_cons_zero, List.set_cons_succ]
  refine wpAnyL_ready (rs := [11]) (by kernel_rfl) (by simp) ?_
  refine AllReadyL.early rfl (fun K hK => ?_) AllReadyL.nil
  go_simp
  (go_at_call 84; (with_reducible refine (UP.out _ ?_).mono ?_); (focus (first | assumption | exact Below.refl _ _ | exact Below.drew (Below.refl _ _))); rintro e w1 ⟨v1, rfl, h1, -, hq1⟩; have hb1 : Below w.heap.size w w1 := (by first | exact hq1 | exact Below.trans (Below.drew (Below.refl w.heap.size w)) hq1); have x01 := (BX.out.below hb1).cell (i := 0) rfl; have x11 := (BX.out.below hb1).cell (i := 1) rfl)
  refine hK.out _ _ ?_ (fun hHeld => ?_)
  · (refine ⟨?_, ?_⟩ <;> (first | assumption | (simp [go_sem, *]; done)))
  clear hK K
  try simp only [Act.put, List.setIfInBounds_toArray, List.set_cons_zero, List.set_cons_succ]
  refine wpAnyL_ready (rs := [12]) (by kernel_rfl) (by simp) ?_
  refine AllReadyL.late rfl (by kernel_rfl) (fun K hK => ?_) AllReadyL.nil
  go_simp
  (go_at_call 81; (with_reducible refine (SE.out _ _ hb1 h1).mono ?_); rintro e w2 ⟨v2, rfl, hB2, hV2, -, hk2⟩)
  refine hK.out _ _ ?_
  clear hK K
  try simp only [Act.put, List.setIfInBounds_toArray, List.set_cons_zero, List.set_cons_succ]
  refine wpAnyL_ready (rs := [13]) (by kernel_rfl) (by simp) ?_
  refine AllReadyL.late rfl (by kernel_rfl) (fun K hK => ?_) AllReadyL.nil
  go_simp
  refine hK.out _ _ ?_
  clear hK K
  try simp only [Act.put, List.setIfInBounds_toArray, List.set_cons_zero, List.set_cons_succ]
  refine wpAnyL_done (by kernel_rfl) ?_ _
  go_wp2_with fail
  go_ret
  exact ⟨rfl, ⟨v2, hB2, hV2⟩, (Keeps.of_below hb1).trans (hk2.mono hb1.size (fun _ _ h => h))⟩
set_option maxRecDepth 100000 in
set_option maxHeartbeats 16000000 in
theorem brmulA (gz gx gy : Nat) (z0 z1 z2 : Value) (x y : _root_.Rat) (w : World) (hz : Bk w gz [z0, z1, z2] 76) (hx : Ra 76 w gx x) (hy : Ra 76 w gy y) (lx : (words x.num.natAbs).length ≤ 34359738368) (mx : (words x.den).length ≤ 34359738368) (ly : (words y.num.natAbs).length ≤ 34359738368) (my : (words y.den).length ≤ 34359738368) (hvr : Vr w) :
    Calls Tryz.prog 89 #[.pointer (some ⟨gz, 0, none⟩), .pointer (some ⟨gx, 0, none⟩), .pointer (some ⟨gy, 0, none⟩)] w fun e w' => e = .returned (.pointer (some ⟨gz, 0, none⟩)) ∧ Ra 76 w' gz (x * y) ∧ Keeps w.heap.size [gz] w w' := by
  obtain ⟨vx, dx, bx, wx, ex⟩ := hx
  obtain ⟨vy, dy, by_, wy, ey⟩ := hy
  have TI := hid (fun vd vc w' (h : Below w.heap.size w w') (q1 : Wd w' vd (words x.den)) (q2 : Wd w' vc (words y.den)) => btimes gz z0 z1 z2 (!(decide (x.num < 0) == decide (y.num < 0))) vx vd vy vc x.num.natAbs x.den y.num.natAbs y.den w' (hz.below h) (wx.below h) q1 (wy.below h) q2 x.den_nz y.den_nz x.reduced y.reduced lx mx ly my (hvr.below h))
  rw [rat_mul_mk'] at TI
  have B1 := hid (fun w' (h : Below w.heap.size w w') => bbelow gx _ vx dx x.den w' (bx.below h) (ex.below h) x.den_nz)
  have B2 := hid (fun w' (h : Below w.heap.size w w') => bbelow gy _ vy dy y.den w' (by_.below h) (ey.below h) y.den_nz)
  obtain ⟨ax, cx, rfl, -, -⟩ := wx.form
  obtain ⟨ay, cy, rfl, -, -⟩ := wy.form
  have BX := hid bx
  have BZ := hid hz
  have BY := hid by_
  obtain ⟨r, hr⟩ : ∃ r, r = x * y := ⟨_, rfl⟩
  rw [← hr] at TI ⊢
  clear hr lx ly mx my
  generalize (words x.num.natAbs).length = kx at *
  generalize (words y.num.natAbs).length = ky at *
  generalize decide (x.num < 0) = nx at *
  generalize decide (y.num < 0) = ny at *
  have x0 := bx.cell (i := 0) rfl
  have x1 := bx.cell (i := 1) rfl
  have y0 := by_.cell (i := 0) rfl
  have y1 := by_.cell (i := 1) rfl
  haveI : Has w gx := ⟨bx.lt⟩
  haveI : Has w gy := ⟨by_.lt⟩
  clear bx by_ wx wy ex ey hz
  go_enter Tryz.func89, Tryz.ntmps89
  go_wp2_with fail
  refine wp_region_late (S := (fun W => W.cell? ⟨gx, 0, none⟩ = some (.bool nx) ∧ W.cell? ⟨gx, 1, none⟩ = some (.slice ax kx cx) ∧ W.cell? ⟨gy, 0, none⟩ = some (.bool ny) ∧ W.cell? ⟨gy, 1, none⟩ = some (.slice ay ky cy))) 26 (by kernel_rfl) ?_ (fun hHeld => ?_)
  · (refine ⟨?_, ?_, ?_, ?_⟩ <;> (first | assumption | (simp [go_sem, *]; done)))
  refine wpAnyL_p 0 (v := ?_) rfl (Or.inl ⟨by rfl, ?_⟩) ?_
  rotate_left
  · intro w hSw
    (try dsimp only at hSw)
    go_simp
    all_goals (with_reducible rfl)
  try simp only [Act.put, List.setIfInBounds_toArray, List.set_cons_zero, List.set_cons_succ]
  refine wpAnyL_p 1 (v := ?_) rfl (Or.inl ⟨by rfl, ?_⟩) ?_
  rotate_left
  · intro w hSw
    (try dsimp only at hSw)
    go_simp
    all_goals (with_reducible rfl)
  try simp only [Act.put, List.setIfInBounds_toArray, List.set_cons_zero, List.set_cons_succ]
  refine wpAnyL_p 2 (v := ?_) rfl (Or.inl ⟨by rfl, ?_⟩) ?_
  rotate_left
  · intro w hSw
    (try dsimp only at hSw)
    go_simp
    all_goals (with_reducible rfl)
  try simp only [Act.put, List.setIfInBounds_toArray, List.set_cons_zero, List.set_cons_succ]
  refine wpAnyL_p 3 (v := ?_) rfl (Or.inl ⟨by rfl, ?_⟩) ?_
  rotate_left
  · intro w hSw
    (try dsimp only at hSw)
    go_simp
    all_goals (with_reducible rfl)
  try simp only [Act.put, List.setIfInBounds_toArray, List.set_cons_zero, List.set_cons_succ]
  refine wpAnyL_p 4 (v := ?_) rfl (Or.inl ⟨by rfl, ?_⟩) ?_
  rotate_left
  · intro w hSw
    (try dsimp only at hSw)
    go_simp
    all_goals (with_reducible rfl)
  try simp only [Act.put, List.setIfInBounds_toArray, List.set_cons_zero, List.set_cons_succ]
  refine wpAnyL_p 6 (v := ?_) rfl (Or.inl ⟨by rfl, ?_⟩) ?_
  rotate_left
  · intro w hSw
    (try dsimp only at hSw)
    go_simp
    all_goals (with_reducible rfl)
  try simp only [Act.put, List.setIfInBounds_toArray, List.set_cons_zero, List.set_cons_succ]
  refine wpAnyL_p 7 (v := ?_) rfl (Or.inl ⟨by rfl, ?_⟩) ?_
  rotate_left
  · intro w hSw
    (try dsimp only at hSw)
    go_simp
    all_goals (with_reducible rfl)
  try simp only [Act.put, List.setIfInBounds_toArray, List.set_cons_zero, List.set_cons_succ]
  refine wpAnyL_p 8 (v := ?_) rfl (Or.inl ⟨by rfl, ?_⟩) ?_
  rotate_left
  · intro w hSw
    (try dsimp only at hSw)
    go_simp
    all_goals (with_reducible rfl)
  try simp only [Act.put, List.setIfInBounds_toArray, List.set_cons_zero, List.set_cons_succ]
  refine wpAnyL_p 9 (v := ?_) rfl (Or.inl ⟨by rfl, ?_⟩) ?_
  rotate_left
  · intro w hSw
    (try dsimp only at hSw)
    go_simp
    all_goals (with_reducible rfl)
  try simp only [Act.put, List.setIfInBounds_toArray, List.set_cons_zero, List.set_cons_succ]
  refine wpAnyL_p 12 (v := ?_) rfl (Or.inl ⟨by rfl, ?_⟩) ?_
  rotate_left
  · intro w hSw
    (try dsimp only at hSw)
    go_simp
    all_goals (with_reducible rfl)
  try simp only [Act.put, List.setIfInBounds_toArray, List.set_cons_zero, List.set_cons_succ]
  refine wpAnyL_p 13 (v := ?_) rfl (Or.inl ⟨by rfl, ?_⟩) ?_
  rotate_left
  · intro w hSw
    (try dsimp only at hSw)
    go_simp
    all_goals (with_reducible rfl)
  try simp only [Act.put, List.setIfInBounds_toArray, List.set_cons_zero, List.set_cons_succ]
  refine wpAnyL_p 14 (v := ?_) rfl (Or.inl ⟨by rfl, ?_⟩) ?_
  rotate_left
  · intro w hSw
    (try dsimp only at hSw)
    go_simp
    all_goals (with_reducible rfl)
  try simp only [Act.put, List.setIfInBounds_toArray, List.set_cons_zero, List.set_cons_succ]
  refine wpAnyL_p 15 (v := ?_) rfl (Or.inl ⟨by rfl, ?_⟩) ?_
  rotate_left
  · intro w hSw
    (try dsimp only at hSw)
    go_simp
    all_goals (with_reducible rfl)
  try simp only [Act.put, List.setIfInBounds_toArray, List.set_cons_zero, List.set_cons_succ]
  refine wpAnyL_p 17 (v := ?_) rfl (Or.inl ⟨by rfl, ?_⟩) ?_
  rotate_left
  · intro w hSw
    (try dsimp only at hSw)
    go_simp
    all_goals (with_reducible rfl)
  try simp only [Act.put, List.setIfInBounds_toArray, List.set_cons_zero, List.set_cons_succ]
  refine wpAnyL_p 19 (v := ?_) rfl (Or.inl ⟨by rfl, ?_⟩) ?_
  rotate_left
  · intro w hSw
    (try dsimp only at hSw)
    go_simp
    all_goals (with_reducible rfl)
  try simp only [Act.put, List.setIfInBounds_toArray, List.set_cons_zero, List.set_cons_succ]
  refine wpAnyL_p 20 (v := ?_) rfl (Or.inl ⟨by rfl, ?_⟩) ?_
  rotate_left
  · intro w hSw
    (try dsimp only at hSw)
    go_simp
    all_goals (with_reducible rfl)
  try simp only [Act.put, List.setIfInBounds_toArray, List.set_cons_zero, List.set_cons_succ]
  refine wpAnyL_p 21 (v := ?_) rfl (Or.inl ⟨by rfl, ?_⟩) ?_
  rotate_left
  · intro w hSw
    (try dsimp only at hSw)
    go_simp
    all_goals (with_reducible rfl)
  try simp only [Act.put, List.setIfInBounds_toArray, List.set_cons_zero, List.set_cons_succ]
  refine wpAnyL_p 22 (v := ?_) rfl (Or.inl ⟨by rfl, ?_⟩) ?_
  rotate_left
  · intro w hSw
    (try dsimp only at hSw)
    go_simp
    all_goals (with_reducible rfl)
  try simp only [Act.put, List.setIfInBounds_toArray, List.set_cons_zero, List.set_cons_succ]
  refine wpAnyL_p 24 (v := ?_) rfl (Or.inl ⟨by rfl, ?_⟩) ?_
  rotate_left
  · intro w hSw
    (try dsimp only at hSw)
    go_simp
    all_goals (with_reducible rfl)
  try simp only [Act.put, List.setIfInBounds_toArray, List.set_cons_zero, List.set_cons_succ]
  refine wpAnyL_t 5 (v := ?_) rfl (Or.inl ⟨by rfl, ?_⟩) ?_
  rotate_left
  · intro w hSw
    (try dsimp only at hSw)
    go_simp
    all_goals (with_reducible rfl)
  try simp only [Act.put, List.setIfInBounds_toArray, List.set_cons_zero, List.set_cons_succ]
  refine wpAnyL_t 10 (v := ?_) rfl (Or.inl ⟨by rfl, ?_⟩) ?_
  rotate_left
  · intro w hSw
    (try dsimp only at hSw)
    go_simp
    all_goals (with_reducible rfl)
  try simp only [Act.put, List.setIfInBounds_toArray, List.set_cons_zero, List.set_cons_succ]
  refine wpAnyL_p 11 (v := ?_) rfl (Or.inl ⟨by rfl, ?_⟩) ?_
  rotate_left
  · intro w hSw
    (try dsimp only at hSw)
    go_simp
    all_goals (with_reducible rfl)
  try simp only [Act.put, List.setIfInBounds_toArray, List.set_cons_zero, List.set_cons_succ]
  refine wpAnyL_t 16 (v := ?_) rfl (Or.inl ⟨by rfl, ?_⟩) ?_
  rotate_left
  · intro w hSw
    (try dsimp only at hSw)
    go_simp
    all_goals (with_reducible rfl)
  try simp only [Act.put, List.setIfInBounds_toArray, List.set_cons_zero, List.set_cons_succ]
  refine wpAnyL_t 23 (v := ?_) rfl (Or.inl ⟨by rfl, ?_⟩) ?_
  rotate_left
  · intro w hSw
    (try dsimp only at hSw)
    go_simp
    all_goals (with_reducible rfl)
  try simp only [Act.put, List.setIfInBounds_toArray, List.set_cons_zero, List.set_cons_succ]
  refine wpAnyL_ready (rs := [18]) (by kernel_rfl) (by simp) ?_
  refine AllReadyL.early rfl (fun K hK => ?_) AllReadyL.nil
  go_simp
  (go_at_call 117; (with_reducible refine (B1.out _ ?_).mono ?_); (focus (first | assumption | exact Below.refl _ _ | exact Below.drew (Below.refl _ _))); rintro e w1 ⟨v1, rfl, h1, hq1⟩; have hb1 : Below w.heap.size w w1 := (by first | exact hq1 | exact Below.trans (Below.drew (Below.refl w.heap.size w)) hq1); have x01 := (BX.out.below hb1).cell (i := 0) rfl; have x11 := (BX.out.below hb1).cell (i := 1) rfl; have y01 := (BY.out.below hb1).cell (i := 0) rfl; have y11 := (BY.out.below hb1).cell (i := 1) rfl)
  refine hK.out _ _ ?_ (fun hHeld => ?_)
  · (refine ⟨?_, ?_, ?_, ?_⟩ <;> (first | assumption | (simp [go_sem, *]; done)))
  clear hK K
  try simp only [Act.put, List.setIfInBounds_toArray, List.set_cons_zero, List.set_cons_succ]
  refine wpAnyL_ready (rs := [25]) (by kernel_rfl) (by simp) ?_
  refine AllReadyL.early rfl (fun K hK => ?_) AllReadyL.nil
  go_simp
  (go_at_call 117; (with_reducible refine (B2.out _ hb1).mono ?_); rintro e w2 ⟨v2, rfl, h2, hq2⟩; have h12 := h1.below hq2; have hb2 := Below.trans hb1 (below_low hq2 hb1.size); have x02 := (BX.out.below hb2).cell (i := 0) rfl; have x12 := (BX.out.below hb2).cell (i := 1) rfl; have y02 := (BY.out.below hb2).cell (i := 0) rfl; have y12 := (BY.out.below hb2).cell (i := 1) rfl)
  refine hK.out _ _ ?_ (fun hHeld => ?_)
  · (refine ⟨?_, ?_, ?_, ?_⟩ <;> (first | assumption | (simp [go_sem, *]; done)))
  clear hK K
  try simp only [Act.put, List.setIfInBounds_toArray, List.set_cons_zero, List.set_cons_succ]
  refine wpAnyL_ready (rs := [26]) (by kernel_rfl) (by simp) ?_
  refine AllReadyL.late rfl (by kernel_rfl) (fun K hK => ?_) AllReadyL.nil
  go_simp
  (go_at_call 116; (with_reducible refine (TI.out _ _ _ hb2 h12 h2).mono ?_); rintro e wz ⟨rfl, hrz, hkz⟩)
  refine hK.out _ _ ?_
  clear hK K
  try simp only [Act.put, List.setIfInBounds_toArray, List.set_cons_zero, List.set_cons_succ]
  refine wpAnyL_ready (rs := [27]) (by kernel_rfl) (by simp) ?_
  refine AllReadyL.late rfl (by kernel_rfl) (fun K hK => ?_) AllReadyL.nil
  go_simp
  refine hK.out _ _ ?_
  clear hK K
  try simp only [Act.put, List.setIfInBounds_toArray, List.set_cons_zero, List.set_cons_succ]
  refine wpAnyL_done (by kernel_rfl) ?_ _
  go_wp2_with fail
  go_ret
  exact ⟨rfl, hrz, (Keeps.of_below hb2).trans (hkz.mono hb2.size (fun _ _ h => h))⟩
end Big
end
section
open Go.RowKit
namespace Big
set_option maxRecDepth 100000 in
set_option maxHeartbeats 16000000 in
theorem biaddI (gz gx gy : Nat) (z0 z1 : Value) (x y : Int) (w : World) (hz : Bk w gz [z0, z1] 74) (hx : In 74 w gx x) (hy : In 74 w gy y) (lx : (words x.natAbs).length ≤ 137438953472) (ly : (words y.natAbs).length ≤ 137438953472) (s : Int) (hs : s = x + y) :
    Calls Tryz.prog 80 #[.pointer (some ⟨gz, 0, none⟩), .pointer (some ⟨gx, 0, none⟩), .pointer (some ⟨gy, 0, none⟩)] w fun e w' => e = .returned (.pointer (some ⟨gz, 0, none⟩)) ∧ In 74 w' gz s ∧ Keeps w.heap.size [gz] w w' := by
  subst hs
  refine (biadd gz gx gy 74 z0 z1 [] x y w hz hx hy lx ly).mono ?_
  rintro e w' ⟨v', rfl, h1, h2, h3⟩
  exact ⟨rfl, ⟨v', h1, h2⟩, h3⟩
set_option maxRecDepth 100000 in
set_option maxHeartbeats 16000000 in
theorem bisubI (gz gx gy : Nat) (z0 z1 : Value) (x y : Int) (w : World) (hz : Bk w gz [z0, z1] 74) (hx : In 74 w gx x) (hy : In 74 w gy y) (lx : (words x.natAbs).length ≤ 137438953472) (ly : (words y.natAbs).length ≤ 137438953472) (s : Int) (hs : s = x - y) :
    Calls Tryz.prog 79 #[.pointer (some ⟨gz, 0, none⟩), .pointer (some ⟨gx, 0, none⟩), .pointer (some ⟨gy, 0, none⟩)] w fun e w' => e = .returned (.pointer (some ⟨gz, 0, none⟩)) ∧ In 74 w' gz s ∧ Keeps w.heap.size [gz] w w' := by
  subst hs
  refine (bisub gz gx gy 74 z0 z1 [] x y w hz hx hy lx ly).mono ?_
  rintro e w' ⟨v', rfl, h1, h2, h3⟩
  exact ⟨rfl, ⟨v', h1, h2⟩, h3⟩

end Big
end
section
open Go.RowKit
namespace Big
class InC (w : World) (g : Nat) (x : outParam Int) : Prop where
  out : In 74 w g x
instance blk_in (w : World) (g : Nat) (x : Int) [h : InC w g x] : Blk w g := ⟨by obtain ⟨_, hb, -⟩ := h.out; exact ⟨_, _, hb⟩⟩
instance inC_alloc (w : World) (g : Nat) (x : Int) (o : Obj) [h : InC w g x] : InC (w.alloc o) g x := ⟨h.out.below ((Below.refl _ _).alloc (Nat.le_refl _) _)⟩
instance inC_drew (w : World) (g : Nat) (x : Int) [h : InC w g x] : InC w.drew g x := ⟨h.out.below (Below.drew (Below.refl _ _))⟩
instance inC_kp0 (W w' : World) (g : Nat) (x : Int) [k : Kp0 W w'] [h : InC W g x] : InC w' g x := ⟨h.out.below k.out⟩
instance inC_kp1 (W w' : World) (g n : Nat) (x : Int) [k : Kp1 W n w'] [e : NeN g n] [b : Blk W n] [h : InC W g x] : InC w' g x := ⟨by
  obtain ⟨L, T, hb⟩ := b.out
  exact h.out.keep hb k.out e.out⟩
instance inC_set (w : World) (g n i : Nat) (v : Value) (x : Int) [e : NeN g n] [b : Blk w n] [h : InC w g x] : InC (w.setCell ⟨n, i, none⟩ v) g x := ⟨by
  obtain ⟨L, T, hb⟩ := b.out
  exact h.out.keep hb ((Keeps.refl _ _ _).set (Or.inl (List.mem_singleton.2 rfl)) i v) e.out⟩
instance has_in (w : World) (g : Nat) (x : Int) [h : InC w g x] : Has w g := ⟨h.out.lt⟩
instance (priority := 600) inC_fr (W : World) (g : Nat) [h : BkC W g [.bool false, .slice none 0 0] 74] : InC W g 0 := ⟨.slice none 0 0, h.out, by rw [show (0 : Int).natAbs = 0 from rfl, words_0]; exact Wd.nil _⟩
theorem InC.two {w : World} {g : Nat} {x : Int} (h : InC w g x) : ∃ a b, Bk w g [a, b] 74 := by
  obtain ⟨v, hb, -⟩ := h.out
  exact ⟨_, _, hb⟩
theorem biMulC {W : World} {gz gx gy : Nat} {x y z : Int} [hz : InC W gz z] [hx : InC W gx x] [hy : InC W gy y] (ln : (words x.natAbs).length + (words y.natAbs).length ≤ 137438953472) :
    Calls Tryz.prog 41 #[.pointer (some ⟨gz, 0, none⟩), .pointer (some ⟨gx, 0, none⟩), .pointer (some ⟨gy, 0, none⟩)] W fun e w' => e = .returned (.pointer (some ⟨gz, 0, none⟩)) ∧ InC w' gz (x * y) ∧ Kp1 W gz w' := by
  obtain ⟨a, b, bz⟩ := hz.two
  refine (biMul gz gx gy 74 _ _ [] x y W bz hx.out.ia hy.out.ia ln (x * y) rfl).mono ?_
  rintro e w' ⟨rfl, h1, h2⟩
  exact ⟨rfl, ⟨h1⟩, ⟨h2⟩⟩
theorem biAddC {W : World} {gz gx gy : Nat} {x y z : Int} [hz : InC W gz z] [hx : InC W gx x] [hy : InC W gy y] (lx : (words x.natAbs).length ≤ 137438953472) (ly : (words y.natAbs).length ≤ 137438953472) :
    Calls Tryz.prog 80 #[.pointer (some ⟨gz, 0, none⟩), .pointer (some ⟨gx, 0, none⟩), .pointer (some ⟨gy, 0, none⟩)] W fun e w' => e = .returned (.pointer (some ⟨gz, 0, none⟩)) ∧ InC w' gz (x + y) ∧ Kp1 W gz w' := by
  obtain ⟨a, b, bz⟩ := hz.two
  refine (biaddI gz gx gy _ _ x y W bz hx.out hy.out lx ly (x + y) rfl).mono ?_
  rintro e w' ⟨rfl, h1, h2⟩
  exact ⟨rfl, ⟨h1⟩, ⟨h2⟩⟩
theorem biSubC {W : World} {gz gx gy : Nat} {x y z : Int} [hz : InC W gz z] [hx : InC W gx x] [hy : InC W gy y] (lx : (words x.natAbs).length ≤ 137438953472) (ly : (words y.natAbs).length ≤ 137438953472) :
    Calls Tryz.prog 79 #[.pointer (some ⟨gz, 0, none⟩), .pointer (some ⟨gx, 0, none⟩), .pointer (some ⟨gy, 0, none⟩)] W fun e w' => e = .returned (.pointer (some ⟨gz, 0, none⟩)) ∧ InC w' gz (x - y) ∧ Kp1 W gz w' := by
  obtain ⟨a, b, bz⟩ := hz.two
  refine (bisubI gz gx gy _ _ x y W bz hx.out hy.out lx ly (x - y) rfl).mono ?_
  rintro e w' ⟨rfl, h1, h2⟩
  exact ⟨rfl, ⟨h1⟩, ⟨h2⟩⟩
theorem biSignC {W : World} {gx : Nat} {x : Int} [hx : InC W gx x] : Calls Tryz.prog 40 #[.pointer (some ⟨gx, 0, none⟩)] W fun e w' => e = .returned (.int .i64 x.sign) ∧ w' = W := bisign gx x W hx.out.ia
theorem bNewC {W : World} {x : Int} (h1 : -9223372036854775808 ≤ x) (h2 : x < 9223372036854775808) : Calls Tryz.prog 42 #[.int .i64 x] W fun e w' => ∃ k, e = .returned (.pointer (some ⟨k, 0, none⟩)) ∧ InC w' k x ∧ Kp0 W w' ∧ UpW W k := by
  refine (bnewint x W h1 h2).mono ?_
  rintro e w' ⟨rfl, h1, h2⟩
  exact ⟨_, rfl, ⟨h1⟩, ⟨h2⟩, ⟨Nat.le_refl _⟩⟩

end Big
end
section
open Go.RowKit
namespace Big
/-- Short whole numbers. -/
class SmI (x : Int) (L : outParam Nat) : Prop where
  out : (words x.natAbs).length ≤ L
theorem words_mono {m n : Nat} (h : m ≤ n) : (words m).length ≤ (words n).length := words_len_le (Nat.lt_of_le_of_lt h (by have := words_lt n; exact this))
instance smI_mul (x y : Int) (L M : Nat) [h : SmI x L] [k : SmI y M] : SmI (x * y) (L + M) := ⟨by rw [Int.natAbs_mul]; exact Nat.le_trans (mul_len _ _) (Nat.add_le_add h.out k.out)⟩
instance smI_add (x y : Int) (L M : Nat) [h : SmI x L] [k : SmI y M] : SmI (x + y) (L + M + 1) := ⟨Nat.le_trans (words_mono (Int.natAbs_add_le x y)) (Nat.le_trans (add_len _ _) (by have := h.out; have := k.out; omega))⟩
instance smI_sub (x y : Int) (L M : Nat) [h : SmI x L] [k : SmI y M] : SmI (x - y) (L + M + 1) := ⟨Nat.le_trans (words_mono (show (x - y).natAbs ≤ x.natAbs + y.natAbs by omega)) (Nat.le_trans (add_len _ _) (by have := h.out; have := k.out; omega))⟩
theorem biLshC {W : World} {gz gx k : Nat} {x z : Int} {L : Nat} [hz : InC W gz z] [hx : InC W gx x] [sx : SmI x L] (hL : L ≤ 1073741824) (hk : k ≤ 1073741824) :
    Calls Tryz.prog 43 #[.pointer (some ⟨gz, 0, none⟩), .pointer (some ⟨gx, 0, none⟩), .int .u64 k] W fun e w' => e = .returned (.pointer (some ⟨gz, 0, none⟩)) ∧ InC w' gz (x * 2 ^ k) ∧ Kp1 W gz w' := by
  obtain ⟨a, b, bz⟩ := hz.two
  refine (biLsh gz gx 74 _ _ [] x k W bz hx.out.ia (Nat.le_trans sx.out hL) hk (x * 2 ^ k) rfl).mono ?_
  rintro e w' ⟨rfl, h1, h2⟩
  exact ⟨rfl, ⟨h1⟩, ⟨h2⟩⟩
theorem biMulS {W : World} {gz gx gy : Nat} {x y z : Int} {L M : Nat} [hz : InC W gz z] [hx : InC W gx x] [hy : InC W gy y] [sx : SmI x L] [sy : SmI y M] (hL : L ≤ 1073741824) (hM : M ≤ 1073741824) :
    Calls Tryz.prog 41 #[.pointer (some ⟨gz, 0, none⟩), .pointer (some ⟨gx, 0, none⟩), .pointer (some ⟨gy, 0, none⟩)] W fun e w' => e = .returned (.pointer (some ⟨gz, 0, none⟩)) ∧ InC w' gz (x * y) ∧ Kp1 W gz w' := biMulC (by have := sx.out; have := sy.out; omega)
theorem biAddS {W : World} {gz gx gy : Nat} {x y z : Int} {L M : Nat} [hz : InC W gz z] [hx : InC W gx x] [hy : InC W gy y] [sx : SmI x L] [sy : SmI y M] (hL : L ≤ 1073741824) (hM : M ≤ 1073741824) :
    Calls Tryz.prog 80 #[.pointer (some ⟨gz, 0, none⟩), .pointer (some ⟨gx, 0, none⟩), .pointer (some ⟨gy, 0, none⟩)] W fun e w' => e = .returned (.pointer (some ⟨gz, 0, none⟩)) ∧ InC w' gz (x + y) ∧ Kp1 W gz w' := biAddC (by have := sx.out; omega) (by have := sy.out; omega)
theorem biSubS {W : World} {gz gx gy : Nat} {x y z : Int} {L M : Nat} [hz : InC W gz z] [hx : InC W gx x] [hy : InC W gy y] [sx : SmI x L] [sy : SmI y M] (hL : L ≤ 1073741824) (hM : M ≤ 1073741824) :
    Calls Tryz.prog 79 #[.pointer (some ⟨gz, 0, none⟩), .pointer (some ⟨gx, 0, none⟩), .pointer (some ⟨gy, 0, none⟩)] W fun e w' => e = .returned (.pointer (some ⟨gz, 0, none⟩)) ∧ InC w' gz (x - y) ∧ Kp1 W gz w' := biSubC (by have := sx.out; omega) (by have := sy.out; omega)
set_option synthInstance.maxHeartbeats 2000000 in
set_option synthInstance.maxSize 100000 in
set_option maxRecDepth 100000 in
set_option maxHeartbeats 16000000 in
theorem exTimes {w : World} {i j i' j' d d' : Nat} {x y x' y' : Int} [hx : InC w i x] [hy : InC w j y] [hx' : InC w i' x'] [hy' : InC w j' y'] [sx : SmI x 1000000] [sy : SmI y 1000000] [sx' : SmI x' 1000000] [sy' : SmI y' 1000000] (hd : d ≤ 1000000) (hd' : d' ≤ 1000000) :
    Calls Tryz.prog 37 #[.agg #[.pointer (some ⟨i, 0, none⟩), .pointer (some ⟨j, 0, none⟩), .int .i64 d], .agg #[.pointer (some ⟨i', 0, none⟩), .pointer (some ⟨j', 0, none⟩), .int .i64 d']] w fun e w' => ∃ k l, e = .returned (.agg #[.pointer (some ⟨k, 0, none⟩), .pointer (some ⟨l, 0, none⟩), .int .i64 ((d : Int) + d')]) ∧ InC w' k (x * x' - y * y') ∧ InC w' l (x * y' + y * x') ∧ Kp0 w w' ∧ UpW w k ∧ UpW w l ∧ NeN k l := by
  have zd : (d : Int) + d' < 9223372036854775808 := by omega
  have zd2 : -9223372036854775808 ≤ (d : Int) + d' := by omega
  have zw : IntKind.i64.wrap ((d : Int) + d') = (d : Int) + d' := by rw [IntKind.wrap_i64]; omega
  clear hd hd'
  go_enter Tryz.func37, Tryz.ntmps37
  go_upto_region 1 with fail
  go_cut [5, 6] from 9 to 20 (fun s5 s6 wx => ∃ a b, s5 = .pointer (some ⟨a, 0, none⟩) ∧ s6 = .pointer (some ⟨b, 0, none⟩) ∧ InC wx a (x * x') ∧ InC wx b (y * y') ∧ Kp0 (((w.alloc (.cells #[.pointer (some ⟨i, 0, none⟩), .pointer (some ⟨j, 0, none⟩), .int .i64 d] 60)).alloc (.cells #[.pointer (some ⟨i', 0, none⟩), .pointer (some ⟨j', 0, none⟩), .int .i64 d'] 60)).alloc (.cells #[.pointer none, .pointer none, .int .i64 0] 60)) wx ∧ UpW (((w.alloc (.cells #[.pointer (some ⟨i, 0, none⟩), .pointer (some ⟨j, 0, none⟩), .int .i64 d] 60)).alloc (.cells #[.pointer (some ⟨i', 0, none⟩), .pointer (some ⟨j', 0, none⟩), .int .i64 d'] 60)).alloc (.cells #[.pointer none, .pointer none, .int .i64 0] 60)) a ∧ UpW (((w.alloc (.cells #[.pointer (some ⟨i, 0, none⟩), .pointer (some ⟨j, 0, none⟩), .int .i64 d] 60)).alloc (.cells #[.pointer (some ⟨i', 0, none⟩), .pointer (some ⟨j', 0, none⟩), .int .i64 d'] 60)).alloc (.cells #[.pointer none, .pointer none, .int .i64 0] 60)) b ∧ NeN a b)
  case first =>
    go_region_held3 (fun W => W.cell? ⟨w.heap.size, 0, none⟩ = some (.pointer (some ⟨i, 0, none⟩)) ∧ W.cell? ⟨w.heap.size, 1, none⟩ = some (.pointer (some ⟨j, 0, none⟩)) ∧ W.cell? ⟨w.heap.size + 1, 0, none⟩ = some (.pointer (some ⟨i', 0, none⟩)) ∧ W.cell? ⟨w.heap.size + 1, 1, none⟩ = some (.pointer (some ⟨j', 0, none⟩))) (refine ⟨?_, ?_, ?_, ?_⟩ <;> (first | exact Bk.cell BkC.out rfl | (simp [go_sem]; done))) (first | (go_at_call 41; (with_reducible refine Calls.mono (biMulS (by decide) (by decide)) ?_); rintro e wc ⟨rfl, _, _⟩))
    all_goals (go_wp2_with fail; go_meet; exact ⟨_, _, rfl, rfl, inferInstance, inferInstance, ⟨Gr.out⟩, ⟨LeN.le⟩, ⟨LeN.le⟩, inferInstance⟩)
  case rest =>
    obtain ⟨a, b, rfl, rfl, i1, i2, k1, u1, u2, n1⟩ := hcut
    go_upto_region 2 with fail
    go_cut [7, 8] from 21 to 32 (fun s7 s8 wx => ∃ r s, s7 = .pointer (some ⟨r, 0, none⟩) ∧ s8 = .pointer (some ⟨s, 0, none⟩) ∧ InC wx r (x * y') ∧ InC wx s (y * x') ∧ Kp0 wc wx ∧ UpW wc r ∧ UpW wc s ∧ NeN r s)
    case first =>
      go_region_held3 (fun W => W.cell? ⟨w.heap.size, 0, none⟩ = some (.pointer (some ⟨i, 0, none⟩)) ∧ W.cell? ⟨w.heap.size, 1, none⟩ = some (.pointer (some ⟨j, 0, none⟩)) ∧ W.cell? ⟨w.heap.size + 1, 0, none⟩ = some (.pointer (some ⟨i', 0, none⟩)) ∧ W.cell? ⟨w.heap.size + 1, 1, none⟩ = some (.pointer (some ⟨j', 0, none⟩))) (refine ⟨?_, ?_, ?_, ?_⟩ <;> (first | exact Bk.cell BkC.out rfl | (simp [go_sem]; done))) (first | (go_at_call 41; (with_reducible refine Calls.mono (biMulS (by decide) (by decide)) ?_); rintro e wc ⟨rfl, _, _⟩))
      all_goals (go_wp2_with fail; go_meet; exact ⟨_, _, rfl, rfl, inferInstance, inferInstance, ⟨Gr.out⟩, ⟨LeN.le⟩, ⟨LeN.le⟩, inferInstance⟩)
    case rest =>
      obtain ⟨r, s, rfl, rfl, i3, i4, k2, u3, u4, n2⟩ := hcut
      go_wp2_with fail
      go_region_held3 (fun W => W.cell? ⟨w.heap.size, 2, none⟩ = some (.int .i64 d) ∧ W.cell? ⟨w.heap.size + 1, 2, none⟩ = some (.int .i64 d')) (refine ⟨?_, ?_⟩ <;> (first | exact Bk.cell BkC.out rfl | (simp [go_sem]; done))) (first | (go_at_call 79; (with_reducible refine Calls.mono (biSubS (by decide) (by decide)) ?_); rintro e wc ⟨rfl, _, _⟩) | (go_at_call 80; (with_reducible refine Calls.mono (biAddS (by decide) (by decide)) ?_); rintro e wc ⟨rfl, _, _⟩))
      all_goals
        go_wp2_with fail
        refine ret_cell rfl rfl rfl (by rfl) (by rfl) (by rfl) ?_
        exact ⟨_, _, rfl, inferInstance, inferInstance, ⟨Gr.out⟩, ⟨Up.out⟩, ⟨Up.out⟩, inferInstance⟩
end Big
end
section
open Go.RowKit
namespace Big
theorem smI_shl {x : Int} {k L M : Nat} (h : SmI x L) (hk : L + (k + 1) ≤ M) : SmI (x * 2 ^ k) M := ⟨by
  rw [Int.natAbs_mul, Int.natAbs_pow]
  refine Nat.le_trans (mul_len _ _) (Nat.le_trans (Nat.add_le_add h.out (two_len k)) hk)⟩
set_option synthInstance.maxHeartbeats 2000000 in
set_option synthInstance.maxSize 100000 in
set_option maxRecDepth 100000 in
set_option maxHeartbeats 16000000 in
theorem exSquare {w : World} {i j d : Nat} {x y : Int} [hx : InC w i x] [hy : InC w j y] [sx : SmI x 1000000] [sy : SmI y 1000000] :
    Calls Tryz.prog 39 #[.agg #[.pointer (some ⟨i, 0, none⟩), .pointer (some ⟨j, 0, none⟩), .int .i64 d]] w fun e w' => ∃ k, e = .returned (.pointer (some ⟨k, 0, none⟩)) ∧ InC w' k (x * x + y * y) ∧ Kp0 w w' ∧ UpW w k := by
  go_enter Tryz.func39, Tryz.ntmps39
  go_upto_region 1 with fail
  go_cut [3, 4] from 5 to 16 (fun s3 s4 wx => ∃ a b, s3 = .pointer (some ⟨a, 0, none⟩) ∧ s4 = .pointer (some ⟨b, 0, none⟩) ∧ InC wx a (x * x) ∧ InC wx b (y * y) ∧ Kp0 (w.alloc (.cells #[.pointer (some ⟨i, 0, none⟩), .pointer (some ⟨j, 0, none⟩), .int .i64 d] 60)) wx ∧ UpW (w.alloc (.cells #[.pointer (some ⟨i, 0, none⟩), .pointer (some ⟨j, 0, none⟩), .int .i64 d] 60)) a ∧ UpW (w.alloc (.cells #[.pointer (some ⟨i, 0, none⟩), .pointer (some ⟨j, 0, none⟩), .int .i64 d] 60)) b ∧ NeN a b)
  case first =>
    go_region_held3 (fun W => W.cell? ⟨w.heap.size, 0, none⟩ = some (.pointer (some ⟨i, 0, none⟩)) ∧ W.cell? ⟨w.heap.size, 1, none⟩ = some (.pointer (some ⟨j, 0, none⟩))) (refine ⟨?_, ?_⟩ <;> (first | exact Bk.cell BkC.out rfl | (simp [go_sem]; done))) (first | (go_at_call 41; (with_reducible refine Calls.mono (biMulS (by decide) (by decide)) ?_); rintro e wc ⟨rfl, _, _⟩))
    all_goals (go_wp2_with fail; go_meet; exact ⟨_, _, rfl, rfl, inferInstance, inferInstance, ⟨Gr.out⟩, ⟨LeN.le⟩, ⟨LeN.le⟩, inferInstance⟩)
  case rest =>
    obtain ⟨a, b, rfl, rfl, i1, i2, k1, u1, u2, n1⟩ := hcut
    go_wp2_with (first | (go_at_call 80; (with_reducible refine Calls.mono (biAddS (by decide) (by decide)) ?_); rintro e wc ⟨rfl, _, _⟩))
    go_ret
    exact ⟨_, rfl, inferInstance, ⟨Gr.out⟩, ⟨Up.out⟩⟩
set_option synthInstance.maxHeartbeats 2000000 in
set_option synthInstance.maxSize 100000 in
set_option maxRecDepth 100000 in
set_option maxHeartbeats 16000000 in
theorem exPlus {w : World} {i j i' j' d d' D : Nat} {x y x' y' : Int} [hx : InC w i x] [hy : InC w j y] [hx' : InC w i' x'] [hy' : InC w j' y'] [sx : SmI x 1000000] [sy : SmI y 1000000] [sx' : SmI x' 1000000] [sy' : SmI y' 1000000] (hd : d ≤ 1000000) (hD2 : d = d' + D) :
    Calls Tryz.prog 38 #[.agg #[.pointer (some ⟨i, 0, none⟩), .pointer (some ⟨j, 0, none⟩), .int .i64 d], .agg #[.pointer (some ⟨i', 0, none⟩), .pointer (some ⟨j', 0, none⟩), .int .i64 d']] w fun e w' => ∃ k l, e = .returned (.agg #[.pointer (some ⟨k, 0, none⟩), .pointer (some ⟨l, 0, none⟩), .int .i64 d]) ∧ InC w' k (x' * 2 ^ D + x) ∧ InC w' l (y' * 2 ^ D + y) ∧ Kp0 w w' ∧ UpW w k ∧ UpW w l ∧ NeN k l := by
  have zl : ¬ ((d : Int) < (d' : Int)) := by omega
  have zd : (d : Int) - (d' : Int) = (D : Int) := by omega
  have hD : D ≤ 1073741824 := by omega
  have zD : (D : Int) < 18446744073709551616 := by omega
  have zD2 : (0 : Int) ≤ (D : Int) := by omega
  have zw : IntKind.u64.wrap (D : Int) = (D : Int) := by rw [IntKind.wrap_u64]; omega
  have zw2 : IntKind.i64.wrap (D : Int) = (D : Int) := by rw [IntKind.wrap_i64]; omega
  haveI s1 : SmI (x' * 2 ^ D) 3000000 := smI_shl sx' (by omega)
  haveI s2 : SmI (y' * 2 ^ D) 3000000 := smI_shl sy' (by omega)
  clear hd hD2
  go_enter Tryz.func38, Tryz.ntmps38
  go_upto_region 4 with fail
  go_cut [6, 7] from 21 to 30 (fun s6 s7 wx => ∃ a b, s6 = .pointer (some ⟨a, 0, none⟩) ∧ s7 = .pointer (some ⟨b, 0, none⟩) ∧ InC wx a (x' * 2 ^ D) ∧ InC wx b (y' * 2 ^ D) ∧ Kp0 (((w.alloc (.cells #[.pointer (some ⟨i, 0, none⟩), .pointer (some ⟨j, 0, none⟩), .int .i64 d] 60)).alloc (.cells #[.pointer (some ⟨i', 0, none⟩), .pointer (some ⟨j', 0, none⟩), .int .i64 d'] 60)).alloc (.cells #[.pointer none, .pointer none, .int .i64 0] 60)) wx ∧ UpW (((w.alloc (.cells #[.pointer (some ⟨i, 0, none⟩), .pointer (some ⟨j, 0, none⟩), .int .i64 d] 60)).alloc (.cells #[.pointer (some ⟨i', 0, none⟩), .pointer (some ⟨j', 0, none⟩), .int .i64 d'] 60)).alloc (.cells #[.pointer none, .pointer none, .int .i64 0] 60)) a ∧ UpW (((w.alloc (.cells #[.pointer (some ⟨i, 0, none⟩), .pointer (some ⟨j, 0, none⟩), .int .i64 d] 60)).alloc (.cells #[.pointer (some ⟨i', 0, none⟩), .pointer (some ⟨j', 0, none⟩), .int .i64 d'] 60)).alloc (.cells #[.pointer none, .pointer none, .int .i64 0] 60)) b ∧ NeN a b ∧ NeN b a)
  case first =>
    go_region_held3 (fun W => W.cell? ⟨w.heap.size + 1, 0, none⟩ = some (.pointer (some ⟨i', 0, none⟩)) ∧ W.cell? ⟨w.heap.size + 1, 1, none⟩ = some (.pointer (some ⟨j', 0, none⟩))) (refine ⟨?_, ?_⟩ <;> (first | exact Bk.cell BkC.out rfl | (simp [go_sem]; done))) (first | (go_at_call 43; (with_reducible refine Calls.mono (biLshC (by decide) (hD)) ?_); rintro e wc ⟨rfl, _, _⟩))
    all_goals (go_wp2_with fail; go_meet; exact ⟨_, _, rfl, rfl, inferInstance, inferInstance, ⟨Gr.out⟩, ⟨LeN.le⟩, ⟨LeN.le⟩, inferInstance, inferInstance⟩)
  case rest =>
    obtain ⟨a, b, rfl, rfl, i1, i2, k1, u1, u2, n1, n2⟩ := hcut
    go_wp2_with fail
    go_region_held3 (fun W => W.cell? ⟨w.heap.size, 0, none⟩ = some (.pointer (some ⟨i, 0, none⟩)) ∧ W.cell? ⟨w.heap.size, 1, none⟩ = some (.pointer (some ⟨j, 0, none⟩)) ∧ W.cell? ⟨w.heap.size, 2, none⟩ = some (.int .i64 d)) (refine ⟨?_, ?_, ?_⟩ <;> (first | exact Bk.cell BkC.out rfl | (simp [go_sem]; done))) (first | (go_at_call 80; (with_reducible refine Calls.mono (biAddS (by decide) (by decide)) ?_); rintro e wc ⟨rfl, _, _⟩))
    all_goals
      go_wp2_with fail
      refine ret_cell rfl rfl rfl (by rfl) (by rfl) (by rfl) ?_
      exact ⟨_, _, rfl, inferInstance, inferInstance, ⟨Gr.out⟩, ⟨Up.out⟩, ⟨Up.out⟩, inferInstance⟩
end Big
end
section
open Go.RowKit
namespace Big
set_option synthInstance.maxHeartbeats 2000000 in
set_option synthInstance.maxSize 100000 in
set_option maxRecDepth 100000 in
set_option maxHeartbeats 16000000 in
theorem oneC {v m r : Nat} {e A N : Int} (h1 : frx v = some (m, e)) (h2 : ldx m 53 = some r) (hc : ∀ w, (convert 35 2 (.float .f64 r)).run Tryz.prog w = .ok (.int .i64 N) w) (n1 : -9223372036854775808 ≤ N) (n2 : N < 9223372036854775808) (he : 53 - e = A) (e1 : -2000 ≤ e) (e2 : e ≤ 2000) (w : World) :
    Calls Tryz.prog 76 #[.float .f64 v] w fun e w' => ∃ k, e = .returned (.tuple #[.pointer (some ⟨k, 0, none⟩), .int .i64 A]) ∧ InC w' k N ∧ Kp0 w w' ∧ UpW w k := by
  have k1 := fun w => Frexp_any v w h1
  have k2 := fun w => Ldexp_any m 53 w h2
  have k3 := fun w : World => bNewC (W := w) n1 n2
  have z1 : -9223372036854775808 ≤ A := by omega
  have z2 : A < 9223372036854775808 := by omega
  clear h1 h2 n1 n2 e1 e2
  go_enter Tryz.func76, Tryz.ntmps76
  go_wp2_with (first | (go_at_call 77; (with_reducible refine Calls.mono (k1 _) ?_); rintro e wc ⟨rfl, rfl⟩) | (go_at_call 78; (with_reducible refine Calls.mono (k2 _) ?_); rintro e wc ⟨rfl, rfl⟩) | (go_at_call 42; (with_reducible refine Calls.mono (k3 _) ?_); rintro e wc ⟨k, rfl, _, _, _⟩))
  go_ret2
  exact ⟨_, rfl, inferInstance, ⟨Gr.out⟩, ⟨Up.out⟩⟩
set_option synthInstance.maxHeartbeats 2000000 in
set_option synthInstance.maxSize 100000 in
set_option maxRecDepth 100000 in
set_option maxHeartbeats 16000000 in
theorem ofC {x y d D1 D2 : Nat} {a b N1 N2 : Int} (hx : ∀ w, Calls Tryz.prog 76 #[.float .f64 x] w fun e w' => ∃ k, e = .returned (.tuple #[.pointer (some ⟨k, 0, none⟩), .int .i64 a]) ∧ InC w' k N1 ∧ Kp0 w w' ∧ UpW w k) (hy : ∀ w, Calls Tryz.prog 76 #[.float .f64 y] w fun e w' => ∃ k, e = .returned (.tuple #[.pointer (some ⟨k, 0, none⟩), .int .i64 b]) ∧ InC w' k N2 ∧ Kp0 w w' ∧ UpW w k)
    (hm : (if (0 : Int) > (if b > a then b else a) then (0 : Int) else (if b > a then b else a)) = d) (ha : a + D1 = d) (hb : b + D2 = d) (hd1 : D1 ≤ 1000000) (hd2 : D2 ≤ 1000000) (hd : d ≤ 1000000) [s1 : SmI N1 1000] [s2 : SmI N2 1000] (w : World) :
    Calls Tryz.prog 36 #[.complex .f64 x y] w fun e w' => ∃ k l, e = .returned (.agg #[.pointer (some ⟨k, 0, none⟩), .pointer (some ⟨l, 0, none⟩), .int .i64 d]) ∧ InC w' k (N1 * 2 ^ D1) ∧ InC w' l (N2 * 2 ^ D2) ∧ Kp0 w w' ∧ UpW w k ∧ UpW w l ∧ NeN k l := by
  have zd1 : (d : Int) - a = (D1 : Int) := by omega
  have zd2 : (d : Int) - b = (D2 : Int) := by omega
  have hD1 : D1 ≤ 1073741824 := by omega
  have hD2 : D2 ≤ 1073741824 := by omega
  have z1 : (0 : Int) ≤ (D1 : Int) := by omega
  have z2 : (0 : Int) ≤ (D2 : Int) := by omega
  have z3 : (D1 : Int) < 9223372036854775808 := by omega
  have z4 : (D2 : Int) < 9223372036854775808 := by omega
  have z5 : (D1 : Int) < 18446744073709551616 := by omega
  have z6 : (D2 : Int) < 18446744073709551616 := by omega
  clear ha hb hd1 hd2
  go_enter Tryz.func36, Tryz.ntmps36
  go_wp2_with (first | (go_at_call 76; (with_reducible refine Calls.mono (hx _) ?_); rintro e wc ⟨k, rfl, _, _, _⟩) | (go_at_call 76; (with_reducible refine Calls.mono (hy _) ?_); rintro e wc ⟨l, rfl, _, _, _⟩) | (go_at_call 43; (with_reducible refine Calls.mono (biLshC (by decide) hD1) ?_); rintro e wc ⟨rfl, _, _⟩) | (go_at_call 43; (with_reducible refine Calls.mono (biLshC (by decide) hD2) ?_); rintro e wc ⟨rfl, _, _⟩))
  refine ret_cell rfl rfl rfl (by rfl) (by rfl) (by rfl) ?_
  exact ⟨_, _, rfl, inferInstance, inferInstance, ⟨Gr.out⟩, ⟨Up.out⟩, ⟨Up.out⟩, inferInstance⟩
end Big
end
section
open Go.RowKit
namespace Big
theorem fpow_le (b : Nat) : fpow b ≤ 2047 := by
  unfold fpow fexp
  split <;> omega
theorem fnum_lt (b : Nat) : fnum b < 9007199254740992 := by
  unfold fnum fman
  split <;> omega
instance smC_frat (b : Nat) : SmC (frat b) 5000 := ⟨by
  unfold frat
  have h1 := fpow_le b
  have h2 := fnum_lt b
  have l1 : (words (fnum b)).length ≤ 2 := words_len_le (Nat.lt_trans h2 (by decide))
  have l2 := two_len (fpow b - 1075)
  have l3 := two_len (1075 - fpow b)
  have l4 := mul_len (fnum b) (2 ^ (fpow b - 1075))
  refine Sm.mk (Nat.ne_of_gt (Nat.two_pow_pos _)) ?_ (by omega)
  rw [sg_abs]
  omega⟩
theorem brMulA {W : World} {gz gx gy : Nat} {x y : _root_.Rat} {L M : Nat} [hz : Blk' 76 W gz] [hx : RaC 76 W gx x] [hy : RaC 76 W gy y] [sx : SmC x L] [sy : SmC y M] [vr : VrC W] (hL : L ≤ 34359738368) (hM : M ≤ 34359738368) :
    Calls Tryz.prog 89 #[.pointer (some ⟨gz, 0, none⟩), .pointer (some ⟨gx, 0, none⟩), .pointer (some ⟨gy, 0, none⟩)] W fun e w' => e = .returned (.pointer (some ⟨gz, 0, none⟩)) ∧ RaC 76 w' gz (x * y) ∧ Kp1 W gz w' := by
  obtain ⟨z0, z1, z2, bz⟩ := hz.out
  refine (brmulA gz gx gy z0 z1 z2 x y W bz hx.out hy.out (Nat.le_trans sx.out.1 hL) (Nat.le_trans sx.out.2 hL) (Nat.le_trans sy.out.1 hM) (Nat.le_trans sy.out.2 hM) vr.out).mono ?_
  rintro e w' ⟨rfl, h1, h2⟩
  exact ⟨rfl, ⟨h1⟩, ⟨h2⟩⟩
theorem brCmpC {w : World} {g k : Nat} {x y : _root_.Rat} {L M : Nat} [hx : RaC 76 w g x] [hy : RaC 76 w k y] [sx : SmC x L] [sy : SmC y M] (h1 : L ≤ 34359738368) (h2 : M ≤ 34359738368) :
    Calls Tryz.prog 90 #[.pointer (some ⟨g, 0, none⟩), .pointer (some ⟨k, 0, none⟩)] w fun e w' => e = .returned (.int .i64 (rcmp x y)) ∧ Kp0 w w' := by
  refine (brcmp g k x y w hx.out hy.out (Nat.le_trans sx.out.1 h1) (Nat.le_trans sx.out.2 h1) (Nat.le_trans sy.out.1 h2) (Nat.le_trans sy.out.2 h2)).mono ?_
  rintro e w' ⟨rfl, hb⟩
  exact ⟨rfl, ⟨hb⟩⟩
/-- Is a float's square enough? -/
def enB (r : _root_.Rat) (b : Nat) : Bool := decide (0 ≤ rcmp (frat b * frat b) r)
set_option synthInstance.maxHeartbeats 2000000 in
set_option synthInstance.maxSize 100000 in
set_option maxRecDepth 100000 in
set_option maxHeartbeats 16000000 in
theorem enoughC {w : World} {P g b L : Nat} {r : _root_.Rat} [hp : BkC w P [.pointer (some ⟨g, 0, none⟩)] 71] [hg : RaC 76 w g r] [sr : SmC r L] (hL : L ≤ 34359738368) [vr : VrB w] (hb : b < 18446744073709551616) (hf : fexp b ≠ 2047) :
    Calls Tryz.prog 86 #[.int .u64 b, .pointer (some ⟨P, 0, none⟩)] w fun e w' => e = .returned (.bool (enB r b)) ∧ Kp0 w w' := by
  have h2 := f64from_run
  have hP := hp.out.cell (i := 0) rfl
  haveI : Has w P := ⟨hp.out.lt⟩
  have z1 : (b : Int).toNat = b := Int.toNat_natCast b
  have HE := hid (show enB r b = decide (0 ≤ rcmp (frat b * frat b) r) from rfl)
  go_enter Tryz.func86, Tryz.ntmps86
  go_wp2_with (go_at_call 87; (with_reducible refine Calls.mono (bFloatC hb hf) ?_); rintro e wc ⟨rfl, _, _⟩)
  go_region_held3 (fun W => W.cell? ⟨P, 0, none⟩ = some (.pointer (some ⟨g, 0, none⟩))) (first | exact Bk.cell BkC.out rfl | (simp [go_sem, hP]; done)) (first | (go_at_call 89; (with_reducible refine Calls.mono (brMulA (by decide) (by decide)) ?_); rintro e wc ⟨rfl, _, _⟩) | (go_at_call 90; (with_reducible refine Calls.mono (brCmpC (by decide) hL) ?_); rintro e wc ⟨rfl, _⟩))
  all_goals
    go_wp2_with fail
    go_ret
    exact ⟨by rw [HE.out]; rfl, ⟨Gr.out⟩⟩
/-- By halves. -/
def upB (r : _root_.Rat) : Nat → Nat → Nat → Option Nat
  | 0, _, _ => none
  | n + 1, lo, hi => if hi - lo ≤ 1 then some hi else if enB r (lo + (hi - lo) / 2) = true then upB r n lo (lo + (hi - lo) / 2) else upB r n (lo + (hi - lo) / 2) hi
set_option synthInstance.maxHeartbeats 2000000 in
set_option synthInstance.maxSize 100000 in
set_option maxRecDepth 100000 in
set_option maxHeartbeats 16000000 in
theorem upwardC {w : World} {g L n : Nat} {r : _root_.Rat} {res : Nat} [hg : RaC 76 w g r] [sr : SmC r L] (hL : L ≤ 34359738368) [vr : VrB w] (h0 : enB r 9218868437227405311 = true) (h1 : upB r n 0 9218868437227405311 = some res) :
    Calls Tryz.prog 44 #[.pointer (some ⟨g, 0, none⟩)] w fun e w' => e = .returned (.tuple #[.float .f64 res, .bool true]) ∧ Kp0 w w' := by
  have hnot := run_not
  have a1 := f64bits_run
  have a2 := f64from_run
  have EN := hid (fun (W : World) (hW : Gr w W) (hP : BkC W w.heap.size [.pointer (some ⟨g, 0, none⟩)] 71) (hR : RaC 76 W g r) (b : Nat) (hb : b ≤ 9218868437227405311) => by
    haveI : VrB W := ⟨vr.out.below hW.out⟩
    exact enoughC (w := W) (P := w.heap.size) (g := g) (b := b) (r := r) hL (by omega) (by unfold fexp; omega))
  have H0 := hid h0
  have H1 := hid h1
  haveI : Has w g := ⟨hg.out.lt⟩
  clear h0 h1 hL
  go_enter Tryz.func44, Tryz.ntmps44
  go_wp2_with (go_at_call 86; (with_reducible refine Calls.mono (EN.out _ inferInstance inferInstance inferInstance 9218868437227405311 (Nat.le_refl _)) ?_); rw [H0.out]; rintro e wc ⟨rfl, _⟩)
  go_loopw [4, 5] (fun s4 s5 wx => ∃ (n lo hi : Nat), lo < hi ∧ hi ≤ 9218868437227405311 ∧ s4 = .int .u64 lo ∧ s5 = .int .u64 hi ∧ upB r n lo hi = some res ∧ Gr w wx ∧ BkC wx w.heap.size [.pointer (some ⟨g, 0, none⟩)] 71 ∧ RaC 76 wx g r) (fun s4 s5 _ => (intOf s5 - intOf s4).toNat)
  case atStart => exact ⟨n, 0, 9218868437227405311, by decide, Nat.le_refl _, rfl, rfl, H1.out, inferInstance, inferInstance, inferInstance⟩
  case round =>
    obtain ⟨m, lo, hi, h1, h2, rfl, rfl, h3, ig, ib, ir⟩ := hrel
    cases m with
    | zero => cases h3
    | succ m =>
      have e1 : (hi : Int) - (lo : Int) = ((hi - lo : Nat) : Int) := by omega
      have e2 : ((hi - lo : Nat) : Int) / 2 = (((hi - lo) / 2 : Nat) : Int) := by omega
      have e3 : (lo : Int) + (((hi - lo) / 2 : Nat) : Int) = ((lo + (hi - lo) / 2 : Nat) : Int) := by omega
      have e4 : (hi : Int) < 18446744073709551616 := by omega
      have e5 : (lo : Int) ≤ (hi : Int) := by omega
      have e6 : ((hi - lo : Nat) : Int) < 18446744073709551616 := by omega
      have e7 : ((lo + (hi - lo) / 2 : Nat) : Int) < 18446744073709551616 := by omega
      have hmid : lo + (hi - lo) / 2 ≤ 9218868437227405311 := by omega
      have HM : Hid (1 < hi - lo → lo < lo + (hi - lo) / 2 ∧ lo + (hi - lo) / 2 < hi) := hid (by omega)
      have H2 := hid (And.intro h1 h2)
      have H3 := hid h3
      have HE := hid (show upB r (m + 1) lo hi = if hi - lo ≤ 1 then some hi else if enB r (lo + (hi - lo) / 2) = true then upB r m lo (lo + (hi - lo) / 2) else upB r m (lo + (hi - lo) / 2) hi from rfl)
      obtain ⟨D, hD⟩ : ∃ D, D = hi - lo := ⟨_, rfl⟩
      obtain ⟨mid, hMid⟩ : ∃ mid, mid = lo + (hi - lo) / 2 := ⟨_, rfl⟩
      obtain ⟨q, hq⟩ : ∃ q, q = enB r mid := ⟨_, rfl⟩
      have EM := hid (fun (W : World) (hW : Gr w W) (hP : BkC W w.heap.size [.pointer (some ⟨g, 0, none⟩)] 71) (hR : RaC 76 W g r) => EN.out W hW hP hR mid (by rw [hMid]; exact hmid))
      rw [← hq] at EM
      rw [← hMid] at e3 e7 HM HE
      rw [← hD] at e1 e2 e3 e6 HM HE
      have HD := hid hD
      have HMid := hid hMid
      have HQ := hid hq
      rw [← hq] at HE
      have hhi := H2.out.2
      clear h1 h2 h3 hD hMid hq hmid
      obtain ⟨D2, hD2⟩ : ∃ D2, D2 = D / 2 := ⟨_, rfl⟩
      rw [← hD2] at e2 e3
      clear hD2
      by_cases hlt : 1 < D
      · have zl : (1 : Int) < (D : Int) := by omega
        have HR2 := HE.out
        rw [H3.out, if_neg (by omega)] at HR2
        have HR3 := hid HR2
        have HLT := hid hlt
        have zl2 : decide ((1 : Int) < (D : Int)) = true := decide_eq_true zl
        clear HR2 hlt
        cases q
        all_goals
          go_upto_region 7 with fail
          go_wp2_with fail
          go_loud (refine Calls.mono (EM.out wr ig ib ir) ?_)
          rintro e wc ⟨rfl, _⟩
          go_wp2_with fail
          have hm := HM.out HLT.out
          have h3 := HR3.out
          have h2 := H2.out
        · rw [if_neg (by simp)] at h3
          case roundEnd => exact ⟨⟨m, mid, hi, hm.2, h2.2, rfl, rfl, h3.symm, inferInstance, inferInstance, inferInstance⟩, by simp [intOf]; omega⟩
        · rw [if_pos (by simp)] at h3
          case roundEnd => exact ⟨⟨m, lo, mid, hm.1, by omega, rfl, rfl, h3.symm, inferInstance, inferInstance, inferInstance⟩, by simp [intOf]; omega⟩
      · have zl : ¬ (1 : Int) < (D : Int) := by omega
        have zl2 : decide ((1 : Int) < (D : Int)) = false := decide_eq_false zl
        have hres := HE.out
        rw [H3.out, if_pos (by omega)] at hres
        obtain rfl := Option.some.inj hres
        clear hlt hres
        go_wp2_with fail
        go_ret2
        exact ⟨rfl, ⟨Gr.out⟩⟩
end Big
end
section
open Go.RowKit
namespace Big
abbrev Ex := Int × Int × Nat
def exT (a b : Ex) : Ex := (a.1 * b.1 - a.2.1 * b.2.1, a.1 * b.2.1 + a.2.1 * b.1, a.2.2 + b.2.2)
def exP (a b : Ex) : Ex := (b.1 * 2 ^ (a.2.2 - b.2.2) + a.1, b.2.1 * 2 ^ (a.2.2 - b.2.2) + a.2.1, a.2.2)
/-- Short. -/
def exOk (a : Ex) : Bool := decide (a.1.natAbs < 4294967296 ^ 1000) && decide (a.2.1.natAbs < 4294967296 ^ 1000) && decide (a.2.2 ≤ 100000)
theorem exOk_out {a : Ex} (h : exOk a = true) : SmI a.1 1000 ∧ SmI a.2.1 1000 ∧ a.2.2 ≤ 100000 := by
  unfold exOk at h
  simp only [Bool.and_eq_true, decide_eq_true_eq] at h
  exact ⟨⟨words_len_le h.1.1⟩, ⟨words_len_le h.1.2⟩, h.2⟩
instance (priority := 1100) inC_setT (w : World) (g n i : Nat) (v : Value) (x : Int) (L : List Value) (T : Nat) [h : InC w g x] [b : BkC w n L T] [t : NeT 74 T] : InC (w.setCell ⟨n, i, none⟩ v) g x := ⟨by
  have hgn : g ≠ n := by
    rintro rfl
    obtain ⟨u, hb, -⟩ := h.out
    have h1 := hb.1
    rw [b.out.1] at h1
    simp only [Option.some.injEq, Obj.cells.injEq] at h1
    exact t.out h1.2.1
  exact h.out.keep b.out ((Keeps.refl _ _ _).set (Or.inl (List.mem_singleton.2 rfl)) i v) hgn⟩
theorem smI_le {x : Int} {L M : Nat} (h : SmI x L) (k : L ≤ M) : SmI x M := ⟨Nat.le_trans h.out k⟩
theorem exTimesE {w : World} {i j i' j' : Nat} {a b : Ex} (ha : exOk a = true) (hb : exOk b = true) [hx : InC w i a.1] [hy : InC w j a.2.1] [hx' : InC w i' b.1] [hy' : InC w j' b.2.1] :
    Calls Tryz.prog 37 #[.agg #[.pointer (some ⟨i, 0, none⟩), .pointer (some ⟨j, 0, none⟩), .int .i64 a.2.2], .agg #[.pointer (some ⟨i', 0, none⟩), .pointer (some ⟨j', 0, none⟩), .int .i64 b.2.2]] w fun e w' => ∃ k l, e = .returned (.agg #[.pointer (some ⟨k, 0, none⟩), .pointer (some ⟨l, 0, none⟩), .int .i64 (exT a b).2.2]) ∧ InC w' k (exT a b).1 ∧ InC w' l (exT a b).2.1 ∧ Kp0 w w' ∧ UpW w k ∧ UpW w l ∧ NeN k l := by
  obtain ⟨a1, a2, a3⟩ := exOk_out ha
  obtain ⟨b1, b2, b3⟩ := exOk_out hb
  haveI := smI_le a1 (show 1000 ≤ 1000000 by decide)
  haveI := smI_le a2 (show 1000 ≤ 1000000 by decide)
  haveI := smI_le b1 (show 1000 ≤ 1000000 by decide)
  haveI := smI_le b2 (show 1000 ≤ 1000000 by decide)
  have k := exTimes (w := w) (i := i) (j := j) (i' := i') (j' := j') (d := a.2.2) (d' := b.2.2) (x := a.1) (y := a.2.1) (x' := b.1) (y' := b.2.1) (by omega) (by omega)
  refine k.mono (fun e w' h => ?_)
  obtain ⟨p, q, h1, h2⟩ := h
  exact ⟨p, q, h1, h2⟩
theorem exPlusE {w : World} {i j i' j' : Nat} {a b : Ex} (ha : exOk a = true) (hb : exOk b = true) (hd : b.2.2 ≤ a.2.2) [hx : InC w i a.1] [hy : InC w j a.2.1] [hx' : InC w i' b.1] [hy' : InC w j' b.2.1] :
    Calls Tryz.prog 38 #[.agg #[.pointer (some ⟨i, 0, none⟩), .pointer (some ⟨j, 0, none⟩), .int .i64 a.2.2], .agg #[.pointer (some ⟨i', 0, none⟩), .pointer (some ⟨j', 0, none⟩), .int .i64 b.2.2]] w fun e w' => ∃ k l, e = .returned (.agg #[.pointer (some ⟨k, 0, none⟩), .pointer (some ⟨l, 0, none⟩), .int .i64 (exP a b).2.2]) ∧ InC w' k (exP a b).1 ∧ InC w' l (exP a b).2.1 ∧ Kp0 w w' ∧ UpW w k ∧ UpW w l ∧ NeN k l := by
  obtain ⟨a1, a2, a3⟩ := exOk_out ha
  obtain ⟨b1, b2, b3⟩ := exOk_out hb
  haveI := smI_le a1 (show 1000 ≤ 1000000 by decide)
  haveI := smI_le a2 (show 1000 ≤ 1000000 by decide)
  haveI := smI_le b1 (show 1000 ≤ 1000000 by decide)
  haveI := smI_le b2 (show 1000 ≤ 1000000 by decide)
  exact exPlus (w := w) (i := i) (j := j) (i' := i') (j' := j') (d := a.2.2) (d' := b.2.2) (D := a.2.2 - b.2.2) (x := a.1) (y := a.2.1) (x' := b.1) (y' := b.2.1) (by omega) (by omega)
theorem exSquareE {w : World} {i j : Nat} {a : Ex} (ha : exOk a = true) [hx : InC w i a.1] [hy : InC w j a.2.1] :
    Calls Tryz.prog 39 #[.agg #[.pointer (some ⟨i, 0, none⟩), .pointer (some ⟨j, 0, none⟩), .int .i64 a.2.2]] w fun e w' => ∃ k, e = .returned (.pointer (some ⟨k, 0, none⟩)) ∧ InC w' k (a.1 * a.1 + a.2.1 * a.2.1) ∧ Kp0 w w' ∧ UpW w k := by
  obtain ⟨a1, a2, a3⟩ := exOk_out ha
  haveI := smI_le a1 (show 1000 ≤ 1000000 by decide)
  haveI := smI_le a2 (show 1000 ≤ 1000000 by decide)
  exact exSquare (w := w) (i := i) (j := j) (d := a.2.2) (x := a.1) (y := a.2.1)
end Big
end
end Go.Proofs.YtcoillcppmibgaaGreatDoor
