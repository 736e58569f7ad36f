/- Signs; numbers of 64 bits. Fractions: set, turned; what stands above and below. Fractions of whole numbers; how they stand; quotients. Fractions of floats. Fractions made anew. -/
import Derived.Test.YtcoillcppmibgaaGreatDoorD12
import Derived.Laws.Externs
import Derived.Laws.ResultCell
import Derived.Laws.Rows
set_option linter.unusedSimpArgs false
set_option linter.unusedVariables false
namespace Go.Proofs.YtcoillcppmibgaaGreatDoor
section
open Go.RowKit
namespace Big
set_option maxRecDepth 100000 in
set_option maxHeartbeats 16000000 in
theorem bisign (gx : Nat) (n : Int) (w : World) (hx : Ia w gx n) : Calls Tryz.prog 40 #[.pointer (some ⟨gx, 0, none⟩)] w fun e w' => e = .returned (.int .i64 n.sign) ∧ w' = w := by
  obtain ⟨v, R, T, bx, wx⟩ := hx
  obtain ⟨a, c, rfl, -, -⟩ := wx.form
  have x0 := bx.cell (i := 0) rfl
  have x1 := bx.cell (i := 1) rfl
  haveI : Has w gx := ⟨bx.lt⟩
  clear bx wx
  by_cases h0 : n = 0
  · subst h0
    rw [show (words (0 : Int).natAbs).length = 0 by rw [show (0 : Int).natAbs = 0 from rfl, words_0]; rfl] at x1
    rw [show (0 : Int).sign = 0 from rfl]
    go_enter Tryz.func40, Tryz.ntmps40
    go_wp2_with fail
    go_ret
    exact ⟨rfl, rfl⟩
  · have hl : (words n.natAbs).length ≠ 0 := fun e => h0 (by have := words_len0.1 e; omega)
    have e1 : (((words n.natAbs).length : Int) == 0) = false := beq_eq_false_iff_ne.2 (by omega)
    generalize (words n.natAbs).length = ln at *
    clear hl
    by_cases hn : n < 0
    · rw [Int.sign_eq_neg_one_of_neg hn]
      rw [decide_eq_true hn] at x0
      clear hn h0
      go_enter Tryz.func40, Tryz.ntmps40
      go_wp2_with fail
      go_ret
      exact ⟨rfl, rfl⟩
    · rw [Int.sign_eq_one_of_pos (by omega)]
      rw [decide_eq_false hn] at x0
      clear hn h0
      go_enter Tryz.func40, Tryz.ntmps40
      go_wp2_with fail
      go_ret
      exact ⟨rfl, rfl⟩
set_option maxRecDepth 100000 in
set_option maxHeartbeats 16000000 in
theorem brsign (gx : Nat) (r : _root_.Rat) (w : World) (hx : Ra 76 w gx r) : Calls Tryz.prog 118 #[.pointer (some ⟨gx, 0, none⟩)] w fun e w' => e = .returned (.int .i64 r.num.sign) ∧ w' = w := by
  have IS := bisign gx r.num w hx.ia
  obtain ⟨s, hs⟩ : ∃ s, s = r.num.sign := ⟨_, rfl⟩
  rw [← hs] at IS ⊢
  clear hs hx
  go_enter Tryz.func118, Tryz.ntmps118
  go_wp2_with (go_at_call 40; (with_reducible refine IS.mono ?_); rintro e w' ⟨rfl, hw⟩; obtain rfl := hw.symm)
  go_ret
  exact ⟨rfl, rfl⟩
set_option maxRecDepth 100000 in
set_option maxHeartbeats 16000000 in
theorem bisetint64 (gz T : Nat) (z0 z1 : Value) (R : List Value) (x : Int) (w : World) (hz : Bk w gz (z0 :: z1 :: R) T) (h1 : -9223372036854775808 ≤ x) (h2 : x < 9223372036854775808) :
    Calls Tryz.prog 83 #[.pointer (some ⟨gz, 0, none⟩), .int .i64 x] w fun e w' => e = .returned (.pointer (some ⟨gz, 0, none⟩)) ∧ Iz R T w' gz x ∧ Keeps w.heap.size [gz] w w' := by
  have hN : x.natAbs < 18446744073709551616 := by omega
  have FU := bfromUint x.natAbs hN w
  have SE := hid (fun v w' (h : Below w.heap.size w w') (q : Wd w' v (words x.natAbs)) => biset gz T z0 z1 R (decide (x < 0)) v x.natAbs w' (hz.below h) q (by have := words_len_le (n := x.natAbs) (k := 2) (by omega); omega))
  rw [← sg_neg, ← sg_of] at SE
  unfold Iz
  by_cases hx : x < 0
  · obtain ⟨n, rfl⟩ : ∃ n : Nat, x = -(n : Int) := ⟨x.natAbs, by omega⟩
    rw [Int.natAbs_neg, Int.natAbs_natCast] at *
    rw [decide_eq_true hx] at *
    have e1 : IntKind.u64.wrap (-(n : Int)) = 18446744073709551616 - n := by rw [IntKind.wrap_u64]; omega
    have e2 : IntKind.u64.wrap (-(18446744073709551616 - (n : Int))) = n := by rw [IntKind.wrap_u64]; omega
    have e3 : IntKind.u64.wrap ((n : Int) - 18446744073709551616) = n := by rw [IntKind.wrap_u64]; omega
    have hx2 : decide (-(n : Int) < 0) = true := decide_eq_true hx
    clear hz
    go_enter Tryz.func83, Tryz.ntmps83
    go_wp2_with (first | (go_at_call 115; (with_reducible refine FU.mono ?_); rintro e w1 ⟨v1, rfl, hv1, -, hb1⟩) | (go_at_call 81; (with_reducible refine (SE.out _ _ hb1 hv1).mono ?_); rintro e w2 ⟨v2, rfl, hB2, hV2, -, hk2⟩))
    go_ret
    exact ⟨rfl, ⟨v2, hB2, hV2⟩, (Keeps.of_below hb1).trans (hk2.mono hb1.size (fun _ _ h => h))⟩
  · obtain ⟨n, rfl⟩ : ∃ n : Nat, x = (n : Int) := ⟨x.natAbs, by omega⟩
    rw [Int.natAbs_natCast] at *
    rw [decide_eq_false hx] at *
    have hx2 : decide ((n : Int) < 0) = false := decide_eq_false hx
    have e1 : IntKind.u64.wrap (n : Int) = n := by rw [IntKind.wrap_u64]; omega
    clear hz
    go_enter Tryz.func83, Tryz.ntmps83
    go_wp2_with (first | (go_at_call 115; (with_reducible refine FU.mono ?_); rintro e w1 ⟨v1, rfl, hv1, -, hb1⟩) | (go_at_call 81; (with_reducible refine (SE.out _ _ hb1 hv1).mono ?_); rintro e w2 ⟨v2, rfl, hB2, hV2, -, hk2⟩))
    go_ret
    exact ⟨rfl, ⟨v2, hB2, hV2⟩, (Keeps.of_below hb1).trans (hk2.mono hb1.size (fun _ _ h => h))⟩
end Big
end
section
open Go.RowKit
namespace Big
def rcmp (x y : _root_.Rat) : Int := if x < y then -1 else if y < x then 1 else 0
theorem rcmp_lt {x y : _root_.Rat} (h : x.num.sign < y.num.sign) : rcmp x y = -1 := by
  have : x < y := by
    rw [Rat.lt_iff]
    have hx := x.den_pos
    have hy := y.den_pos
    rcases Int.lt_trichotomy x.num 0 with h1 | h1 | h1
    · have a : x.num * (y.den : Int) < 0 := Int.mul_neg_of_neg_of_pos h1 (by omega)
      rcases Int.lt_trichotomy y.num 0 with h2 | h2 | h2
      · rw [Int.sign_eq_neg_one_of_neg h1, Int.sign_eq_neg_one_of_neg h2] at h; omega
      · rw [h2]; omega
      · have := Int.mul_pos h2 (show (0 : Int) < x.den by omega); omega
    · rw [h1] at h ⊢
      rcases Int.lt_trichotomy y.num 0 with h2 | h2 | h2
      · rw [Int.sign_eq_neg_one_of_neg h2] at h; simp at h
      · rw [h2] at h; simp at h
      · have := Int.mul_pos h2 (show (0 : Int) < x.den by omega); omega
    · rw [Int.sign_eq_one_of_pos h1] at h
      rcases Int.lt_trichotomy y.num 0 with h2 | h2 | h2
      · rw [Int.sign_eq_neg_one_of_neg h2] at h; omega
      · rw [h2] at h; simp at h
      · rw [Int.sign_eq_one_of_pos h2] at h; omega
  rw [rcmp, if_pos this]
theorem rcmp_swap (x y : _root_.Rat) : rcmp y x = - rcmp x y := by
  unfold rcmp
  by_cases h : x < y
  · have h2 : ¬ y < x := Rat.not_lt.2 (Rat.le_of_lt h)
    rw [if_neg h2, if_pos h, if_pos h]; rfl
  · by_cases h2 : y < x
    · rw [if_pos h2, if_neg h, if_pos h2]
    · rw [if_neg h2, if_neg h, if_neg h, if_neg h2]; rfl
theorem rcmp_gt {x y : _root_.Rat} (h : y.num.sign < x.num.sign) : rcmp x y = 1 := by
  rw [rcmp_swap, rcmp_lt h]; rfl
theorem rcmp_zero {x y : _root_.Rat} (h : x.num.sign = y.num.sign) (h0 : x.num.sign = 0) : rcmp x y = 0 := by
  have h1 : x.num = 0 := Int.sign_eq_zero_iff_zero.1 h0
  have h2 : y.num = 0 := Int.sign_eq_zero_iff_zero.1 (h ▸ h0)
  have e1 := Rat.num_eq_zero.1 h1
  have e2 := Rat.num_eq_zero.1 h2
  rw [e1, e2]; rfl
theorem rcmp_pos {x y : _root_.Rat} (hx : ¬ x.num < 0) (hy : ¬ y.num < 0) : rcmp x y = cmpN (x.num.natAbs * y.den) (y.num.natAbs * x.den) := by
  unfold rcmp cmpN
  simp only [Rat.lt_iff]
  have e1 : (x.num.natAbs : Int) = x.num := by omega
  have e2 : (y.num.natAbs : Int) = y.num := by omega
  have c1 : (x.num * (y.den : Int) < y.num * (x.den : Int)) ↔ (x.num.natAbs * y.den < y.num.natAbs * x.den) := by
    rw [← Int.ofNat_lt, Int.natCast_mul, Int.natCast_mul, e1, e2]
  have c2 : (y.num * (x.den : Int) < x.num * (y.den : Int)) ↔ (y.num.natAbs * x.den < x.num.natAbs * y.den) := by
    rw [← Int.ofNat_lt, Int.natCast_mul, Int.natCast_mul, e1, e2]
  simp only [c1, c2]
theorem rcmp_neg {x y : _root_.Rat} (hx : x.num < 0) (hy : y.num < 0) : rcmp x y = - cmpN (x.num.natAbs * y.den) (y.num.natAbs * x.den) := by
  unfold rcmp cmpN
  simp only [Rat.lt_iff]
  have e1 : (x.num.natAbs : Int) = -x.num := by omega
  have e2 : (y.num.natAbs : Int) = -y.num := by omega
  have c1 : (x.num * (y.den : Int) < y.num * (x.den : Int)) ↔ (y.num.natAbs * x.den < x.num.natAbs * y.den) := by
    rw [← Int.ofNat_lt, Int.natCast_mul, Int.natCast_mul, e1, e2, Int.neg_mul, Int.neg_mul]; omega
  have c2 : (y.num * (x.den : Int) < x.num * (y.den : Int)) ↔ (x.num.natAbs * y.den < y.num.natAbs * x.den) := by
    rw [← Int.ofNat_lt, Int.natCast_mul, Int.natCast_mul, e1, e2, Int.neg_mul, Int.neg_mul]; omega
  simp only [c1, c2]
  by_cases h1 : x.num.natAbs * y.den < y.num.natAbs * x.den
  · rw [if_neg (by omega), if_pos h1, if_pos h1]; rfl
  · by_cases h2 : y.num.natAbs * x.den < x.num.natAbs * y.den
    · rw [if_pos h2, if_neg h1, if_pos h2]
    · rw [if_neg h2, if_neg h1, if_neg h1, if_neg h2]; rfl

theorem Bk.ne {w : World} {g k T S : Nat} {L M : List Value} (h : Bk w g L T) (h2 : Bk w k M S) (hTS : T ≠ S) : g ≠ k := by
  intro e
  subst e
  have := h.1.symm.trans h2.1
  simp only [Option.some.injEq, Obj.cells.injEq] at this
  exact hTS this.2.1
theorem Dn.row {w : World} {d : Value} {n : Nat} (h : Dn w d n) : ∃ L : List Nat, Wd w d L ∧ (L = [] ∧ n = 1 ∨ L = words n) := by
  rcases h with ⟨h1, h2⟩ | h
  · exact ⟨[], h1, .inl ⟨rfl, h2⟩⟩
  · exact ⟨_, h, .inr rfl⟩
theorem Dn.of {w : World} {d : Value} {n : Nat} {L : List Nat} (h : Wd w d L) (h2 : L = [] ∧ n = 1 ∨ L = words n) : Dn w d n := by
  rcases h2 with ⟨rfl, h2⟩ | rfl
  · exact .inl ⟨h, h2⟩
  · exact .inr h
theorem Dn.len {n : Nat} {L : List Nat} (h2 : L = [] ∧ n = 1 ∨ L = words n) : L.length ≤ (words n).length := by
  rcases h2 with ⟨rfl, h2⟩ | rfl
  · exact Nat.zero_le _
  · exact Nat.le_refl _
def rabs (r : _root_.Rat) : _root_.Rat := if r.num < 0 then -r else r
theorem rabs_num (r : _root_.Rat) : (rabs r).num = (r.num.natAbs : Int) := by
  unfold rabs
  split
  · rw [Rat.neg_num]; omega
  · omega
theorem rabs_den (r : _root_.Rat) : (rabs r).den = r.den := by
  unfold rabs; split <;> rfl
theorem int_num (x : Int) : ((x : _root_.Rat)).num = x := rfl
theorem int_den (x : Int) : ((x : _root_.Rat)).den = 1 := rfl
theorem Dn.setB {w : World} {d : Value} {n : Nat} {g T : Nat} {L : List Value} (h : Dn w d n) (b : Bk w g L T) (i : Nat) (x : Value) : Dn (w.setCell ⟨g, i, none⟩ x) d n := h.imp (fun h => ⟨h.1.setB b i x, h.2⟩) (fun h => h.setB b i x)
set_option maxRecDepth 100000 in
set_option maxHeartbeats 16000000 in
theorem bnewint (x : Int) (w : World) (h1 : -9223372036854775808 ≤ x) (h2 : x < 9223372036854775808) :
    Calls Tryz.prog 42 #[.int .i64 x] w fun e w' => e = .returned (.pointer (some ⟨w.heap.size, 0, none⟩)) ∧ In 74 w' w.heap.size x ∧ Below w.heap.size w w' := by
  have SI := hid (bisetint64 w.heap.size 74 (.bool false) (.slice none 0 0) [] x (w.alloc (.cells #[.bool false, .slice none 0 0] 74)) ⟨by rw [block_at], by decide⟩ h1 h2)
  have hb : Below w.heap.size w (w.alloc (.cells #[.bool false, .slice none 0 0] 74)) := (Below.refl _ _).alloc (Nat.le_refl _) _
  clear h1 h2
  go_enter Tryz.func42, Tryz.ntmps42
  go_wp2_with (go_at_call 83; (with_reducible refine SI.out.mono ?_); rintro e w1 ⟨rfl, hI, hk⟩)
  go_ret
  exact ⟨rfl, hI, below_keeps hb hk (Nat.le_refl _) hb.size⟩
end Big
end
section
open Go.RowKit
namespace Big
set_option maxRecDepth 100000 in
set_option maxHeartbeats 16000000 in
theorem bsetfrac (gz gx gy : Nat) (z0 z1 z2 : Value) (x : Int) (d : Nat) (w : World) (hz : Bk w gz [z0, z1, z2] 76) (hx : Ia w gx x) (hy : Ia w gy (d : Int)) (lx : (words x.natAbs).length ≤ 137438953472) (ld : (words d).length ≤ 137438953472) (h0 : d ≠ 0) (hvr : Vr w) :
    Calls Tryz.prog 45 #[.pointer (some ⟨gz, 0, none⟩), .pointer (some ⟨gx, 0, none⟩), .pointer (some ⟨gy, 0, none⟩)] w fun e w' => e = .returned (.pointer (some ⟨gz, 0, none⟩)) ∧ Ra 76 w' gz (mkRat x d) ∧ Keeps w.heap.size [gz] w w' := by
  obtain ⟨vx, Rx, Tx, bx, wx⟩ := hx
  obtain ⟨vy, Ry, Ty, by_, wy⟩ := hy
  rw [decide_eq_false (show ¬ ((d : Int) < 0) by omega)] at by_
  rw [Int.natAbs_natCast] at wy
  have C1 := hid (fun w' (h : Below w.heap.size w w') => bcopied vx (words x.natAbs) w' (wx.below h) (by omega))
  have C2 := hid (fun w' (h : Below w.heap.size w w') => bcopied vy (words d) w' (wy.below h) (by omega))
  have SE := hid (fun v1 v2 w' (h : Below w.heap.size w w') (q1 : Wd w' v1 (words x.natAbs)) (q2 : Wd w' v2 (words d)) => brset gz z0 z1 z2 (decide (x < 0)) v1 v2 x.natAbs d w' (hz.below h) q1 q2 h0 lx ld (hvr.below h))
  rw [← sg_of] at SE
  obtain ⟨ax, cx, rfl, -, -⟩ := wx.form
  obtain ⟨ay, cy, rfl, -, -⟩ := wy.form
  have BX := hid bx
  have BY := hid by_
  have x0 := bx.cell (i := 0) rfl
  have x1 := bx.cell (i := 1) rfl
  have y0 := by_.cell (i := 0) rfl
  have y1 := by_.cell (i := 1) rfl
  haveI : Has w gx := ⟨bx.lt⟩
  haveI : Has w gy := ⟨by_.lt⟩
  clear hz bx by_ wx wy lx ld h0
  generalize decide (x < 0) = nx at *
  obtain ⟨r, hr⟩ : ∃ r, r = mkRat x d := ⟨_, rfl⟩
  rw [← hr] at SE ⊢
  clear hr
  go_enter Tryz.func45, Tryz.ntmps45
  go_wp2_with fail
  refine wp_region_late (S := (fun W => W.cell? ⟨gx, 0, none⟩ = some (.bool nx) ∧ W.cell? ⟨gx, 1, none⟩ = some (.slice ax (words x.natAbs).length cx) ∧ W.cell? ⟨gy, 0, none⟩ = some (.bool false) ∧ W.cell? ⟨gy, 1, none⟩ = some (.slice ay (words d).length cy))) 20 (by kernel_rfl) ?_ (fun hHeld => ?_)
  · (refine ⟨?_, ?_, ?_, ?_⟩ <;> (first | assumption | (simp [go_sem, *]; done)))
  refine wpAnyL_p 0 (v := ?_) rfl (Or.inl ⟨by rfl, ?_⟩) ?_
  rotate_left
  · intro w hSw
    (try dsimp only at hSw)
    go_simp
    all_goals (with_reducible rfl)
  try simp only [Act.put, List.setIfInBounds_toArray, List.set_cons_zero, List.set_cons_succ]
  refine wpAnyL_p 1 (v := ?_) rfl (Or.inl ⟨by rfl, ?_⟩) ?_
  rotate_left
  · intro w hSw
    (try dsimp only at hSw)
    go_simp
    all_goals (with_reducible rfl)
  try simp only [Act.put, List.setIfInBounds_toArray, List.set_cons_zero, List.set_cons_succ]
  refine wpAnyL_p 2 (v := ?_) rfl (Or.inl ⟨by rfl, ?_⟩) ?_
  rotate_left
  · intro w hSw
    (try dsimp only at hSw)
    go_simp
    all_goals (with_reducible rfl)
  try simp only [Act.put, List.setIfInBounds_toArray, List.set_cons_zero, List.set_cons_succ]
  refine wpAnyL_p 3 (v := ?_) rfl (Or.inl ⟨by rfl, ?_⟩) ?_
  rotate_left
  · intro w hSw
    (try dsimp only at hSw)
    go_simp
    all_goals (with_reducible rfl)
  try simp only [Act.put, List.setIfInBounds_toArray, List.set_cons_zero, List.set_cons_succ]
  refine wpAnyL_p 5 (v := ?_) rfl (Or.inl ⟨by rfl, ?_⟩) ?_
  rotate_left
  · intro w hSw
    (try dsimp only at hSw)
    go_simp
    all_goals (with_reducible rfl)
  try simp only [Act.put, List.setIfInBounds_toArray, List.set_cons_zero, List.set_cons_succ]
  refine wpAnyL_p 6 (v := ?_) rfl (Or.inl ⟨by rfl, ?_⟩) ?_
  rotate_left
  · intro w hSw
    (try dsimp only at hSw)
    go_simp
    all_goals (with_reducible rfl)
  try simp only [Act.put, List.setIfInBounds_toArray, List.set_cons_zero, List.set_cons_succ]
  refine wpAnyL_p 7 (v := ?_) rfl (Or.inl ⟨by rfl, ?_⟩) ?_
  rotate_left
  · intro w hSw
    (try dsimp only at hSw)
    go_simp
    all_goals (with_reducible rfl)
  try simp only [Act.put, List.setIfInBounds_toArray, List.set_cons_zero, List.set_cons_succ]
  refine wpAnyL_p 10 (v := ?_) rfl (Or.inl ⟨by rfl, ?_⟩) ?_
  rotate_left
  · intro w hSw
    (try dsimp only at hSw)
    go_simp
    all_goals (with_reducible rfl)
  try simp only [Act.put, List.setIfInBounds_toArray, List.set_cons_zero, List.set_cons_succ]
  refine wpAnyL_p 11 (v := ?_) rfl (Or.inl ⟨by rfl, ?_⟩) ?_
  rotate_left
  · intro w hSw
    (try dsimp only at hSw)
    go_simp
    all_goals (with_reducible rfl)
  try simp only [Act.put, List.setIfInBounds_toArray, List.set_cons_zero, List.set_cons_succ]
  refine wpAnyL_p 12 (v := ?_) rfl (Or.inl ⟨by rfl, ?_⟩) ?_
  rotate_left
  · intro w hSw
    (try dsimp only at hSw)
    go_simp
    all_goals (with_reducible rfl)
  try simp only [Act.put, List.setIfInBounds_toArray, List.set_cons_zero, List.set_cons_succ]
  refine wpAnyL_p 15 (v := ?_) rfl (Or.inl ⟨by rfl, ?_⟩) ?_
  rotate_left
  · intro w hSw
    (try dsimp only at hSw)
    go_simp
    all_goals (with_reducible rfl)
  try simp only [Act.put, List.setIfInBounds_toArray, List.set_cons_zero, List.set_cons_succ]
  refine wpAnyL_p 16 (v := ?_) rfl (Or.inl ⟨by rfl, ?_⟩) ?_
  rotate_left
  · intro w hSw
    (try dsimp only at hSw)
    go_simp
    all_goals (with_reducible rfl)
  try simp only [Act.put, List.setIfInBounds_toArray, List.set_cons_zero, List.set_cons_succ]
  refine wpAnyL_p 17 (v := ?_) rfl (Or.inl ⟨by rfl, ?_⟩) ?_
  rotate_left
  · intro w hSw
    (try dsimp only at hSw)
    go_simp
    all_goals (with_reducible rfl)
  try simp only [Act.put, List.setIfInBounds_toArray, List.set_cons_zero, List.set_cons_succ]
  refine wpAnyL_t 4 (v := ?_) rfl (Or.inl ⟨by rfl, ?_⟩) ?_
  rotate_left
  · intro w hSw
    (try dsimp only at hSw)
    go_simp
    all_goals (with_reducible rfl)
  try simp only [Act.put, List.setIfInBounds_toArray, List.set_cons_zero, List.set_cons_succ]
  refine wpAnyL_t 8 (v := ?_) rfl (Or.inl ⟨by rfl, ?_⟩) ?_
  rotate_left
  · intro w hSw
    (try dsimp only at hSw)
    go_simp
    all_goals (with_reducible rfl)
  try simp only [Act.put, List.setIfInBounds_toArray, List.set_cons_zero, List.set_cons_succ]
  refine wpAnyL_p 9 (v := ?_) rfl (Or.inl ⟨by rfl, ?_⟩) ?_
  rotate_left
  · intro w hSw
    (try dsimp only at hSw)
    go_simp
    all_goals (with_reducible rfl)
  try simp only [Act.put, List.setIfInBounds_toArray, List.set_cons_zero, List.set_cons_succ]
  refine wpAnyL_t 13 (v := ?_) rfl (Or.inl ⟨by rfl, ?_⟩) ?_
  rotate_left
  · intro w hSw
    (try dsimp only at hSw)
    go_simp
    all_goals (with_reducible rfl)
  try simp only [Act.put, List.setIfInBounds_toArray, List.set_cons_zero, List.set_cons_succ]
  refine wpAnyL_t 18 (v := ?_) rfl (Or.inl ⟨by rfl, ?_⟩) ?_
  rotate_left
  · intro w hSw
    (try dsimp only at hSw)
    go_simp
    all_goals (with_reducible rfl)
  try simp only [Act.put, List.setIfInBounds_toArray, List.set_cons_zero, List.set_cons_succ]
  refine wpAnyL_ready (rs := [14]) (by kernel_rfl) (by simp) ?_
  refine AllReadyL.early rfl (fun K hK => ?_) AllReadyL.nil
  go_simp
  (go_at_call 92; (with_reducible refine (C1.out _ ?_).mono ?_); (focus (first | exact Below.refl _ _ | exact Below.drew (Below.refl _ _))); rintro e w1 ⟨g1, rfl, h1, -, hq1⟩; have hb1 : Below w.heap.size w w1 := (by first | exact hq1 | exact Below.trans (Below.drew (Below.refl w.heap.size w)) hq1); have x01 := (BX.out.below hb1).cell (i := 0) rfl; have x11 := (BX.out.below hb1).cell (i := 1) rfl; have y01 := (BY.out.below hb1).cell (i := 0) rfl; have y11 := (BY.out.below hb1).cell (i := 1) rfl)
  refine hK.out _ _ ?_ (fun hHeld => ?_)
  · (refine ⟨?_, ?_, ?_, ?_⟩ <;> (first | assumption | (simp [go_sem, *]; done)))
  clear hK K
  try simp only [Act.put, List.setIfInBounds_toArray, List.set_cons_zero, List.set_cons_succ]
  refine wpAnyL_ready (rs := [19]) (by kernel_rfl) (by simp) ?_
  refine AllReadyL.early rfl (fun K hK => ?_) AllReadyL.nil
  go_simp
  (go_at_call 92; (with_reducible refine (C2.out _ hb1).mono ?_); rintro e w2 ⟨g2, rfl, h2, -, hq2⟩; have hb2 := Below.trans hb1 (below_low hq2 hb1.size); have h12 := h1.keep hq2; have x02 := (BX.out.below hb2).cell (i := 0) rfl; have x12 := (BX.out.below hb2).cell (i := 1) rfl; have y02 := (BY.out.below hb2).cell (i := 0) rfl; have y12 := (BY.out.below hb2).cell (i := 1) rfl)
  refine hK.out _ _ ?_ (fun hHeld => ?_)
  · (refine ⟨?_, ?_, ?_, ?_⟩ <;> (first | assumption | (simp [go_sem, *]; done)))
  clear hK K
  try simp only [Act.put, List.setIfInBounds_toArray, List.set_cons_zero, List.set_cons_succ]
  refine wpAnyL_ready (rs := [20]) (by kernel_rfl) (by simp) ?_
  refine AllReadyL.late rfl (by kernel_rfl) (fun K hK => ?_) AllReadyL.nil
  go_simp
  (go_at_call 91; (with_reducible refine (SE.out _ _ _ hb2 (h12.wd (Nat.le_refl _)) (h2.wd (Nat.le_refl _))).mono ?_); rintro e w3 ⟨rfl, hR3, hk3⟩)
  refine hK.out _ _ ?_
  clear hK K
  try simp only [Act.put, List.setIfInBounds_toArray, List.set_cons_zero, List.set_cons_succ]
  refine wpAnyL_ready (rs := [21]) (by kernel_rfl) (by simp) ?_
  refine AllReadyL.late rfl (by kernel_rfl) (fun K hK => ?_) AllReadyL.nil
  go_simp
  refine hK.out _ _ ?_
  clear hK K
  try simp only [Act.put, List.setIfInBounds_toArray, List.set_cons_zero, List.set_cons_succ]
  refine wpAnyL_done (by kernel_rfl) ?_ _
  go_wp2_with fail
  go_ret
  exact ⟨rfl, hR3, (Keeps.of_below hb2).trans (hk3.mono hb2.size (fun _ _ h => h))⟩
set_option maxRecDepth 100000 in
set_option maxHeartbeats 16000000 in
theorem brcmp (gx gy : Nat) (x y : _root_.Rat) (w : World) (hx : Ra 76 w gx x) (hy : Ra 76 w gy y) (lx : (words x.num.natAbs).length ≤ 34359738368) (mx : (words x.den).length ≤ 34359738368) (ly : (words y.num.natAbs).length ≤ 34359738368) (my : (words y.den).length ≤ 34359738368) :
    Calls Tryz.prog 90 #[.pointer (some ⟨gx, 0, none⟩), .pointer (some ⟨gy, 0, none⟩)] w fun e w' => e = .returned (.int .i64 (rcmp x y)) ∧ Below w.heap.size w w' := by
  have SX := hid (fun w' (h : Below w.heap.size w w') => brsign gx x w' (hx.below h))
  have SY := hid (fun w' (h : Below w.heap.size w w') => brsign gy y w' (hy.below h))
  obtain ⟨sx, hsx⟩ : ∃ s, s = x.num.sign := ⟨_, rfl⟩
  obtain ⟨sy, hsy⟩ : ∃ s, s = y.num.sign := ⟨_, rfl⟩
  rw [← hsx] at SX
  rw [← hsy] at SY
  haveI : Has w gx := ⟨hx.ia.lt⟩
  haveI : Has w gy := ⟨hy.ia.lt⟩
  by_cases h1 : sx < sy
  · rw [rcmp_lt (by rw [← hsx, ← hsy]; exact h1)]
    have e1 : (sx == sy) = false := beq_eq_false_iff_ne.2 (by omega)
    clear hsx hsy hx hy lx mx ly my
    go_enter Tryz.func90, Tryz.ntmps90
    go_wp2_with (first | (go_at_call 118; (with_reducible refine (SX.out _ ?_).mono ?_); (focus (first | exact Below.refl _ _ | assumption)); rintro e wq ⟨rfl, hw⟩; obtain rfl := hw.symm) | (go_at_call 118; (with_reducible refine (SY.out _ ?_).mono ?_); (focus (first | exact Below.refl _ _ | assumption)); rintro e wq ⟨rfl, hw⟩; obtain rfl := hw.symm))
    go_ret
    exact ⟨rfl, Below.refl _ _⟩
  by_cases h2 : sy < sx
  · rw [rcmp_gt (by rw [← hsx, ← hsy]; exact h2)]
    have e1 : (sx == sy) = false := beq_eq_false_iff_ne.2 (by omega)
    clear hsx hsy hx hy lx mx ly my
    go_enter Tryz.func90, Tryz.ntmps90
    go_wp2_with (first | (go_at_call 118; (with_reducible refine (SX.out _ ?_).mono ?_); (focus (first | exact Below.refl _ _ | assumption)); rintro e wq ⟨rfl, hw⟩; obtain rfl := hw.symm) | (go_at_call 118; (with_reducible refine (SY.out _ ?_).mono ?_); (focus (first | exact Below.refl _ _ | assumption)); rintro e wq ⟨rfl, hw⟩; obtain rfl := hw.symm))
    go_ret
    exact ⟨rfl, Below.refl _ _⟩
  obtain rfl : sx = sy := by omega
  by_cases h3 : sx = 0
  · rw [rcmp_zero (hsx.symm.trans hsy) (hsx.symm.trans h3)]
    subst h3
    clear hsx hsy hx hy lx mx ly my h1 h2
    go_enter Tryz.func90, Tryz.ntmps90
    go_wp2_with (first | (go_at_call 118; (with_reducible refine (SX.out _ ?_).mono ?_); (focus (first | exact Below.refl _ _ | assumption)); rintro e wq ⟨rfl, hw⟩; obtain rfl := hw.symm) | (go_at_call 118; (with_reducible refine (SY.out _ ?_).mono ?_); (focus (first | exact Below.refl _ _ | assumption)); rintro e wq ⟨rfl, hw⟩; obtain rfl := hw.symm))
    go_ret
    exact ⟨rfl, Below.refl _ _⟩
  have e1 : (sx == 0) = false := beq_eq_false_iff_ne.2 h3
  obtain ⟨vx, dx, bx, wx, ex⟩ := hx
  obtain ⟨vy, dy, by_, wy, ey⟩ := hy
  have B1 := hid (fun w' (h : Below w.heap.size w w') => bbelow gx _ vx dx x.den w' (bx.below h) (ex.below h) x.den_nz)
  have B2 := hid (fun w' (h : Below w.heap.size w w') => bbelow gy _ vy dy y.den w' (by_.below h) (ey.below h) y.den_nz)
  have M1 := hid (fun v w' (h : Below w.heap.size w w') (q : Wd w' v (words y.den)) => bmulW vx v x.num.natAbs y.den w' (wx.below h) q (by omega))
  have M2 := hid (fun v w' (h : Below w.heap.size w w') (q : Wd w' v (words x.den)) => bmulW vy v y.num.natAbs x.den w' (wy.below h) q (by omega))
  have l1 := mul_len x.num.natAbs y.den
  have l2 := mul_len y.num.natAbs x.den
  have CM := hid (fun v1 v2 w' (q1 : Wd w' v1 (words (x.num.natAbs * y.den))) (q2 : Wd w' v2 (words (y.num.natAbs * x.den))) => bcmp v1 v2 (x.num.natAbs * y.den) (y.num.natAbs * x.den) w' q1 q2 (by omega) (by omega))
  obtain ⟨cc, hcc⟩ : ∃ cc, cc = cmpN (x.num.natAbs * y.den) (y.num.natAbs * x.den) := ⟨_, rfl⟩
  rw [← hcc] at CM
  have hc1 : -1 ≤ cc := by rw [hcc]; unfold cmpN; split <;> (try split) <;> omega
  have hc2 : cc ≤ 1 := by rw [hcc]; unfold cmpN; split <;> (try split) <;> omega
  obtain ⟨ax, cx, rfl, -, -⟩ := wx.form
  obtain ⟨ay, cy, rfl, -, -⟩ := wy.form
  have BX := hid bx
  have BY := hid by_
  have x1 := bx.cell (i := 1) rfl
  have y1 := by_.cell (i := 1) rfl
  by_cases hneg : x.num < 0
  focus
    have hy2 : y.num < 0 := by
      rw [Int.sign_eq_neg_one_of_neg hneg] at hsx
      exact Int.sign_eq_neg_one_iff_neg.1 (hsy.symm.trans hsx)
    have HR : Hid (rcmp x y = -cc) := hid (by rw [rcmp_neg hneg hy2, hcc])
    have hnx := decide_eq_true hneg
    clear bx by_ wx wy ex ey hsx hsy hcc hneg hy2 h1 h2 h3 lx mx ly my l1 l2
    have x0 : w.cell? ⟨gx, 0, none⟩ = some (.bool true) := by rw [← hnx]; exact BX.out.cell (i := 0) rfl
  rotate_left
  focus
    have hy2 : ¬ y.num < 0 := fun h => by
      rw [Int.sign_eq_neg_one_of_neg h] at hsy
      exact hneg (Int.sign_eq_neg_one_iff_neg.1 (hsx.symm.trans hsy))
    have HR : Hid (rcmp x y = cc) := hid (by rw [rcmp_pos hneg hy2, hcc])
    have hnx := decide_eq_false hneg
    clear bx by_ wx wy ex ey hsx hsy hcc hneg hy2 h1 h2 h3 lx mx ly my l1 l2
    have x0 : w.cell? ⟨gx, 0, none⟩ = some (.bool false) := by rw [← hnx]; exact BX.out.cell (i := 0) rfl
  rotate_left
  all_goals
    rw [hnx] at BX
    clear hnx
    go_enter Tryz.func90, Tryz.ntmps90
    go_wp2_with (first | (go_at_call 118; (with_reducible refine (SX.out _ ?_).mono ?_); (focus (first | exact Below.refl _ _ | assumption)); rintro e wq ⟨rfl, hw⟩; obtain rfl := hw.symm) | (go_at_call 118; (with_reducible refine (SY.out _ ?_).mono ?_); (focus (first | exact Below.refl _ _ | assumption)); rintro e wq ⟨rfl, hw⟩; obtain rfl := hw.symm))
    go_region_held3 (fun W => W.cell? ⟨gx, 1, none⟩ = some (.slice ax (words x.num.natAbs).length cx) ∧ W.cell? ⟨gy, 1, none⟩ = some (.slice ay (words y.num.natAbs).length cy)) (refine ⟨?_, ?_⟩ <;> (first | assumption | (simp [go_sem, *]; done))) (first | (go_at_call 117; (with_reducible refine (B2.out _ ?_).mono ?_); (focus (first | exact Below.drew (Below.refl _ _))); rintro e w1 ⟨v1, rfl, h1, q1⟩; have b1 := Below.trans (Below.drew (Below.refl w.heap.size w)) q1; have x11 := (BX.out.below b1).cell (i := 1) rfl; have y11 := (BY.out.below b1).cell (i := 1) rfl) | (go_at_call 82; (with_reducible refine (M1.out _ _ b1 h1).mono ?_); rintro e w2 ⟨v2, rfl, h2, -, q2⟩; have b2 := Below.trans b1 (below_low q2 b1.size); have x12 := (BX.out.below b2).cell (i := 1) rfl; have y12 := (BY.out.below b2).cell (i := 1) rfl) | (go_at_call 117; (with_reducible refine (B1.out _ b2).mono ?_); rintro e w3 ⟨v3, rfl, h3, q3⟩; have b3 := Below.trans b2 (below_low q3 b2.size); have h23 := h2.below q3; have x13 := (BX.out.below b3).cell (i := 1) rfl; have y13 := (BY.out.below b3).cell (i := 1) rfl) | (go_at_call 82; (with_reducible refine (M2.out _ _ b3 h3).mono ?_); rintro e w4 ⟨v4, rfl, h4, -, q4⟩; have b4 := Below.trans b3 (below_low q4 b3.size); have h24 := h23.below q4; have x14 := (BX.out.below b4).cell (i := 1) rfl; have y14 := (BY.out.below b4).cell (i := 1) rfl) | (go_at_call 119; (with_reducible refine (CM.out _ _ _ h24 h4).mono ?_); rintro e w5 ⟨rfl, hd5⟩; have q5 := hd5.below; have b5 := Below.trans b4 (below_low q5 b4.size); have x15 := (BX.out.below b5).cell (i := 1) rfl; have y15 := (BY.out.below b5).cell (i := 1) rfl; have x05 := (BX.out.below b5).cell (i := 0) rfl; clear hd5))
    go_wp2_with fail
    go_ret
    exact ⟨by rw [HR.out]; rfl, b5⟩
end Big
end
section
open Go.RowKit
namespace Big
/-! What a float is worth, by its bits. -/
def fexp (b : Nat) : Nat := b / 4503599627370496 % 2048
def fman (b : Nat) : Nat := b % 4503599627370496
/-- The whole number of a float, and its power of two (more by 1075). -/
def fnum (b : Nat) : Nat := if fexp b = 0 then fman b else fman b + 4503599627370496
def fpow (b : Nat) : Nat := if fexp b = 0 then 1 else fexp b
def fneg (b : Nat) : Bool := decide (b / 9223372036854775808 = 1)
/-- .. as a fraction (of a finite one). -/
def frat (b : Nat) : _root_.Rat := mkRat (sg (fneg b) (fnum b * 2 ^ (fpow b - 1075))) (2 ^ (1075 - fpow b))
@[go_sem] theorem run_bits (b : Nat) (w : World) : (callFunc 85 #[Value.float .f64 b]).run Tryz.prog w = .ok (.value (.int .u64 b)) w := by
  have h := @run_callFunc_extern Tryz.prog 85 _ Extern.MathFloatBits.float64bits Tryz.func85 (by kernel_rfl) (by kernel_rfl) (by kernel_rfl) (by kernel_rfl)
  rw [h]
  rfl
@[go_sem] theorem run_frombits (n : Int) (w : World) : (callFunc 88 #[Value.int .u64 n]).run Tryz.prog w = .ok (.value (.float .f64 n.toNat)) w := by
  have h := @run_callFunc_extern Tryz.prog 88 _ Extern.MathFloatBits.float64frombits Tryz.func88 (by kernel_rfl) (by kernel_rfl) (by kernel_rfl) (by kernel_rfl)
  rw [h]
  rfl
theorem and2047 (p : Nat) (hp : p < 18446744073709551616) : bits BinOp.and IntKind.u64 (p : Int) 2047 = ((p % 2048 : Nat) : Int) := by
  have h := u64_and_nat p 2047 hp (by decide)
  rw [show (2047 : Nat) = 2 ^ 11 - 1 by decide, Nat.and_two_pow_sub_one_eq_mod] at h
  exact h
theorem and52 (p : Nat) (hp : p < 18446744073709551616) : bits BinOp.and IntKind.u64 (p : Int) 4503599627370495 = ((p % 4503599627370496 : Nat) : Int) := by
  have h := u64_and_nat p 4503599627370495 hp (by decide)
  rw [show (4503599627370495 : Nat) = 2 ^ 52 - 1 by decide, Nat.and_two_pow_sub_one_eq_mod] at h
  exact h
theorem or52 (p : Nat) (hp : p < 4503599627370496) : bits BinOp.or IntKind.u64 (p : Int) 4503599627370496 = ((p + 4503599627370496 : Nat) : Int) := by
  have h := u64_or_nat p 4503599627370496 (by omega) (by decide)
  have e := Nat.two_pow_add_eq_or_of_lt (i := 52) (show p < 2 ^ 52 from hp) 1
  rw [Nat.or_comm] at h
  rw [Nat.mul_one, show (2 : Nat) ^ 52 = 4503599627370496 from rfl] at e
  rw [← e, Nat.add_comm] at h
  exact h
theorem two_len (k : Nat) : (words (2 ^ k)).length ≤ k + 1 := by
  refine words_len_le ?_
  have e : (4294967296 : Nat) = 2 ^ 32 := rfl
  rw [e, ← Nat.pow_mul]
  exact Nat.pow_lt_pow_right (by decide) (by omega)
set_option maxRecDepth 100000 in
set_option maxHeartbeats 16000000 in
theorem bsetfloat (gz : Nat) (z0 z1 z2 : Value) (b : Nat) (w : World) (hz : Bk w gz [z0, z1, z2] 76) (hb : b < 18446744073709551616) (hf : fexp b ≠ 2047) (hvr : Vr w) :
    Calls Tryz.prog 87 #[.pointer (some ⟨gz, 0, none⟩), .float .f64 b] w fun e w' => e = .returned (.pointer (some ⟨gz, 0, none⟩)) ∧ Ra 76 w' gz (frat b) ∧ Keeps w.heap.size [gz] w w' := by
  obtain ⟨E, hE⟩ : ∃ E, E = fexp b := ⟨_, rfl⟩
  obtain ⟨M, hM⟩ : ∃ M, M = fman b := ⟨_, rfl⟩
  obtain ⟨F, hF⟩ : ∃ F, F = fnum b := ⟨_, rfl⟩
  obtain ⟨S, hS⟩ : ∃ S, S = fneg b := ⟨_, rfl⟩
  have hE1 : E < 2048 := by rw [hE]; unfold fexp; omega
  have hM1 : M < 4503599627370496 := by rw [hM]; unfold fman; omega
  have hF1 : F < 9007199254740992 := by rw [hF]; unfold fnum; rw [← hE, ← hM]; split <;> omega
  have a1 : bits BinOp.and IntKind.u64 ((b : Int) / 4503599627370496) 2047 = (E : Int) := by
    have := and2047 (b / 4503599627370496) (by omega)
    rw [Int.natCast_ediv] at this
    rw [hE]; exact this
  have a2 : bits BinOp.and IntKind.u64 (b : Int) 4503599627370495 = (M : Int) := by rw [hM]; exact and52 b hb
  have a3 := or52 M hM1
  have a4 : ((b : Int) / 9223372036854775808 == 1) = S := by
    rw [hS, fneg, Bool.eq_iff_iff, beq_iff_eq, decide_eq_true_iff]
    omega
  have hfr : frat b = mkRat (sg S (F * 2 ^ ((if E = 0 then 1 else E) - 1075))) (2 ^ (1075 - (if E = 0 then 1 else E))) := by
    rw [frat, ← hS, ← hF, fpow, ← hE]
  obtain ⟨r, hr⟩ : ∃ r, r = frat b := ⟨_, rfl⟩
  rw [← hr] at hfr ⊢
  have FU := bfromUint F (by omega) w
  have lF : (words F).length ≤ 2 := words_len_le (by omega)
  have One : ∀ w1 : World, Wd (w1.alloc (.cells #[.int .u32 1] 129)) (.slice (some ⟨w1.heap.size, 0, none⟩) 1 1) (words 1) := fun w1 => by
    have q : Ro (w1.alloc (.cells #[.int .u32 1] 129)) w1.heap.size [1] := by unfold Ro; simp only [block_at]; rfl
    rw [words_one]
    exact q.wd (cap := 1) (Nat.le_refl _)
  have hf' : E ≠ 2047 := by rw [hE]; exact hf
  have e2047 : ((E : Int) == 2047) = false := beq_eq_false_iff_ne.2 (by omega)
  have hFE : F = if E = 0 then M else M + 4503599627370496 := by rw [hF, fnum, ← hE, ← hM]
  clear hE hM hF hS hr hf hf'
  by_cases hbig : 1075 ≤ E
  · rw [if_neg (by omega), show 1075 - E = 0 by omega, Nat.pow_zero] at hfr
    rw [if_neg (by omega)] at hFE
    obtain ⟨k, hk⟩ : ∃ k, k = E - 1075 := ⟨_, rfl⟩
    rw [← hk] at hfr
    have lU := mul_len F (2 ^ k)
    have lk := two_len k
    have UP := hid (fun v w' (q : Wd w' v (words F)) => bup v F k w' q (by omega) (by omega))
    have SE := hid (fun v1 v2 w' (h : Below w.heap.size w w') (q1 : Wd w' v1 (words (F * 2 ^ k))) (q2 : Wd w' v2 (words 1)) => brset gz z0 z1 z2 S v1 v2 (F * 2 ^ k) 1 w' (hz.below h) q1 q2 (by decide) (by omega) (by rw [words_one]; simp) (hvr.below h))
    rw [← hfr] at SE
    have a5 : bits BinOp.or IntKind.u64 (M : Int) 4503599627370496 = (F : Int) := by rw [a3, hFE]
    clear a3 hFE
    have hp : (0 : Int) < (E : Int) := by omega
    have hq : (1075 : Int) ≤ (E : Int) := by omega
    have hs : (E : Int) - 1075 = k := by omega
    have HK : Hid ((1074 : Int) = (1074 : Int)) := hid rfl
    clear hfr lU lk hk lF hbig hz
    go_enter Tryz.func87, Tryz.ntmps87
    go_wp2_with (first | (go_at_call 115; (with_reducible refine FU.mono ?_); rintro e w1 ⟨v1, rfl, h1, -, hb1⟩; have q1 := One w1; have ba1 : Below w1.heap.size w1 (w1.alloc (.cells #[.int .u32 1] 129)) := (Below.refl _ _).alloc (Nat.le_refl _) _; have bb1 := Below.trans hb1 (below_low ba1 hb1.size); have h1a := h1.below ba1) | (go_at_call 84; (try rw [HK.out]); (with_reducible refine (UP.out _ _ h1a).mono ?_); rintro e w2 ⟨v2, rfl, h2, -, hq2⟩; have hb2 := Below.trans bb1 (below_low hq2 bb1.size); have h12 := q1.below hq2) | (go_at_call 91; (with_reducible refine (SE.out _ _ _ hb2 h2 h12).mono ?_); rintro e w3 ⟨rfl, hR3, hk3⟩))
    go_ret
    exact ⟨rfl, hR3, (Keeps.of_below hb2).trans (hk3.mono hb2.size (fun _ _ h => h))⟩
  · by_cases h0 : E = 0
    · subst h0
      rw [if_pos rfl] at hfr hFE
      obtain rfl := hFE
      obtain ⟨k, hk⟩ : ∃ k : Nat, k = 1074 := ⟨_, rfl⟩
      have HK : Hid ((1074 : Int) = (k : Int)) := hid (by omega)
      rw [show (1 : Nat) - 1075 = 0 from rfl, Nat.pow_zero, Nat.mul_one, show 1075 - 1 = 1074 from rfl, ← hk, ← Nat.one_mul (2 ^ k)] at hfr
      have SE := hid (fun v1 v2 w' (h : Below w.heap.size w w') (q1 : Wd w' v1 (words F)) (q2 : Wd w' v2 (words (1 * 2 ^ k))) => brset gz z0 z1 z2 S v1 v2 F (1 * 2 ^ k) w' (hz.below h) q1 q2 (by rw [Nat.one_mul]; exact Nat.pos_iff_ne_zero.1 (Nat.pow_pos (by decide))) (by omega) (by rw [Nat.one_mul]; have := two_len k; omega) (hvr.below h))
      rw [← hfr] at SE
      have UP := hid (fun v w' (q : Wd w' v (words 1)) => bup v 1 k w' q (by rw [words_one]; simp) (by omega))
      clear hfr lF hbig hz hk
      go_enter Tryz.func87, Tryz.ntmps87
      go_wp2_with (first | (go_at_call 115; (with_reducible refine FU.mono ?_); rintro e w1 ⟨v1, rfl, h1, -, hb1⟩; have q1 := One w1; have ba1 : Below w1.heap.size w1 (w1.alloc (.cells #[.int .u32 1] 129)) := (Below.refl _ _).alloc (Nat.le_refl _) _; have bb1 := Below.trans hb1 (below_low ba1 hb1.size); have h1a := h1.below ba1) | (go_at_call 84; (try rw [HK.out]); (with_reducible refine (UP.out _ _ q1).mono ?_); rintro e w2 ⟨v2, rfl, h2, -, hq2⟩; have hb2 := Below.trans bb1 (below_low hq2 bb1.size); have h12 := h1a.below hq2) | (go_at_call 91; (with_reducible refine (SE.out _ _ _ hb2 h12 h2).mono ?_); rintro e w3 ⟨rfl, hR3, hk3⟩))
      go_ret
      exact ⟨rfl, hR3, (Keeps.of_below hb2).trans (hk3.mono hb2.size (fun _ _ h => h))⟩
    · rw [if_neg h0] at hfr hFE
      obtain ⟨k, hk⟩ : ∃ k, k = 1075 - E := ⟨_, rfl⟩
      rw [← hk, show E - 1075 = 0 by omega, Nat.pow_zero, Nat.mul_one, ← Nat.one_mul (2 ^ k)] at hfr
      have SE := hid (fun v1 v2 w' (h : Below w.heap.size w w') (q1 : Wd w' v1 (words F)) (q2 : Wd w' v2 (words (1 * 2 ^ k))) => brset gz z0 z1 z2 S v1 v2 F (1 * 2 ^ k) w' (hz.below h) q1 q2 (by rw [Nat.one_mul]; exact Nat.pos_iff_ne_zero.1 (Nat.pow_pos (by decide))) (by omega) (by rw [Nat.one_mul]; have := two_len k; omega) (hvr.below h))
      rw [← hfr] at SE
      have UP := hid (fun v w' (q : Wd w' v (words 1)) => bup v 1 k w' q (by rw [words_one]; simp) (by omega))
      have a5 : bits BinOp.or IntKind.u64 (M : Int) 4503599627370496 = (F : Int) := by rw [a3, hFE]
      clear a3 hFE
      have hp : (0 : Int) < (E : Int) := by omega
      have hs : (1075 : Int) - (E : Int) = k := by omega
      have HK : Hid ((1074 : Int) = (1074 : Int)) := hid rfl
      clear hfr lF hz hk h0
      go_enter Tryz.func87, Tryz.ntmps87
      go_wp2_with (first | (go_at_call 115; (with_reducible refine FU.mono ?_); rintro e w1 ⟨v1, rfl, h1, -, hb1⟩; have q1 := One w1; have ba1 : Below w1.heap.size w1 (w1.alloc (.cells #[.int .u32 1] 129)) := (Below.refl _ _).alloc (Nat.le_refl _) _; have bb1 := Below.trans hb1 (below_low ba1 hb1.size); have h1a := h1.below ba1) | (go_at_call 84; (try rw [HK.out]); (with_reducible refine (UP.out _ _ q1).mono ?_); rintro e w2 ⟨v2, rfl, h2, -, hq2⟩; have hb2 := Below.trans bb1 (below_low hq2 bb1.size); have h12 := h1a.below hq2) | (go_at_call 91; (with_reducible refine (SE.out _ _ _ hb2 h12 h2).mono ?_); rintro e w3 ⟨rfl, hR3, hk3⟩))
      go_ret
      exact ⟨rfl, hR3, (Keeps.of_below hb2).trans (hk3.mono hb2.size (fun _ _ h => h))⟩
end Big
end
section
open Go.RowKit
namespace Big
/-! Fractions of few words. -/
def Sm (L : Nat) (x : _root_.Rat) : Prop := (words x.num.natAbs).length ≤ L ∧ (words x.den).length ≤ L
theorem Sm.mono {L M : Nat} {x : _root_.Rat} (h : Sm L x) (k : L ≤ M) : Sm M x := ⟨Nat.le_trans h.1 k, Nat.le_trans h.2 k⟩
theorem mkRat_le (x : Int) (d : Nat) (h : d ≠ 0) : (mkRat x d).num.natAbs ≤ x.natAbs ∧ (mkRat x d).den ≤ d := by
  rw [Rat.num_mkRat, Rat.den_mkRat, if_neg h, if_neg h]
  constructor
  · rw [Int.natAbs_ediv_of_dvd]
    · exact Nat.div_le_self _ _
    · exact Int.ofNat_dvd_left.2 (Nat.gcd_dvd_right _ _)
  · exact Nat.div_le_self _ _
theorem Sm.mk {L : Nat} {x : Int} {d : Nat} (h : d ≠ 0) (h1 : (words x.natAbs).length ≤ L) (h2 : (words d).length ≤ L) : Sm L (mkRat x d) :=
  ⟨Nat.le_trans (len_mono (mkRat_le x d h).1) h1, Nat.le_trans (len_mono (mkRat_le x d h).2) h2⟩
theorem Sm.mul {L M : Nat} {x y : _root_.Rat} (h : Sm L x) (k : Sm M y) : Sm (L + M) (x * y) := by
  rw [Rat.mul_def, Rat.normalize_eq_mkRat]
  refine Sm.mk (Nat.mul_ne_zero x.den_nz y.den_nz) ?_ ?_
  · rw [Int.natAbs_mul]
    exact Nat.le_trans (mul_len _ _) (Nat.add_le_add h.1 k.1)
  · exact Nat.le_trans (mul_len _ _) (Nat.add_le_add h.2 k.2)
theorem Sm.add {L M : Nat} {x y : _root_.Rat} (h : Sm L x) (k : Sm M y) : Sm (2 * (L + M) + 1) (x + y) := by
  rw [Rat.add_def, Rat.normalize_eq_mkRat]
  refine Sm.mk (Nat.mul_ne_zero x.den_nz y.den_nz) ?_ ?_
  · have h1 := Int.natAbs_add_le (x.num * (y.den : Int)) (y.num * (x.den : Int))
    rw [Int.natAbs_mul, Int.natAbs_mul, Int.natAbs_natCast, Int.natAbs_natCast] at h1
    have h2 := len_mono h1
    have h3 := add_len (x.num.natAbs * y.den) (y.num.natAbs * x.den)
    have h4 := mul_len x.num.natAbs y.den
    have h5 := mul_len y.num.natAbs x.den
    have h6 := h.1
    have h7 := h.2
    have h8 := k.1
    have h9 := k.2
    omega
  · have h4 := mul_len x.den y.den
    have h7 := h.2
    have h9 := k.2
    omega
theorem Sm.neg {L : Nat} {x : _root_.Rat} (h : Sm L x) : Sm L (-x) := ⟨by rw [Rat.neg_num, Int.natAbs_neg]; exact h.1, by rw [Rat.neg_den]; exact h.2⟩
theorem Sm.sub {L M : Nat} {x y : _root_.Rat} (h : Sm L x) (k : Sm M y) : Sm (2 * (L + M) + 1) (x - y) := by
  rw [Rat.sub_eq_add_neg]
  exact h.add k.neg
theorem Sm.div {L M : Nat} {x y : _root_.Rat} (h : Sm L x) (k : Sm M y) (h0 : y.num ≠ 0) : Sm (L + M) (x / y) := by
  rw [← rat_div_mk x y h0]
  refine Sm.mk (Nat.mul_ne_zero x.den_nz (by omega)) ?_ ?_
  · rw [sg_abs]
    exact Nat.le_trans (mul_len _ _) (Nat.add_le_add h.1 k.2)
  · exact Nat.le_trans (mul_len _ _) (Nat.add_le_add h.2 k.1)
/-! What lies where, found by instances. -/
theorem Ra.lt {R : Nat} {w : World} {g : Nat} {x : _root_.Rat} (h : Ra R w g x) : g < w.heap.size := by
  obtain ⟨_, _, hb, -, -⟩ := h
  exact hb.lt
class NotW (T : Nat) : Prop where
  out : T ≠ 129
instance notW60 : NotW 60 := ⟨by decide⟩
instance notW74 : NotW 74 := ⟨by decide⟩
instance notW76 : NotW 76 := ⟨by decide⟩
instance notW26 : NotW 26 := ⟨by decide⟩
instance notW28 : NotW 28 := ⟨by decide⟩
instance notW71 : NotW 71 := ⟨by decide⟩
instance notW58 : NotW 58 := ⟨by decide⟩
instance notW35 : NotW 35 := ⟨by decide⟩
instance notW111 : NotW 111 := ⟨by decide⟩
/-- .. and one block is written over. -/
class Kp1 (W : outParam World) (k : outParam Nat) (w' : World) : Prop where
  out : Keeps W.heap.size [k] W w'
instance has_kp1 (W w' : World) (g n : Nat) [k : Kp1 W g w'] [h : Has W n] : Has w' n := ⟨Nat.lt_of_lt_of_le h.lt k.out.size⟩
section
variable (w' : World) {W : World} (n i : Nat)
@[go_sem] theorem cell_kp1 {g : Nat} [k : Kp1 W g w'] [h : Has W n] [e : NeN n g] : w'.cell? ⟨n, i, none⟩ = cq W ⟨n, i, none⟩ := World.cell?_of_block (w := W) (k.out.block n h.lt (by simpa using e.out))
@[go_sem] theorem frozen_kp1 {g : Nat} [k : Kp1 W g w'] [h : Has W n] [e : NeN n g] : w'.frozen? ⟨n, i, none⟩ = fq W ⟨n, i, none⟩ := frozen_of_heap (k.out.block n h.lt (by simpa using e.out))
end
/-- A block of other things than words. -/
class BkC (w : World) (g : Nat) (L : outParam (List Value)) (T : outParam Nat) : Prop where
  out : Bk w g L T
instance (priority := 1100) bkC_new (w : World) (s : Nat) (L : List Value) (T : Nat) [hs : HasSize w s] [hT : NotW T] : BkC (w.alloc (.cells L.toArray T)) s L T := ⟨⟨block_at w _ s, hT.out⟩⟩
instance bkC_alloc (w : World) (g : Nat) (L : List Value) (T : Nat) (o : Obj) [h : BkC w g L T] : BkC (w.alloc o) g L T := ⟨h.out.below ((Below.refl _ _).alloc (Nat.le_refl _) _)⟩
instance bkC_drew (w : World) (g : Nat) (L : List Value) (T : Nat) [h : BkC w g L T] : BkC w.drew g L T := ⟨h.out.below (Below.drew (Below.refl _ _))⟩
instance bkC_kp0 (W w' : World) (g : Nat) (L : List Value) (T : Nat) [k : Kp0 W w'] [h : BkC W g L T] : BkC w' g L T := ⟨h.out.below k.out⟩
instance bkC_kp1 (W w' : World) (g n : Nat) (L : List Value) (T : Nat) [k : Kp1 W n w'] [e : NeN g n] [h : BkC W g L T] : BkC w' g L T := ⟨h.out.keep k.out (Nat.le_refl _) (by simpa using e.out)⟩
instance bkC_set (w : World) (g i : Nat) (x : Value) (L M : List Value) (T : Nat) [h : BkC w g L T] [k : SetC L i x M] : BkC (w.setCell ⟨g, i, none⟩ x) g M T := ⟨k.out ▸ h.out.set i x⟩
instance bkC_setN (w : World) (g n i : Nat) (x : Value) (L : List Value) (T : Nat) [e : NeN g n] [h : BkC w g L T] : BkC (w.setCell ⟨n, i, none⟩ x) g L T := ⟨⟨(block_ne _ _ _ _ _ e.out).trans h.out.1, h.out.2⟩⟩
/-- There is such a block. -/
class Blk (w : World) (g : Nat) : Prop where
  out : ∃ L T, Bk w g L T
instance blk_bk (w : World) (g : Nat) (L : List Value) (T : Nat) [h : BkC w g L T] : Blk w g := ⟨⟨_, _, h.out⟩⟩
/-- A fraction just made. -/
class Fr (R : Nat) (W : World) (g : Nat) : Prop where
  out : Bk W g [.bool false, .slice none 0 0, .slice none 0 0] R
instance fr_bk (R : Nat) (W : World) (g : Nat) [h : BkC W g [.bool false, .slice none 0 0, .slice none 0 0] R] : Fr R W g := ⟨h.out⟩
/-- A fraction. -/
class RaC (R : outParam Nat) (w : World) (g : Nat) (x : outParam _root_.Rat) : Prop where
  out : Ra R w g x
instance blk_ra (R : Nat) (w : World) (g : Nat) (x : _root_.Rat) [h : RaC R w g x] : Blk w g := ⟨by obtain ⟨_, _, hb, -, -⟩ := h.out; exact ⟨_, _, hb⟩⟩
instance raC_alloc (R : Nat) (w : World) (g : Nat) (x : _root_.Rat) (o : Obj) [h : RaC R w g x] : RaC R (w.alloc o) g x := ⟨h.out.below ((Below.refl _ _).alloc (Nat.le_refl _) _)⟩
instance raC_drew (R : Nat) (w : World) (g : Nat) (x : _root_.Rat) [h : RaC R w g x] : RaC R w.drew g x := ⟨h.out.below (Below.drew (Below.refl _ _))⟩
instance raC_kp0 (R : Nat) (W w' : World) (g : Nat) (x : _root_.Rat) [k : Kp0 W w'] [h : RaC R W g x] : RaC R w' g x := ⟨h.out.below k.out⟩
instance raC_kp1 (R : Nat) (W w' : World) (g n : Nat) (x : _root_.Rat) [k : Kp1 W n w'] [e : NeN g n] [b : Blk W n] [h : RaC R W g x] : RaC R w' g x := ⟨by
  obtain ⟨L, T, hb⟩ := b.out
  exact h.out.keep hb k.out e.out⟩
instance raC_set (R : Nat) (w : World) (g n i : Nat) (v : Value) (x : _root_.Rat) [e : NeN g n] [b : Blk w n] [h : RaC R w g x] : RaC R (w.setCell ⟨n, i, none⟩ v) g x := ⟨by
  obtain ⟨L, T, hb⟩ := b.out
  exact h.out.keep hb ((Keeps.refl _ _ _).set (Or.inl (List.mem_singleton.2 rfl)) i v) e.out⟩
class NeT (R T : Nat) : Prop where
  out : T ≠ R
instance (priority := 1100) raC_setT (R : Nat) (w : World) (g n i : Nat) (v : Value) (x : _root_.Rat) (L : List Value) (T : Nat) [h : RaC R w g x] [b : BkC w n L T] [t : NeT R T] : RaC R (w.setCell ⟨n, i, none⟩ v) g x := ⟨by
  obtain ⟨_, _, hb, -, -⟩ := h.out
  exact h.out.keep b.out ((Keeps.refl _ _ _).set (Or.inl (List.mem_singleton.2 rfl)) i v) (hb.ne b.out (Ne.symm t.out))⟩
instance has_ra (R : Nat) (w : World) (g : Nat) (x : _root_.Rat) [h : RaC R w g x] : Has w g := ⟨h.out.lt⟩
instance gr_kp1 (v W w' : World) (n : Nat) [k : Kp1 W n w'] [h : Gr v W] [u : Up v.heap.size n] : Gr v w' := ⟨below_keeps h.out k.out u.out h.out.size⟩
/-- The library's table. -/
class VrB (w : outParam World) : Prop where
  out : Vr w
class VrC (w : World) : Prop where
  out : Vr w
instance vrC_gr (v W : World) [b : VrB v] [h : Gr v W] : VrC W := ⟨b.out.below h.out⟩
/-- How many words. -/
class SmC (x : _root_.Rat) (L : outParam Nat) : Prop where
  out : Sm L x
instance smC_mul (x y : _root_.Rat) (L M : Nat) [h : SmC x L] [k : SmC y M] : SmC (x * y) (L + M) := ⟨h.out.mul k.out⟩
instance smC_add (x y : _root_.Rat) (L M : Nat) [h : SmC x L] [k : SmC y M] : SmC (x + y) (2 * (L + M) + 1) := ⟨h.out.add k.out⟩
instance smC_sub (x y : _root_.Rat) (L M : Nat) [h : SmC x L] [k : SmC y M] : SmC (x - y) (2 * (L + M) + 1) := ⟨h.out.sub k.out⟩
instance smC_neg (x : _root_.Rat) (L : Nat) [h : SmC x L] : SmC (-x) L := ⟨h.out.neg⟩
/-- A fraction just made is nought. -/
theorem Fr.ra {R : Nat} {W : World} {g : Nat} (h : Fr R W g) : Ra R W g 0 := by
  have hw : ∀ w : World, Wd w (.slice none 0 0) [] := fun w => .inl ⟨rfl, rfl⟩
  refine ⟨.slice none 0 0, .slice none 0 0, h.out, ?_, .inl ⟨hw _, rfl⟩⟩
  rw [show (0 : _root_.Rat).num.natAbs = 0 from rfl, words_0]
  exact hw _
/-- A number's value: two pointers. -/
abbrev nuV (i j : Nat) : Value := .agg #[.pointer (some ⟨i, 0, none⟩), .pointer (some ⟨j, 0, none⟩)]
/-! A function's end. -/
section
variable {P : Program} {fn : Func} {R : Ending → World → Prop} {a : Act} {w : World} {p u : Tmp} {ty : TypeId} {g : Nat} {L : List Value} {T : Nat} {d : TypeDesc}
theorem ret_cell (h : fn.results = #[.cell p ty]) (hd0 : a.defers = []) (hp : a.tmps.getD p undef = .pointer (some ⟨g, 0, none⟩)) [hb : BkC w g L T] (hu : P.underlying ty = some d) (hd : (match d with | .struct _ | .array _ _ => true | _ => false) = true) (hi : (P.info? ty).map (·.size) = some L.toArray.size)
    (hR : R (.returned (.agg L.toArray)) w) : bodyPost P fn R .ret a w :=
  bodyPost_ret (results_cell_row h _ _ g T L.toArray (0, 0) d hp hb.out.1 hu hd hi) hd0 hR
theorem ret_cell_tmp (h : fn.results = #[.cell p ty, .tmp u]) (hd0 : a.defers = []) (hp : a.tmps.getD p undef = .pointer (some ⟨g, 0, none⟩)) [hb : BkC w g L T] (hu : P.underlying ty = some d) (hd : (match d with | .struct _ | .array _ _ => true | _ => false) = true) (hi : (P.info? ty).map (·.size) = some L.toArray.size)
    (hR : R (.returned (.tuple #[.agg L.toArray, a.tmps.getD u undef])) w) : bodyPost P fn R .ret a w := by
  refine bodyPost_ret (v := .tuple #[.agg L.toArray, a.tmps.getD u undef]) ?_ hd0 hR
  rw [results_cell_tmp h, hp]
  simp [asAddr, Result.andThen, run_loadVar_row w g T ty L.toArray (0, 0) d hb.out.1 hu hd hi]
end
/-- A place for a fraction. -/
class Blk' (R : Nat) (W : World) (g : Nat) : Prop where
  out : ∃ a b c, Bk W g [a, b, c] R
instance blkF (R : Nat) (W : World) (g : Nat) [h : Fr R W g] : Blk' R W g := ⟨⟨_, _, _, h.out⟩⟩
instance blkR (R : Nat) (W : World) (g : Nat) (x : _root_.Rat) [h : RaC R W g x] : Blk' R W g := ⟨by obtain ⟨_, _, hb, -, -⟩ := h.out; exact ⟨_, _, _, hb⟩⟩
theorem brMulC {W : World} {gz gx gy : Nat} {x y : _root_.Rat} {L M : Nat} [hz : Blk' 76 W gz] [hx : RaC 76 W gx x] [hy : RaC 76 W gy y] [sx : SmC x L] [sy : SmC y M] [nx : NeN gx gz] [ny : NeN gy gz] [vr : VrC W] (hL : L ≤ 34359738368) (hM : M ≤ 34359738368) :
    Calls Tryz.prog 89 #[.pointer (some ⟨gz, 0, none⟩), .pointer (some ⟨gx, 0, none⟩), .pointer (some ⟨gy, 0, none⟩)] W fun e w' => e = .returned (.pointer (some ⟨gz, 0, none⟩)) ∧ RaC 76 w' gz (x * y) ∧ Kp1 W gz w' := by
  obtain ⟨z0, z1, z2, bz⟩ := hz.out
  refine (brmul gz gx gy _ _ _ x y _ bz hx.out hy.out (Nat.le_trans sx.out.1 hL) (Nat.le_trans sx.out.2 hL) (Nat.le_trans sy.out.1 hM) (Nat.le_trans sy.out.2 hM) vr.out nx.out ny.out).mono ?_
  rintro e w' ⟨rfl, h1, h2⟩
  exact ⟨rfl, ⟨h1⟩, ⟨h2⟩⟩
theorem bFloatC {W : World} {gz : Nat} {b : Nat} [hz : Blk' 76 W gz] [vr : VrC W] (hb : b < 18446744073709551616) (hf : fexp b ≠ 2047) :
    Calls Tryz.prog 87 #[.pointer (some ⟨gz, 0, none⟩), .float .f64 b] W fun e w' => e = .returned (.pointer (some ⟨gz, 0, none⟩)) ∧ RaC 76 w' gz (frat b) ∧ Kp1 W gz w' := by
  obtain ⟨z0, z1, z2, bz⟩ := hz.out
  refine (bsetfloat gz _ _ _ _ _ bz hb hf vr.out).mono ?_
  rintro e w' ⟨rfl, h1, h2⟩
  exact ⟨rfl, ⟨h1⟩, ⟨h2⟩⟩
instance neT_74_60 : NeT 74 60 := ⟨by decide⟩
instance neT_74_26 : NeT 74 26 := ⟨by decide⟩
instance neT_74_28 : NeT 74 28 := ⟨by decide⟩
instance neT_74_71 : NeT 74 71 := ⟨by decide⟩
instance neT_74_58 : NeT 74 58 := ⟨by decide⟩
instance neT_74_35 : NeT 74 35 := ⟨by decide⟩
instance neT_74_111 : NeT 74 111 := ⟨by decide⟩
instance neT_76_60 : NeT 76 60 := ⟨by decide⟩
instance neT_76_26 : NeT 76 26 := ⟨by decide⟩
instance neT_76_28 : NeT 76 28 := ⟨by decide⟩
instance neT_76_71 : NeT 76 71 := ⟨by decide⟩
instance neT_76_58 : NeT 76 58 := ⟨by decide⟩
instance neT_76_35 : NeT 76 35 := ⟨by decide⟩
instance neT_76_111 : NeT 76 111 := ⟨by decide⟩

end Big
end
end Go.Proofs.YtcoillcppmibgaaGreatDoor
