/- Fractions: plain laws. A product of fractions. Products and quotients of fractions. Sums of fractions. Regions that draw their order, and write over what they have read. Whole numbers: set, turned, their size. Whole numbers: products, common divisors. -/
import Derived.Test.YtcoillcppmibgaaGreatDoorD11
import Derived.Deep.RegionHeld3
import Derived.StillTailTactics
set_option linter.unusedSimpArgs false
set_option linter.unusedVariables false
namespace Go.Proofs.YtcoillcppmibgaaGreatDoor
section
open Go.RowKit
namespace Big
/-- A product of fractions, cut ahead. -/
theorem times_plain {A D B C : Nat} (b : Bool) (hD : D ≠ 0) (hC : C ≠ 0) (hA : A ≠ 0) (hB : B ≠ 0) (h1 : A.Coprime D) (h2 : B.Coprime C) :
    (mkRat (sg b (A * B)) (D * C)).num = sg b (A / Nat.gcd A C * (B / Nat.gcd B D)) ∧ (mkRat (sg b (A * B)) (D * C)).den = D / Nat.gcd B D * (C / Nat.gcd A C) := by
  have g0 : 0 < Nat.gcd A C := Nat.gcd_pos_of_pos_left _ (Nat.pos_of_ne_zero hA)
  have k0 : 0 < Nat.gcd B D := Nat.gcd_pos_of_pos_left _ (Nat.pos_of_ne_zero hB)
  have c1 := Nat.coprime_div_gcd_div_gcd g0
  have c2 := Nat.coprime_div_gcd_div_gcd k0
  have dA := Nat.gcd_dvd_left A C
  have dC := Nat.gcd_dvd_right A C
  have dB := Nat.gcd_dvd_left B D
  have dD := Nat.gcd_dvd_right B D
  generalize Nat.gcd A C = g at *
  generalize Nat.gcd B D = k at *
  obtain ⟨A', rfl⟩ := dA
  obtain ⟨C', rfl⟩ := dC
  obtain ⟨B', rfl⟩ := dB
  obtain ⟨D', rfl⟩ := dD
  rw [Nat.mul_div_cancel_left _ g0, Nat.mul_div_cancel_left _ g0] at c1
  rw [Nat.mul_div_cancel_left _ k0, Nat.mul_div_cancel_left _ k0] at c2
  rw [Nat.mul_div_cancel_left _ g0, Nat.mul_div_cancel_left _ g0, Nat.mul_div_cancel_left _ k0, Nat.mul_div_cancel_left _ k0]
  have c3 : A'.Coprime D' := (h1.coprime_dvd_left (Nat.dvd_mul_left _ _)).coprime_dvd_right (Nat.dvd_mul_left _ _)
  have c4 : B'.Coprime C' := (h2.coprime_dvd_left (Nat.dvd_mul_left _ _)).coprime_dvd_right (Nat.dvd_mul_left _ _)
  have hc : (sg b (A' * B')).natAbs.Coprime (D' * C') := by
    rw [sg_abs]
    exact Nat.Coprime.mul_left (Nat.Coprime.mul_right c3 c1) (Nat.Coprime.mul_right c2 c4)
  have hne : D' * C' ≠ 0 := fun e => by
    rcases Nat.mul_eq_zero.1 e with e | e
    · exact hD (by rw [e, Nat.mul_zero])
    · exact hC (by rw [e, Nat.mul_zero])
  refine rat_mk hne hc ?_
  have hgk : g * k ≠ 0 := Nat.mul_ne_zero (by omega) (by omega)
  have e1 : sg b (g * A' * (k * B')) = sg b (A' * B') * ((g * k : Nat) : Int) := by
    have : g * A' * (k * B') = A' * B' * (g * k) := by grind
    rw [this]
    cases b
    · simp [sg]
    · simp only [sg, if_true, Int.natCast_mul, Int.neg_mul]
  have e2 : k * D' * (g * C') = D' * C' * (g * k) := by grind
  rw [e1, e2, Rat.mkRat_mul_right hgk]
theorem sg_mul (x y : Int) : sg (decide (x < 0) != decide (y < 0)) (x.natAbs * y.natAbs) = x * y := by
  conv => rhs; rw [sg_of x, sg_of y]
  generalize x.natAbs = a
  generalize y.natAbs = b
  by_cases h1 : x < 0 <;> by_cases h2 : y < 0 <;> simp [h1, h2, sg] <;> grind
theorem rat_mul_mk (x y : _root_.Rat) : mkRat (sg (decide (x.num < 0) != decide (y.num < 0)) (x.num.natAbs * y.num.natAbs)) (x.den * y.den) = x * y := by
  rw [sg_mul, Rat.mul_def, Rat.normalize_eq_mkRat]
theorem rat_div_mk (x y : _root_.Rat) (h : y.num ≠ 0) : mkRat (sg (decide (x.num < 0) != decide (y.num < 0)) (x.num.natAbs * y.den)) (x.den * y.num.natAbs) = x / y := by
  have e : y⁻¹ = mkRat (sg (decide (y.num < 0)) y.den) y.num.natAbs := by
    have h0 : y.num.natAbs ≠ 0 := by omega
    rw [Rat.inv_def, Rat.divInt_eq_div, Rat.mkRat_eq_div]
    conv => lhs; rw [sg_of y.num]
    by_cases hn : y.num < 0
    · rw [decide_eq_true hn]
      simp only [sg, if_true, Rat.intCast_neg, Rat.div_def, Rat.intCast_natCast]
      generalize (y.num.natAbs : _root_.Rat) = p
      generalize (y.den : _root_.Rat) = q
      grind
    · rw [decide_eq_false hn]
      simp only [sg, Bool.false_eq_true, if_false]
      rfl
  rw [Rat.div_def, e]
  conv => rhs; rw [← Rat.mkRat_self x, Rat.mkRat_mul_mkRat]
  congr 1
  conv => rhs; lhs; rw [sg_of x.num]
  by_cases h1 : x.num < 0 <;> by_cases h2 : y.num < 0 <;> simp [h1, h2, sg] <;> grind

end Big
end
section
open Go.RowKit
namespace Big
set_option maxRecDepth 100000 in
set_option maxHeartbeats 8000000 in
theorem btimes (g : Nat) (x y d0 : Value) (b : Bool) (va vd vb vc : Value) (A D B C : Nat) (w : World) (hb : Bk w g [x, y, d0] 76) (ha : Wd w va (words A)) (hd : Wd w vd (words D)) (hB : Wd w vb (words B)) (hC : Wd w vc (words C)) (hD0 : D ≠ 0) (hC0 : C ≠ 0) (c1 : A.Coprime D) (c2 : B.Coprime C)
    (lA : (words A).length ≤ 34359738368) (lD : (words D).length ≤ 34359738368) (lB : (words B).length ≤ 34359738368) (lC : (words C).length ≤ 34359738368) (hvr : Vr w) :
    Calls Tryz.prog 116 #[.pointer (some ⟨g, 0, none⟩), .bool b, va, vd, vb, vc] w fun e w' => e = .returned (.pointer (some ⟨g, 0, none⟩)) ∧ Ra 76 w' g (mkRat (sg b (A * B)) (D * C)) ∧ Keeps w.heap.size [g] w w' := by
  obtain ⟨r, hr⟩ : ∃ r, r = mkRat (sg b (A * B)) (D * C) := ⟨_, rfl⟩
  rw [← hr]
  haveI : Has w g := ⟨hb.lt⟩
  have HB := hid hb
  by_cases h0 : A = 0 ∨ B = 0
  · have hr0 : mkRat (sg false 0) 1 = r := by
      rw [hr, Nat.mul_eq_zero.2 h0]
      cases b <;> simp [sg, Rat.zero_mkRat]
    have R1 : Hid (Wd (w.alloc (.cells #[.int .u32 1] 129)) (.slice (some ⟨w.heap.size, 0, none⟩) 1 1) (words 1)) := hid (by
      have q : Ro (w.alloc (.cells #[.int .u32 1] 129)) w.heap.size [1] := by unfold Ro; simp only [block_at]; rfl
      rw [words_one]
      exact q.wd (cap := 1) (Nat.le_refl _))
    have BA : Hid (Below w.heap.size w (w.alloc (.cells #[.int .u32 1] 129))) := hid (Below.alloc (Below.refl _ _) (Nat.le_refl _) _)
    have RS := hid (brset g x y d0 false (.slice none 0 0) (.slice (some ⟨w.heap.size, 0, none⟩) 1 1) 0 1 _ (HB.out.below BA.out) (by rw [words_0]; exact Wd.nil _) R1.out (by decide) (by rw [words_0]; simp) (by rw [words_one]; simp) (hvr.below BA.out))
    rw [hr0] at RS
    have hz : (words 0).length = 0 := by rw [words_0]; rfl
    obtain ⟨aa, ca, rfl, -, -⟩ := ha.form
    obtain ⟨ab, cb, rfl, -, -⟩ := hB.form
    clear hr hr0 hb hd hC
    by_cases hA0 : A = 0
    · subst hA0
      rw [hz]
      clear h0 ha hB hz
      go_enter Tryz.func116, Tryz.ntmps116
      go_wp2_with (go_at_call 91; refine RS.out.mono ?_; rintro e w' ⟨rfl, h1, h2⟩)
      go_ret
      exact ⟨rfl, h1, (Keeps.of_below BA.out).trans (h2.mono BA.out.size (fun _ _ h => h))⟩
    · obtain rfl : B = 0 := by omega
      have hl : (words A).length ≠ 0 := fun e => hA0 (words_len0.1 e)
      have e1 : (((words A).length : Int) == 0) = false := beq_eq_false_iff_ne.2 (by omega)
      rw [hz]
      clear h0 ha hB hz hl hA0
      go_enter Tryz.func116, Tryz.ntmps116
      go_wp2_with (go_at_call 91; refine RS.out.mono ?_; rintro e w' ⟨rfl, h1, h2⟩)
      go_ret
      exact ⟨rfl, h1, (Keeps.of_below BA.out).trans (h2.mono BA.out.size (fun _ _ h => h))⟩
  · have hA0 : A ≠ 0 := fun e => h0 (.inl e)
    have hB0 : B ≠ 0 := fun e => h0 (.inr e)
    have TP := times_plain b hD0 hC0 hA0 hB0 c1 c2
    rw [← hr] at TP
    obtain ⟨G, hG⟩ : ∃ G, G = Nat.gcd A C := ⟨_, rfl⟩
    obtain ⟨K, hK⟩ : ∃ K, K = Nat.gcd B D := ⟨_, rfl⟩
    have hG0 : G ≠ 0 := fun e => hA0 (Nat.eq_zero_of_gcd_eq_zero_left (hG.symm.trans e))
    have hK0 : K ≠ 0 := fun e => hB0 (Nat.eq_zero_of_gcd_eq_zero_left (hK.symm.trans e))
    have lG : (words G).length ≤ 34359738368 := by
      have h := Nat.gcd_le_left C (Nat.pos_of_ne_zero hA0)
      rw [← hG] at h
      have := len_mono h
      omega
    have lK : (words K).length ≤ 34359738368 := by
      have h := Nat.gcd_le_left D (Nat.pos_of_ne_zero hB0)
      rw [← hK] at h
      have := len_mono h
      omega
    have CO1 := hid (fun w' (h : Below w.heap.size w w') => bcommon va vc A C w' (ha.below h) (hC.below h) (by omega) (by omega) (hvr.below h))
    have CO2 := hid (fun w' (h : Below w.heap.size w w') => bcommon vb vd B D w' (hB.below h) (hd.below h) (by omega) (by omega) (hvr.below h))
    have BYA := hid (fun v w' (h : Below w.heap.size w w') (q : Wd w' v (words G)) => bby va v A G w' (ha.below h) q (by omega) (by omega) hG0)
    have BYB := hid (fun v w' (h : Below w.heap.size w w') (q : Wd w' v (words K)) => bby vb v B K w' (hB.below h) q (by omega) (by omega) hK0)
    have BYD := hid (fun v w' (h : Below w.heap.size w w') (q : Wd w' v (words K)) => bby vd v D K w' (hd.below h) q (by omega) (by omega) hK0)
    have BYC := hid (fun v w' (h : Below w.heap.size w w') (q : Wd w' v (words G)) => bby vc v C G w' (hC.below h) q (by omega) (by omega) hG0)
    rw [← hG] at CO1
    rw [← hK] at CO2
    rw [← hG, ← hK] at TP
    have lq1 := len_mono (Nat.div_le_self A G)
    have lq2 := len_mono (Nat.div_le_self B K)
    have lq3 := len_mono (Nat.div_le_self D K)
    have lq4 := len_mono (Nat.div_le_self C G)
    have lm1 := mul_len (A / G) (B / K)
    have hN0 : A / G * (B / K) ≠ 0 := Nat.mul_ne_zero (by
      have h := Nat.gcd_le_left C (Nat.pos_of_ne_zero hA0)
      rw [← hG] at h
      have := Nat.div_pos h (Nat.pos_of_ne_zero hG0)
      omega) (by
      have h := Nat.gcd_le_left D (Nat.pos_of_ne_zero hB0)
      rw [← hK] at h
      have := Nat.div_pos h (Nat.pos_of_ne_zero hK0)
      omega)
    have hAl : (words A).length ≠ 0 := fun e => hA0 (words_len0.1 e)
    have hBl : (words B).length ≠ 0 := fun e => hB0 (words_len0.1 e)
    obtain ⟨N, hN⟩ : ∃ N, N = A / G * (B / K) := ⟨_, rfl⟩
    obtain ⟨M, hM⟩ : ∃ M, M = D / K * (C / G) := ⟨_, rfl⟩
    have MU1 := hid (fun v1 v2 w' (q1 : Wd w' v1 (words (A / G))) (q2 : Wd w' v2 (words (B / K))) => bmulW v1 v2 (A / G) (B / K) w' q1 q2 (by omega))
    have MU2 := hid (fun v1 v2 w' (q1 : Wd w' v1 (words (D / K))) (q2 : Wd w' v2 (words (C / G))) => bmulW v1 v2 (D / K) (C / G) w' q1 q2 (by omega))
    rw [← hN] at MU1 TP lm1 hN0
    rw [← hM] at MU2 TP
    have TPH := hid TP
    have LN : Hid ((words N).length ≤ 1099511627776) := hid (by omega)
    have N0 : Hid (decide (N ≠ 0) = true) := hid (decide_eq_true hN0)
    generalize A / G = A1 at *
    generalize B / K = B1 at *
    generalize D / K = D1 at *
    generalize C / G = C1 at *
    obtain ⟨aa, ca, rfl, -, -⟩ := ha.form
    obtain ⟨ab, cb, rfl, -, -⟩ := hB.form
    obtain ⟨la, hla⟩ : ∃ la, la = (words A).length := ⟨_, rfl⟩
    obtain ⟨lb, hlb⟩ : ∃ lb, lb = (words B).length := ⟨_, rfl⟩
    simp only [← hla, ← hlb] at CO1 CO2 BYA BYB hAl hBl ⊢
    have e1 : ((la : Int) == 0) = false := beq_eq_false_iff_ne.2 (by omega)
    have e2 : ((lb : Int) == 0) = false := beq_eq_false_iff_ne.2 (by omega)
    clear hr hb ha hd hB hC h0 hA0 hB0 TP hG hK hG0 hK0 lG lK lq1 lq2 lq3 lq4 lm1 hN0 hAl hBl hN hM hla hlb lA lD lB lC c1 c2
    go_enter Tryz.func116, Tryz.ntmps116
    go_wp2_with (first | (go_at_call 120; (with_reducible refine (CO1.out _ (Below.refl _ _)).mono ?_); rintro e w1 ⟨vg, rfl, hg1, -, hb1⟩) | (go_at_call 120; (with_reducible refine (CO2.out _ hb1).mono ?_); rintro e w2 ⟨vk, rfl, hk2, -, h2⟩; have hb2 := Below.trans hb1 (below_low h2 hb1.size); have hg2 := hg1.below h2) | (go_at_call 121; (with_reducible refine (BYA.out _ _ hb2 hg2).mono ?_); rintro e w3 ⟨vA, rfl, hA3, h3⟩; have hb3 := Below.trans hb2 (below_low h3 hb2.size); have hg3 := hg2.below h3; have hk3 := hk2.below h3) | (go_at_call 121; (with_reducible refine (BYB.out _ _ hb3 hk3).mono ?_); rintro e w4 ⟨vB, rfl, hB4, h4⟩; have hb4 := Below.trans hb3 (below_low h4 hb3.size); have hg4 := hg3.below h4; have hk4 := hk3.below h4; have hA4 := hA3.below h4) | (go_at_call 82; (with_reducible refine (MU1.out _ _ _ hA4 hB4).mono ?_); rintro e w5 ⟨vN, rfl, hN5, -, h5⟩; have hb5 := Below.trans hb4 (below_low h5 hb4.size); have hg5 := hg4.below h5; have hk5 := hk4.below h5) | (go_at_call 121; (with_reducible refine (BYD.out _ _ hb5 hk5).mono ?_); rintro e w6 ⟨vD, rfl, hD6, h6⟩; have hb6 := Below.trans hb5 (below_low h6 hb5.size); have hg6 := hg5.below h6; have hN6 := hN5.below h6) | (go_at_call 121; (with_reducible refine (BYC.out _ _ hb6 hg6).mono ?_); rintro e w7 ⟨vC, rfl, hC7, h7⟩; have hb7 := Below.trans hb6 (below_low h7 hb6.size); have hD7 := hD6.below h7; have hN7 := hN6.below h7) | (go_at_call 82; (with_reducible refine (MU2.out _ _ _ hD7 hC7).mono ?_); rintro e w8 ⟨vM, rfl, hM8, -, h8⟩; obtain ⟨aM, cM, rfl, -, -⟩ := hM8.form; have hb8 := Below.trans hb7 (below_low h8 hb7.size); have hN8 := hN7.below h8; have hBk8 := HB.out.below hb8) | (go_at_call 81; (with_reducible refine (bisetR g x y d0 b _ N w8 hBk8 hN8 LN.out).mono ?_); rintro e w9 ⟨v9, rfl, hBk9, hv9, hk9⟩; have f9 := hBk9.free 2; have c9 := hBk9.cell (i := 2) rfl; haveI : Has w9 g := ⟨hBk9.lt⟩; have hM9 := hM8.keepB hBk8 hk9))
    go_ret
    have hB5 := hBk9.set 2 (.slice aM (words M).length cM)
    refine ⟨rfl, ⟨v9, .slice aM (words M).length cM, ?_, ?_, .inr ?_⟩, ((Keeps.of_below hb8).trans (hk9.mono hb8.size (fun _ _ h => h))).set (Or.inl (by simp)) _ _⟩
    · rw [TPH.out.1, sg_neg]; exact hB5
    · rw [TPH.out.1, sg_abs]; exact hv9.setB hBk9 _ _
    · rw [TPH.out.2]; exact hM9.setB hBk9 _ _

end Big
end
section
open Go.RowKit
namespace Big
theorem rat_mul_mk' (x y : _root_.Rat) : mkRat (sg (!(decide (x.num < 0) == decide (y.num < 0))) (x.num.natAbs * y.num.natAbs)) (x.den * y.den) = x * y := rat_mul_mk x y
theorem rat_div_mk' (x y : _root_.Rat) (h : y.num ≠ 0) : mkRat (sg (!(decide (x.num < 0) == decide (y.num < 0))) (x.num.natAbs * y.den)) (x.den * y.num.natAbs) = x / y := rat_div_mk x y h
set_option maxRecDepth 100000 in
set_option maxHeartbeats 8000000 in
theorem brmul (gz gx gy : Nat) (z0 z1 z2 : Value) (x y : _root_.Rat) (w : World) (hz : Bk w gz [z0, z1, z2] 76) (hx : Ra 76 w gx x) (hy : Ra 76 w gy y) (lx : (words x.num.natAbs).length ≤ 34359738368) (mx : (words x.den).length ≤ 34359738368) (ly : (words y.num.natAbs).length ≤ 34359738368) (my : (words y.den).length ≤ 34359738368) (hvr : Vr w) (hzx : gx ≠ gz) (hzy : gy ≠ gz) :
    Calls Tryz.prog 89 #[.pointer (some ⟨gz, 0, none⟩), .pointer (some ⟨gx, 0, none⟩), .pointer (some ⟨gy, 0, none⟩)] w fun e w' => e = .returned (.pointer (some ⟨gz, 0, none⟩)) ∧ Ra 76 w' gz (x * y) ∧ Keeps w.heap.size [gz] w w' := by
  obtain ⟨vx, dx, bx, wx, ex⟩ := hx
  obtain ⟨vy, dy, by_, wy, ey⟩ := hy
  have TI := hid (fun vd vc w' (h : Below w.heap.size w w') (q1 : Wd w' vd (words x.den)) (q2 : Wd w' vc (words y.den)) => btimes gz z0 z1 z2 (!(decide (x.num < 0) == decide (y.num < 0))) vx vd vy vc x.num.natAbs x.den y.num.natAbs y.den w' (hz.below h) (wx.below h) q1 (wy.below h) q2 x.den_nz y.den_nz x.reduced y.reduced lx mx ly my (hvr.below h))
  rw [rat_mul_mk'] at TI
  have B1 := hid (fun w' (h : Below w.heap.size w w') => bbelow gx _ vx dx x.den w' (bx.below h) (ex.below h) x.den_nz)
  have B2 := hid (fun w' (h : Below w.heap.size w w') => bbelow gy _ vy dy y.den w' (by_.below h) (ey.below h) y.den_nz)
  obtain ⟨ax, cx, rfl, -, -⟩ := wx.form
  obtain ⟨ay, cy, rfl, -, -⟩ := wy.form
  have BX := hid bx
  have BZ := hid hz
  have ZX := hid hzx
  have ZY := hid hzy
  have BY := hid by_
  obtain ⟨r, hr⟩ : ∃ r, r = x * y := ⟨_, rfl⟩
  rw [← hr] at TI ⊢
  clear hr lx ly mx my
  generalize (words x.num.natAbs).length = kx at *
  generalize (words y.num.natAbs).length = ky at *
  generalize decide (x.num < 0) = nx at *
  generalize decide (y.num < 0) = ny at *
  have x0 := bx.cell (i := 0) rfl
  have x1 := bx.cell (i := 1) rfl
  have y0 := by_.cell (i := 0) rfl
  have y1 := by_.cell (i := 1) rfl
  haveI : Has w gx := ⟨bx.lt⟩
  haveI : Has w gy := ⟨by_.lt⟩
  clear bx by_ wx wy ex ey hz hzx hzy
  go_enter Tryz.func89, Tryz.ntmps89
  go_wp2_with fail
  go_region_held3 (fun W => W.cell? ⟨gx, 0, none⟩ = some (.bool nx) ∧ W.cell? ⟨gx, 1, none⟩ = some (.slice ax kx cx) ∧ W.cell? ⟨gy, 0, none⟩ = some (.bool ny) ∧ W.cell? ⟨gy, 1, none⟩ = some (.slice ay ky cy)) (refine ⟨?_, ?_, ?_, ?_⟩ <;> (first | assumption | (simp [go_sem, *]; done))) (first | (go_at_call 117; (with_reducible refine (B1.out _ ?_).mono ?_); (focus (first | assumption | exact Below.drew (Below.refl _ _))); rintro e w1 ⟨v1, rfl, h1, hb⟩; have hb1 := Below.trans (Below.drew (Below.refl w.heap.size w)) hb; have x01 := (BX.out.below hb1).cell (i := 0) rfl; have x11 := (BX.out.below hb1).cell (i := 1) rfl; have y01 := (BY.out.below hb1).cell (i := 0) rfl; have y11 := (BY.out.below hb1).cell (i := 1) rfl) | (go_at_call 117; (with_reducible refine (B2.out _ ?_).mono ?_); (focus (first | assumption | exact Below.drew (Below.refl _ _))); rintro e w2 ⟨v2, rfl, h2, hc⟩; have h12 := h1.below hc; have hb2 := Below.trans hb1 (below_low hc hb1.size); have x02 := (BX.out.below hb2).cell (i := 0) rfl; have x12 := (BX.out.below hb2).cell (i := 1) rfl; have y02 := (BY.out.below hb2).cell (i := 0) rfl; have y12 := (BY.out.below hb2).cell (i := 1) rfl) | (go_at_call 116; (with_reducible refine (TI.out _ _ _ hb2 h12 h2).mono ?_); rintro e w3 ⟨rfl, hr3, hk3⟩; have x03 := ((BX.out.below hb2).keep hk3 (Nat.le_refl _) (by simpa using ZX.out)).cell (i := 0) rfl; have x13 := ((BX.out.below hb2).keep hk3 (Nat.le_refl _) (by simpa using ZX.out)).cell (i := 1) rfl; have y03 := ((BY.out.below hb2).keep hk3 (Nat.le_refl _) (by simpa using ZY.out)).cell (i := 0) rfl; have y13 := ((BY.out.below hb2).keep hk3 (Nat.le_refl _) (by simpa using ZY.out)).cell (i := 1) rfl))
  all_goals
    go_wp2_with fail
    go_ret
    exact ⟨rfl, hr3, (Keeps.of_below hb2).trans (hk3.mono hb2.size (fun _ _ h => h))⟩
end Big
end
section
open Go.RowKit
namespace Big
/-- A sum of fractions, over what is below both lines. -/
theorem add_plain (x y : _root_.Rat) (s : Int) (g h : Nat) (hg : g = Nat.gcd x.den y.den) (hs : s = x.num * ((y.den / g : Nat) : Int) + y.num * ((x.den / g : Nat) : Int)) (hh : h = Nat.gcd s.natAbs g) :
    x + y = mkRat s (x.den / g * y.den) ∧ (x + y).num = sg (decide (s < 0)) (s.natAbs / h) ∧ (x + y).den = x.den / g * (y.den / h) := by
  have e := Rat.add.aux x y hg rfl rfl
  simp only [← hs] at e
  have g0 : 0 < g := by rw [hg]; exact Nat.gcd_pos_of_pos_left _ x.den_pos
  have dx : x.den / g * g = x.den := Nat.div_mul_cancel (hg ▸ Nat.gcd_dvd_left ..)
  have dy : y.den / g * g = y.den := Nat.div_mul_cancel (hg ▸ Nat.gcd_dvd_right ..)
  have e1 : x + y = mkRat s (x.den / g * y.den) := by
    rw [Rat.add_def', hs]
    have a1 : x.num * (y.den : Int) + y.num * (x.den : Int) = (x.num * ((y.den / g : Nat) : Int) + y.num * ((x.den / g : Nat) : Int)) * (g : Int) := by
      conv => lhs; rw [← dx, ← dy]
      rw [Int.natCast_mul, Int.natCast_mul]
      generalize ((y.den / g : Nat) : Int) = p
      generalize ((x.den / g : Nat) : Int) = q
      grind
    have a2 : x.den * y.den = x.den / g * y.den * g := by
      conv => lhs; rw [← dx]
      grind
    rw [a1, a2, Rat.mkRat_mul_right (by omega)]
  have hn : x.den / g * y.den ≠ 0 := Nat.mul_ne_zero (by
    have := Nat.div_pos (Nat.le_of_dvd x.den_pos (hg ▸ Nat.gcd_dvd_left ..)) g0
    omega) y.den_nz
  have p := mk_parts (decide (s < 0)) s.natAbs _ hn
  rw [← sg_of s, ← e, ← hh, ← e1] at p
  refine ⟨e1, p.1, p.2.trans ?_⟩
  rw [Nat.mul_div_assoc]
  have h1 : h ∣ g := hh ▸ Nat.gcd_dvd_right ..
  exact Nat.dvd_trans h1 (hg ▸ Nat.gcd_dvd_right ..)

theorem add_len (m n : Nat) : (words (m + n)).length ≤ (words m).length + (words n).length + 1 := by
  refine words_len_le ?_
  have a := words_lt m
  have b := words_lt n
  have e1 : 4294967296 ^ (words m).length ≤ 4294967296 ^ ((words m).length + (words n).length) := Nat.pow_le_pow_right (by decide) (by omega)
  have e2 : 4294967296 ^ (words n).length ≤ 4294967296 ^ ((words m).length + (words n).length) := Nat.pow_le_pow_right (by decide) (by omega)
  rw [Nat.pow_succ]
  omega
/-- A whole number in memory. -/
def In (T : Nat) (w : World) (g : Nat) (n : Int) : Prop := ∃ v, Bk w g [.bool (decide (n < 0)), v] T ∧ Wd w v (words n.natAbs)
theorem In.below {T : Nat} {w w' : World} {g : Nat} {n : Int} (h : In T w g n) (b : Below w.heap.size w w') : In T w' g n := by
  obtain ⟨v, h1, h2⟩ := h
  exact ⟨v, h1.below b, h2.below b⟩
theorem In.keep {T : Nat} {w w' : World} {g k S : Nat} {n : Int} {L : List Value} (h : In T w g n) (b : Bk w k L S) (kp : Keeps w.heap.size [k] w w') (hk : g ≠ k) : In T w' g n := by
  obtain ⟨v, h1, h2⟩ := h
  exact ⟨v, h1.keep kp (Nat.le_refl _) (by simpa using hk), h2.keepB b kp⟩
theorem In.lt {T : Nat} {w : World} {g : Nat} {n : Int} (h : In T w g n) : g < w.heap.size := by
  obtain ⟨v, h1, -⟩ := h
  exact h1.lt
theorem sg_not (y : Int) : sg (!decide (y < 0)) y.natAbs = - y := by
  by_cases h : y < 0 <;> simp [h, sg] <;> omega
set_option maxRecDepth 100000 in
set_option maxHeartbeats 16000000 in
theorem biadded (g T : Nat) (x y : Value) (R : List Value) (va vb : Value) (m n : Nat) (p q : Bool) (w : World) (hb : Bk w g (x :: y :: R) T) (ha : Wd w va (words m)) (hbv : Wd w vb (words n)) (hm : (words m).length ≤ 137438953472) (hn : (words n).length ≤ 137438953472) (s : Int) (hs : s = sg p m + sg q n) :
    Calls Tryz.prog 109 #[.pointer (some ⟨g, 0, none⟩), va, .bool p, vb, .bool q] w fun e w' => ∃ v', e = .returned (.pointer (some ⟨g, 0, none⟩)) ∧ Bk w' g (.bool (decide (s < 0)) :: v' :: R) T ∧ Wd w' v' (words s.natAbs) ∧ Keeps w.heap.size [g] w w' := by
  haveI : Has w g := ⟨hb.lt⟩
  have CM := bcmp va vb m n w ha hbv (by omega) (by omega)
  obtain ⟨cc, hcc⟩ : ∃ cc, cc = cmpN m n := ⟨_, rfl⟩
  rw [← hcc] at CM
  rcases p with _ | _ <;> rcases q with _ | _
  · skip
    have AD := hid (badd va vb m n w ha hbv (by omega) (by omega))
    have SE := hid (fun v w' (h : Below w.heap.size w w') (q : Wd w' v (words (m + n))) => biset g T x y R false v (m + n) w' (hb.below h) q (by have := add_len m n; omega))
    rw [← sg_neg] at SE
    have hs2 : sg false (m + n) = s := by rw [hs]; simp [sg]; try omega
    have hs3 : m + n = s.natAbs := by rw [← hs2, sg_abs]
    rw [hs2] at SE
    rw [hs3] at SE AD
    clear hs hs2 hs3 hb hm hn ha hbv CM
    go_enter Tryz.func109, Tryz.ntmps109
    go_wp2_with (first | (go_at_call 113; (with_reducible refine AD.out.mono ?_); rintro e w1 ⟨v1, rfl, hv1, -, hb1⟩) | (go_at_call 81; (with_reducible refine (SE.out _ _ hb1 hv1).mono ?_); rintro e w3 ⟨v3, rfl, hB3, hV3, -, hk3⟩))
    go_ret
    exact ⟨v3, rfl, hB3, hV3, (Keeps.of_below hb1).trans (hk3.mono hb1.size (fun _ _ h => h))⟩
  · skip
    by_cases hmn : n ≤ m
    · skip
      have SB := hid (fun w' (h : Below w.heap.size w w') => bsub va vb m n w' (ha.below h) (hbv.below h) (by omega) (by omega))
      have SE := hid (fun v w' (h : Below w.heap.size w w') (q : Wd w' v (words (m - n))) => biset g T x y R false v (m - n) w' (hb.below h) q (by have := len_mono (Nat.sub_le m n); omega))
      rw [← sg_neg] at SE
      have hs2 : sg false (m - n) = s := by rw [hs]; simp [sg]; omega
      have hs3 : m - n = s.natAbs := by rw [← hs2, sg_abs]
      rw [hs2] at SE
      rw [hs3] at SE SB
      have hcD : decide (0 ≤ cc) = true := by rw [hcc]; unfold cmpN; (split <;> first | omega | (split <;> rfl))
      clear hs hs2 hs3 hb hm hn ha hbv hcc hmn
      go_enter Tryz.func109, Tryz.ntmps109
      go_wp2_with (first | (go_at_call 119; (with_reducible refine CM.mono ?_); rintro e w1 ⟨rfl, hq1⟩; have hb1 := hq1.below; clear hq1) | (go_at_call 114; (with_reducible refine (SB.out _ hb1).mono ?_); rintro e w2 ⟨v2, rfl, hv2, -, hq2⟩; have hb2 := Below.trans hb1 (below_low hq2 hb1.size)) | (go_at_call 81; (with_reducible refine (SE.out _ _ hb2 hv2).mono ?_); rintro e w3 ⟨v3, rfl, hB3, hV3, -, hk3⟩))
      go_ret
      exact ⟨v3, rfl, hB3, hV3, (Keeps.of_below hb2).trans (hk3.mono hb2.size (fun _ _ h => h))⟩
    · skip
      have SB := hid (fun w' (h : Below w.heap.size w w') => bsub vb va n m w' (hbv.below h) (ha.below h) (by omega) (by omega))
      have SE := hid (fun v w' (h : Below w.heap.size w w') (q : Wd w' v (words (n - m))) => biset g T x y R true v (n - m) w' (hb.below h) q (by have := len_mono (Nat.sub_le n m); omega))
      rw [← sg_neg] at SE
      have hs2 : sg true (n - m) = s := by rw [hs]; simp [sg]; omega
      have hs3 : n - m = s.natAbs := by rw [← hs2, sg_abs]
      rw [hs2] at SE
      rw [hs3] at SE SB
      have hcD : decide (0 ≤ cc) = false := by rw [hcc]; unfold cmpN; rw [if_pos (by omega)]; rfl
      clear hs hs2 hs3 hb hm hn ha hbv hcc hmn
      go_enter Tryz.func109, Tryz.ntmps109
      go_wp2_with (first | (go_at_call 119; (with_reducible refine CM.mono ?_); rintro e w1 ⟨rfl, hq1⟩; have hb1 := hq1.below; clear hq1) | (go_at_call 114; (with_reducible refine (SB.out _ hb1).mono ?_); rintro e w2 ⟨v2, rfl, hv2, -, hq2⟩; have hb2 := Below.trans hb1 (below_low hq2 hb1.size)) | (go_at_call 81; (with_reducible refine (SE.out _ _ hb2 hv2).mono ?_); rintro e w3 ⟨v3, rfl, hB3, hV3, -, hk3⟩))
      go_ret
      exact ⟨v3, rfl, hB3, hV3, (Keeps.of_below hb2).trans (hk3.mono hb2.size (fun _ _ h => h))⟩
  · skip
    by_cases hmn : n ≤ m
    · skip
      have SB := hid (fun w' (h : Below w.heap.size w w') => bsub va vb m n w' (ha.below h) (hbv.below h) (by omega) (by omega))
      have SE := hid (fun v w' (h : Below w.heap.size w w') (q : Wd w' v (words (m - n))) => biset g T x y R true v (m - n) w' (hb.below h) q (by have := len_mono (Nat.sub_le m n); omega))
      rw [← sg_neg] at SE
      have hs2 : sg true (m - n) = s := by rw [hs]; simp [sg]; omega
      have hs3 : m - n = s.natAbs := by rw [← hs2, sg_abs]
      rw [hs2] at SE
      rw [hs3] at SE SB
      have hcD : decide (0 ≤ cc) = true := by rw [hcc]; unfold cmpN; (split <;> first | omega | (split <;> rfl))
      clear hs hs2 hs3 hb hm hn ha hbv hcc hmn
      go_enter Tryz.func109, Tryz.ntmps109
      go_wp2_with (first | (go_at_call 119; (with_reducible refine CM.mono ?_); rintro e w1 ⟨rfl, hq1⟩; have hb1 := hq1.below; clear hq1) | (go_at_call 114; (with_reducible refine (SB.out _ hb1).mono ?_); rintro e w2 ⟨v2, rfl, hv2, -, hq2⟩; have hb2 := Below.trans hb1 (below_low hq2 hb1.size)) | (go_at_call 81; (with_reducible refine (SE.out _ _ hb2 hv2).mono ?_); rintro e w3 ⟨v3, rfl, hB3, hV3, -, hk3⟩))
      go_ret
      exact ⟨v3, rfl, hB3, hV3, (Keeps.of_below hb2).trans (hk3.mono hb2.size (fun _ _ h => h))⟩
    · skip
      have SB := hid (fun w' (h : Below w.heap.size w w') => bsub vb va n m w' (hbv.below h) (ha.below h) (by omega) (by omega))
      have SE := hid (fun v w' (h : Below w.heap.size w w') (q : Wd w' v (words (n - m))) => biset g T x y R false v (n - m) w' (hb.below h) q (by have := len_mono (Nat.sub_le n m); omega))
      rw [← sg_neg] at SE
      have hs2 : sg false (n - m) = s := by rw [hs]; simp [sg]; omega
      have hs3 : n - m = s.natAbs := by rw [← hs2, sg_abs]
      rw [hs2] at SE
      rw [hs3] at SE SB
      have hcD : decide (0 ≤ cc) = false := by rw [hcc]; unfold cmpN; rw [if_pos (by omega)]; rfl
      clear hs hs2 hs3 hb hm hn ha hbv hcc hmn
      go_enter Tryz.func109, Tryz.ntmps109
      go_wp2_with (first | (go_at_call 119; (with_reducible refine CM.mono ?_); rintro e w1 ⟨rfl, hq1⟩; have hb1 := hq1.below; clear hq1) | (go_at_call 114; (with_reducible refine (SB.out _ hb1).mono ?_); rintro e w2 ⟨v2, rfl, hv2, -, hq2⟩; have hb2 := Below.trans hb1 (below_low hq2 hb1.size)) | (go_at_call 81; (with_reducible refine (SE.out _ _ hb2 hv2).mono ?_); rintro e w3 ⟨v3, rfl, hB3, hV3, -, hk3⟩))
      go_ret
      exact ⟨v3, rfl, hB3, hV3, (Keeps.of_below hb2).trans (hk3.mono hb2.size (fun _ _ h => h))⟩
  · skip
    have AD := hid (badd va vb m n w ha hbv (by omega) (by omega))
    have SE := hid (fun v w' (h : Below w.heap.size w w') (q : Wd w' v (words (m + n))) => biset g T x y R true v (m + n) w' (hb.below h) q (by have := add_len m n; omega))
    rw [← sg_neg] at SE
    have hs2 : sg true (m + n) = s := by rw [hs]; simp [sg]; try omega
    have hs3 : m + n = s.natAbs := by rw [← hs2, sg_abs]
    rw [hs2] at SE
    rw [hs3] at SE AD
    clear hs hs2 hs3 hb hm hn ha hbv CM
    go_enter Tryz.func109, Tryz.ntmps109
    go_wp2_with (first | (go_at_call 113; (with_reducible refine AD.out.mono ?_); rintro e w1 ⟨v1, rfl, hv1, -, hb1⟩) | (go_at_call 81; (with_reducible refine (SE.out _ _ hb1 hv1).mono ?_); rintro e w3 ⟨v3, rfl, hB3, hV3, -, hk3⟩))
    go_ret
    exact ⟨v3, rfl, hB3, hV3, (Keeps.of_below hb1).trans (hk3.mono hb1.size (fun _ _ h => h))⟩
set_option maxRecDepth 100000 in
set_option maxHeartbeats 16000000 in
theorem biadd (gz gx gy : Nat) (T : Nat) (z0 z1 : Value) (R : List Value) (x y : Int) (w : World) (hz : Bk w gz (z0 :: z1 :: R) T) (hx : In 74 w gx x) (hy : In 74 w gy y) (lx : (words x.natAbs).length ≤ 137438953472) (ly : (words y.natAbs).length ≤ 137438953472) :
    Calls Tryz.prog 80 #[.pointer (some ⟨gz, 0, none⟩), .pointer (some ⟨gx, 0, none⟩), .pointer (some ⟨gy, 0, none⟩)] w fun e w' => ∃ v', e = .returned (.pointer (some ⟨gz, 0, none⟩)) ∧ Bk w' gz (.bool (decide (x + y < 0)) :: v' :: R) T ∧ Wd w' v' (words (x + y).natAbs) ∧ Keeps w.heap.size [gz] w w' := by
  obtain ⟨vx, bx, wx⟩ := hx
  obtain ⟨vy, by_, wy⟩ := hy
  have TI := hid (fun w' (h : Below w.heap.size w w') => biadded gz T z0 z1 R vx vy x.natAbs y.natAbs (decide (x < 0)) (decide (y < 0)) w' (hz.below h) (wx.below h) (wy.below h) lx ly (x + y) (by rw [← sg_of, ← sg_of]))
  obtain ⟨ax, cx, rfl, -, -⟩ := wx.form
  obtain ⟨ay, cy, rfl, -, -⟩ := wy.form
  obtain ⟨r, hr⟩ : ∃ r, r = x + y := ⟨_, rfl⟩
  rw [← hr] at TI ⊢
  clear hr lx ly
  generalize (words x.natAbs).length = kx at *
  generalize (words y.natAbs).length = ky at *
  generalize decide (x < 0) = nx at *
  generalize decide (y < 0) = ny at *
  have x0 := bx.cell (i := 0) rfl
  have x1 := bx.cell (i := 1) rfl
  have y0 := by_.cell (i := 0) rfl
  have y1 := by_.cell (i := 1) rfl
  haveI : Has w gx := ⟨bx.lt⟩
  haveI : Has w gy := ⟨by_.lt⟩
  clear bx by_ wx wy hz
  go_enter Tryz.func80, Tryz.ntmps80
  go_wp2_with fail
  go_still_tail 17, (by kernel_rfl)
  change wpList _ _ _ _ _ w.drew
  have hb1 := Below.drew (Below.refl w.heap.size w)
  generalize w.drew = w2 at *
  go_wp2_with (go_at_call 109; (with_reducible refine (TI.out _ hb1).mono ?_); rintro e w3 ⟨v3, rfl, hB3, hV3, hk3⟩)
  go_ret
  exact ⟨v3, rfl, hB3, hV3, (Keeps.of_below hb1).trans (hk3.mono hb1.size (fun _ _ h => h))⟩
set_option maxRecDepth 100000 in
set_option maxHeartbeats 16000000 in
theorem bisub (gz gx gy : Nat) (T : Nat) (z0 z1 : Value) (R : List Value) (x y : Int) (w : World) (hz : Bk w gz (z0 :: z1 :: R) T) (hx : In 74 w gx x) (hy : In 74 w gy y) (lx : (words x.natAbs).length ≤ 137438953472) (ly : (words y.natAbs).length ≤ 137438953472) :
    Calls Tryz.prog 79 #[.pointer (some ⟨gz, 0, none⟩), .pointer (some ⟨gx, 0, none⟩), .pointer (some ⟨gy, 0, none⟩)] w fun e w' => ∃ v', e = .returned (.pointer (some ⟨gz, 0, none⟩)) ∧ Bk w' gz (.bool (decide (x - y < 0)) :: v' :: R) T ∧ Wd w' v' (words (x - y).natAbs) ∧ Keeps w.heap.size [gz] w w' := by
  obtain ⟨vx, bx, wx⟩ := hx
  obtain ⟨vy, by_, wy⟩ := hy
  have TI := hid (fun w' (h : Below w.heap.size w w') => biadded gz T z0 z1 R vx vy x.natAbs y.natAbs (decide (x < 0)) (!decide (y < 0)) w' (hz.below h) (wx.below h) (wy.below h) lx ly (x - y) (by have h1 := sg_of x; have h2 := sg_of y; by_cases h3 : y < 0 <;> simp [h3, sg] at h2 ⊢ <;> by_cases h4 : x < 0 <;> simp [h4, sg] at h1 ⊢ <;> omega))
  obtain ⟨ax, cx, rfl, -, -⟩ := wx.form
  obtain ⟨ay, cy, rfl, -, -⟩ := wy.form
  obtain ⟨r, hr⟩ : ∃ r, r = x - y := ⟨_, rfl⟩
  rw [← hr] at TI ⊢
  clear hr lx ly
  generalize (words x.natAbs).length = kx at *
  generalize (words y.natAbs).length = ky at *
  generalize decide (x < 0) = nx at *
  generalize decide (y < 0) = ny at *
  have x0 := bx.cell (i := 0) rfl
  have x1 := bx.cell (i := 1) rfl
  have y0 := by_.cell (i := 0) rfl
  have y1 := by_.cell (i := 1) rfl
  haveI : Has w gx := ⟨bx.lt⟩
  haveI : Has w gy := ⟨by_.lt⟩
  clear bx by_ wx wy hz
  go_enter Tryz.func79, Tryz.ntmps79
  go_wp2_with fail
  go_still_tail 18, (by kernel_rfl)
  change wpList _ _ _ _ _ w.drew
  have hb1 := Below.drew (Below.refl w.heap.size w)
  generalize w.drew = w2 at *
  go_wp2_with (go_at_call 109; (with_reducible refine (TI.out _ hb1).mono ?_); rintro e w3 ⟨v3, rfl, hB3, hV3, hk3⟩)
  go_ret
  exact ⟨v3, rfl, hB3, hV3, (Keeps.of_below hb1).trans (hk3.mono hb1.size (fun _ _ h => h))⟩
end Big
end
section
open Go.RowKit
namespace Big
/-! Regions that draw their order: what is loaded stays as long as number k has not come up. -/
section
variable {P : Program} {ops : Array Oper} {Q : Exit → Act → World → Prop} {md : Region.Mode} {S : World → Prop} {k : Nat}
/-- Has k, or one behind it, come up? -/
def lateB (k : Nat) (listed : Array Bool) : Bool := (listed.toList.drop k).any id
theorem lateB_set {k i : Nat} (l : Array Bool) (h : i < k) (b : Bool) : lateB k (l.setIfInBounds i b) = lateB k l := by
  unfold lateB
  rw [Array.toList_setIfInBounds, List.drop_set_of_lt h]
def wpAnyL (P : Program) (md : Region.Mode) (ops : Array Oper) (Q : Exit → Act → World → Prop) (S : World → Prop) (k : Nat) : Nat → Array Bool → Act → World → Prop
  | 0, listed, a, w => Region.ready md ops listed = [] ∧ Q .normal a w
  | fuel + 1, listed, a, w =>
    (Region.ready md ops listed = [] → Q .normal a w) ∧
    ∀ i ∈ Region.ready md ops listed, wpOp P ops Q i (fun a' w' => (lateB k (listed.setIfInBounds i true) = true ∨ S w') ∧ wpAnyL P md ops Q S k fuel (listed.setIfInBounds i true) a' w') a w
theorem wpAny_of_late : ∀ (fuel : Nat) (listed : Array Bool) (a : Act) (w : World), wpAnyL P md ops Q S k fuel listed a w → wpAny P md ops Q fuel listed a w
  | 0, _, _, _, h => h
  | fuel + 1, _, _, _, h => ⟨h.1, fun i hi => wpOp_mono (fun a' w' h' => wpAny_of_late fuel _ a' w' h'.2) (h.2 i hi)⟩
/-- Number k and those behind it wait for number i. -/
def blockedB (md : Region.Mode) (ops : Array Oper) (i k : Nat) : Nat → Array Bool → Bool
  | 0, _ => true
  | n + 1, listed => (Region.ready md ops listed).all fun j => j == i || (decide (j < k) && blockedB md ops i k n (listed.setIfInBounds j true))
theorem wpAnyL_first {i : Nat} {oi : Oper} {v : Value} (hik : i < k) (hi : ops[i]? = some oi) (hsel : ∀ (j : Nat) (o : Oper) cs b, ops[j]? = some o → o.op ≠ .select cs b)
    (hQ : ∀ c a w, Q (.panic c) (a.put oi.dst v) w → Q (.panic c) a w) :
    ∀ (fuel : Nat) (listed : Array Bool) (a : Act) (w : World),
      (∀ j oj, ops[j]? = some oj → j ≠ i → listed.getD j true = false → (∀ e ∈ oj.after, Region.binds md e = true → e.on ≠ i) → oi.apart ops oj = true) →
      i ∈ Region.ready md ops listed → blockedB md ops i k (fuel + 1) listed = true → lateB k listed = false → YieldsIf P ops S oi v a → S w →
      wpAnyL P md ops Q S k fuel (listed.setIfInBounds i true) (a.put oi.dst v) w → wpAnyL P md ops Q S k (fuel + 1) listed a w := by
  intro fuel
  induction fuel with
  | zero =>
    intro listed a w _ hr _ _ hy hS H
    refine ⟨fun h => (by rw [h] at hr; cases hr), fun j hj => ?_⟩
    by_cases hji : j = i
    · subst hji; exact hy.wpOp hi hS ⟨.inr hS, H⟩
    · have := ready_mono hj hji
      rw [H.1] at this
      cases this
  | succ fuel ih =>
    intro listed a w hfree hr hbl hl hy hS H
    refine ⟨fun h => (by rw [h] at hr; cases hr), fun j hj => ?_⟩
    by_cases hji : j = i
    · subst hji; exact hy.wpOp hi hS ⟨.inr hS, H⟩
    · have h1 := H.2 j (ready_mono hj hji)
      have hbj : j < k ∧ blockedB md ops i k (fuel + 1) (listed.setIfInBounds j true) = true := by
        have h5 := List.all_eq_true.1 hbl j hj
        rw [Bool.or_eq_true, Bool.and_eq_true, beq_iff_eq, decide_eq_true_eq] at h5
        exact h5.resolve_left hji
      obtain ⟨hjun, oj, hoj, hall⟩ := mem_ready.1 hj
      have hnot : ∀ e ∈ oj.after, Region.binds md e = true → e.on ≠ i := fun e he hb heq => by
        have h1 := hall e he hb
        have h0 := (mem_ready.1 hr).1
        rw [heq] at h1
        rcases Nat.lt_or_ge i listed.size with h' | h'
        · simp [h'] at h0 h1; rw [h0] at h1; cases h1
        · simp [Array.getElem?_eq_none h'] at h1
      have h2 := wpOp_putIf hoj (hfree j oj hoj hji hjun hnot) (fun cs b => hsel i oi cs b hi) (fun cs b => hsel j oj cs b hoj) hQ hy h1
      have hfree' : ∀ k ok, ops[k]? = some ok → k ≠ i → (listed.setIfInBounds j true).getD k true = false →
          (∀ e ∈ ok.after, Region.binds md e = true → e.on ≠ i) → oi.apart ops ok = true := fun k ok hk hki hun hno => by
        refine hfree k ok hk hki ?_ hno
        by_cases hjk : j = k
        · subst hjk; exact hjun
        · rw [getD_set_ne true hjk] at hun; exact hun
      refine wpOp_mono (fun a' w' h3 => ?_) h2
      have hl2 : lateB k ((listed.setIfInBounds i true).setIfInBounds j true) = false := by rw [lateB_set _ hbj.1, lateB_set _ hik, hl]
      have hS' : S w' := h3.2.1.resolve_left (by rw [hl2]; exact Bool.false_ne_true)
      refine ⟨.inr hS', ih (listed.setIfInBounds j true) a' w' hfree' (ready_mono hr (Ne.symm hji)) hbj.2 (by rw [lateB_set _ hbj.1, hl]) h3.1 hS' ?_⟩
      rw [Array.setIfInBounds_comm _ _ hji]
      exact h3.2.2
theorem wpAnyL_take {i : Nat} {oi : Oper} {v : Value} {fuel : Nat} {listed : Array Bool} {a : Act} {w : World} (hi : ops[i]? = some oi)
    (hs : Region.noSelect ops = true) (hf : Region.free md ops listed i = true) (hr : (Region.ready md ops listed).contains i = true) (hb : blockedB md ops i k (fuel + 1) listed = true) (hl : lateB k listed = false) (hik : decide (i < k) = true)
    (hQ : ∀ c a w, Q (.panic c) (a.put oi.dst v) w → Q (.panic c) a w) (hy : YieldsIf P ops S oi v a) (hS : S w)
    (h : wpAnyL P md ops Q S k fuel (listed.setIfInBounds i true) (a.put oi.dst v) w) : wpAnyL P md ops Q S k (fuel + 1) listed a w :=
  wpAnyL_first (of_decide_eq_true hik) hi (Region.noSelect_spec hs) hQ fuel listed a w (Region.free_spec hi hf) (by simpa using hr) hb hl hy hS h
/-- What yields in every world may come first. -/
theorem wpAnyL_pure1 {i : Nat} {oi : Oper} {v : Value} (hik : i < k) (hi : ops[i]? = some oi) (hsel : ∀ (j : Nat) (o : Oper) cs b, ops[j]? = some o → o.op ≠ .select cs b)
    (hQ : ∀ c a w, Q (.panic c) (a.put oi.dst v) w → Q (.panic c) a w) :
    ∀ (fuel : Nat) (listed : Array Bool) (a : Act) (w : World),
      (∀ j oj, ops[j]? = some oj → j ≠ i → listed.getD j true = false → (∀ e ∈ oj.after, Region.binds md e = true → e.on ≠ i) → oi.apart ops oj = true) →
      i ∈ Region.ready md ops listed → YieldsIf P ops (fun _ => True) oi v a → (lateB k listed = true ∨ S w) →
      wpAnyL P md ops Q S k fuel (listed.setIfInBounds i true) (a.put oi.dst v) w → wpAnyL P md ops Q S k (fuel + 1) listed a w := by
  intro fuel
  induction fuel with
  | zero =>
    intro listed a w _ hr hy hS H
    refine ⟨fun h => (by rw [h] at hr; cases hr), fun j hj => ?_⟩
    by_cases hji : j = i
    · subst hji; exact hy.wpOp hi trivial ⟨by rw [lateB_set _ hik]; exact hS, H⟩
    · have := ready_mono hj hji
      rw [H.1] at this
      cases this
  | succ fuel ih =>
    intro listed a w hfree hr hy hS H
    refine ⟨fun h => (by rw [h] at hr; cases hr), fun j hj => ?_⟩
    by_cases hji : j = i
    · subst hji; exact hy.wpOp hi trivial ⟨by rw [lateB_set _ hik]; exact hS, H⟩
    · have h1 := H.2 j (ready_mono hj hji)
      obtain ⟨hjun, oj, hoj, hall⟩ := mem_ready.1 hj
      have hnot : ∀ e ∈ oj.after, Region.binds md e = true → e.on ≠ i := fun e he hb heq => by
        have h1 := hall e he hb
        have h0 := (mem_ready.1 hr).1
        rw [heq] at h1
        rcases Nat.lt_or_ge i listed.size with h' | h'
        · simp [h'] at h0 h1; rw [h0] at h1; cases h1
        · simp [Array.getElem?_eq_none h'] at h1
      have h2 := wpOp_putIf hoj (hfree j oj hoj hji hjun hnot) (fun cs b => hsel i oi cs b hi) (fun cs b => hsel j oj cs b hoj) hQ hy h1
      have hfree' : ∀ k ok, ops[k]? = some ok → k ≠ i → (listed.setIfInBounds j true).getD k true = false →
          (∀ e ∈ ok.after, Region.binds md e = true → e.on ≠ i) → oi.apart ops ok = true := fun k ok hk hki hun hno => by
        refine hfree k ok hk hki ?_ hno
        by_cases hjk : j = k
        · subst hjk; exact hjun
        · rw [getD_set_ne true hjk] at hun; exact hun
      refine wpOp_mono (fun a' w' h3 => ?_) h2
      have h5 : lateB k ((listed.setIfInBounds i true).setIfInBounds j true) = lateB k (listed.setIfInBounds j true) := by
        rw [Array.setIfInBounds_comm _ _ (Ne.symm hji), lateB_set _ hik]
      rw [h5] at h3
      refine ⟨h3.2.1, ih (listed.setIfInBounds j true) a' w' hfree' (ready_mono hr (Ne.symm hji)) h3.1 h3.2.1 ?_⟩
      rw [Array.setIfInBounds_comm _ _ hji]
      exact h3.2.2
theorem wpAnyL_pure {i : Nat} {oi : Oper} {v : Value} {fuel : Nat} {listed : Array Bool} {a : Act} {w : World} (hi : ops[i]? = some oi)
    (hs : Region.noSelect ops = true) (hf : Region.free md ops listed i = true) (hr : (Region.ready md ops listed).contains i = true) (hik : decide (i < k) = true)
    (hQ : ∀ c a w, Q (.panic c) (a.put oi.dst v) w → Q (.panic c) a w) (hy : YieldsIf P ops (fun _ => True) oi v a) (hS : S w)
    (h : wpAnyL P md ops Q S k fuel (listed.setIfInBounds i true) (a.put oi.dst v) w) : wpAnyL P md ops Q S k (fuel + 1) listed a w :=
  wpAnyL_pure1 (of_decide_eq_true hik) hi (Region.noSelect_spec hs) hQ fuel listed a w (Region.free_spec hi hf) (by simpa using hr) hy (.inr hS) h
/-- .. with what the kernel sees left to it. -/
theorem wpAnyL_p (i : Nat) {oi : Oper} {v : Value} {fuel : Nat} {listed : Array Bool} {a : Act} {w : World} (hi : ops[i]? = some oi) (hy : YieldsIf P ops (fun _ => True) oi v a)
    (h : wpAnyL P md ops Q S k fuel (listed.setIfInBounds i true) (a.put oi.dst v) w)
    (hs : Region.noSelect ops = true := by kernel_rfl) (hf : Region.free md ops listed i = true := by kernel_rfl) (hr : (Region.ready md ops listed).contains i = true := by kernel_rfl) (hik : decide (i < k) = true := by rfl)
    (hQ : ∀ c a w, Q (.panic c) (a.put oi.dst v) w → Q (.panic c) a w := by exact fun _ _ _ h => h) (hS : S w := by assumption) : wpAnyL P md ops Q S k (fuel + 1) listed a w :=
  wpAnyL_pure hi hs hf hr hik hQ hy hS h
theorem wpAnyL_t (i : Nat) {oi : Oper} {v : Value} {fuel : Nat} {listed : Array Bool} {a : Act} {w : World} (hi : ops[i]? = some oi) (hy : YieldsIf P ops S oi v a)
    (h : wpAnyL P md ops Q S k fuel (listed.setIfInBounds i true) (a.put oi.dst v) w)
    (hs : Region.noSelect ops = true := by kernel_rfl) (hf : Region.free md ops listed i = true := by kernel_rfl) (hr : (Region.ready md ops listed).contains i = true := by kernel_rfl) (hb : blockedB md ops i k (fuel + 1) listed = true := by kernel_rfl) (hl : lateB k listed = false := by kernel_rfl) (hik : decide (i < k) = true := by rfl)
    (hQ : ∀ c a w, Q (.panic c) (a.put oi.dst v) w → Q (.panic c) a w := by exact fun _ _ _ h => h) (hS : S w := by assumption) : wpAnyL P md ops Q S k (fuel + 1) listed a w :=
  wpAnyL_take hi hs hf hr hb hl hik hQ hy hS h
/-- Each of these comes up next. -/
def AllReadyL (P : Program) (md : Region.Mode) (ops : Array Oper) (Q : Exit → Act → World → Prop) (S : World → Prop) (k fuel : Nat) (listed : Array Bool) (a : Act) (w : World) (rs : List Nat) : Prop :=
  ∀ i ∈ rs, wpOp P ops Q i (fun a' w' => (lateB k (listed.setIfInBounds i true) = true ∨ S w') ∧ wpAnyL P md ops Q S k fuel (listed.setIfInBounds i true) a' w') a w
theorem AllReadyL.nil {fuel : Nat} {listed : Array Bool} {a : Act} {w : World} : AllReadyL P md ops Q S k fuel listed a w [] := fun _ h => by cases h
/-- .. ahead of k. -/
theorem AllReadyL.early {fuel : Nat} {listed : Array Bool} {a : Act} {w : World} {i : Nat} {o : Oper} {rs : List Nat} (ho : ops[i]? = some o)
    (h : ∀ K' : Act → World → Prop, Shut (∀ a w, S w → (S w → wpAnyL P md ops Q S k fuel (listed.setIfInBounds i true) a w) → K' a w) → if Region.wanted o (yielded ops a.tmps) = true then Oper.wp P o a w K' Q else K' (a.put o.dst undef) w)
    (hs : AllReadyL P md ops Q S k fuel listed a w rs) : AllReadyL P md ops Q S k fuel listed a w (i :: rs) := fun j hj => by
  rcases List.mem_cons.1 hj with rfl | hj
  · exact wpOp_step ho (fun K' hK => h K' (fun a w hS hW => hK a w ⟨.inr hS, hW hS⟩))
  · exact hs j hj
/-- .. k, or behind it. -/
theorem AllReadyL.late {fuel : Nat} {listed : Array Bool} {a : Act} {w : World} {i : Nat} {o : Oper} {rs : List Nat} (ho : ops[i]? = some o) (hl : lateB k (listed.setIfInBounds i true) = true)
    (h : ∀ K' : Act → World → Prop, Shut (∀ a w, wpAnyL P md ops Q S k fuel (listed.setIfInBounds i true) a w → K' a w) → if Region.wanted o (yielded ops a.tmps) = true then Oper.wp P o a w K' Q else K' (a.put o.dst undef) w)
    (hs : AllReadyL P md ops Q S k fuel listed a w rs) : AllReadyL P md ops Q S k fuel listed a w (i :: rs) := fun j hj => by
  rcases List.mem_cons.1 hj with rfl | hj
  · exact wpOp_step ho (fun K' hK => h K' (fun a w hW => hK a w ⟨.inl hl, hW⟩))
  · exact hs j hj
theorem wpAnyL_ready {rs : List Nat} {fuel : Nat} {listed : Array Bool} {a : Act} {w : World} (hr : Region.ready md ops listed = rs) (hne : rs ≠ [])
    (h : AllReadyL P md ops Q S k fuel listed a w rs) : wpAnyL P md ops Q S k (fuel + 1) listed a w := ⟨fun h0 => absurd (hr ▸ h0) hne, hr ▸ h⟩
theorem wpAnyL_done {listed : Array Bool} {a : Act} {w : World} (hr : Region.ready md ops listed = []) (h : Q .normal a w) :
    ∀ fuel, wpAnyL P md ops Q S k fuel listed a w
  | 0 => ⟨hr, h⟩
  | _ + 1 => ⟨fun _ => h, by rw [hr]; simp⟩
theorem wp_region_late {id : Nat} {a : Act} {w : World} (k : Nat) (hm : P.follows .mixedOrders = true) (hS : S w.drew)
    (h : S w.drew → wpAnyL P .any ops Q S k ops.size (Array.replicate ops.size false) a w.drew) : (Code.region id ops true).wp P Q a w :=
  wp_region_any hm (wpAny_of_late _ _ _ _ (h hS))
end

end Big
end
section
open Go.RowKit
namespace Big
/-- A whole number at the head of a block. -/
def Ia (w : World) (g : Nat) (n : Int) : Prop := ∃ v R T, Bk w g (.bool (decide (n < 0)) :: v :: R) T ∧ Wd w v (words n.natAbs)
theorem In.ia {T : Nat} {w : World} {g : Nat} {n : Int} (h : In T w g n) : Ia w g n := by
  obtain ⟨v, h1, h2⟩ := h
  exact ⟨v, [], T, h1, h2⟩
theorem Ra.ia {R : Nat} {w : World} {g : Nat} {r : _root_.Rat} (h : Ra R w g r) : Ia w g r.num := by
  obtain ⟨v, d, h1, h2, -⟩ := h
  exact ⟨v, [d], R, h1, h2⟩
theorem Ia.below {w w' : World} {g : Nat} {n : Int} (h : Ia w g n) (b : Below w.heap.size w w') : Ia w' g n := by
  obtain ⟨v, R, T, h1, h2⟩ := h
  exact ⟨v, R, T, h1.below b, h2.below b⟩
theorem Ia.lt {w : World} {g : Nat} {n : Int} (h : Ia w g n) : g < w.heap.size := by
  obtain ⟨v, R, T, h1, -⟩ := h
  exact h1.lt
/-- What a whole number has become. -/
def Iz (R : List Value) (T : Nat) (w : World) (g : Nat) (n : Int) : Prop := ∃ v, Bk w g (.bool (decide (n < 0)) :: v :: R) T ∧ Wd w v (words n.natAbs)
theorem Iz.in {T : Nat} {w : World} {g : Nat} {n : Int} (h : Iz [] T w g n) : In T w g n := h
theorem Iz.ia {T : Nat} {R : List Value} {w : World} {g : Nat} {n : Int} (h : Iz R T w g n) : Ia w g n := by
  obtain ⟨v, h1, h2⟩ := h
  exact ⟨v, R, T, h1, h2⟩
end Big
end
section
open Go.RowKit
namespace Big
theorem sg_tdiv (x y : Int) : sg (!(decide (x < 0) == decide (y < 0))) (x.natAbs / y.natAbs) = x.tdiv y := by
  conv => rhs; rw [sg_of x, sg_of y]
  generalize x.natAbs = a
  generalize y.natAbs = b
  by_cases h1 : x < 0 <;> by_cases h2 : y < 0 <;> simp [h1, h2, sg, Int.neg_tdiv, Int.tdiv_neg]
theorem sg_mul' (x y : Int) : sg (!(decide (x < 0) == decide (y < 0))) (x.natAbs * y.natAbs) = x * y := sg_mul x y
set_option maxRecDepth 100000 in
set_option maxHeartbeats 16000000 in
theorem biMul (gz gx gy T : Nat) (z0 z1 : Value) (R : List Value) (x y : Int) (w : World) (hz : Bk w gz (z0 :: z1 :: R) T) (hx : Ia w gx x) (hy : Ia w gy y) (ln : (words x.natAbs).length + (words y.natAbs).length ≤ 137438953472) (s : Int) (hs : s = x * y) :
    Calls Tryz.prog 41 #[.pointer (some ⟨gz, 0, none⟩), .pointer (some ⟨gx, 0, none⟩), .pointer (some ⟨gy, 0, none⟩)] w fun e w' => e = .returned (.pointer (some ⟨gz, 0, none⟩)) ∧ Iz R T w' gz s ∧ Keeps w.heap.size [gz] w w' := by
  obtain ⟨vx, Rx, Tx, bx, wx⟩ := hx
  obtain ⟨vy, Ry, Ty, by_, wy⟩ := hy
  have hm : x.natAbs * y.natAbs = s.natAbs := by rw [hs, Int.natAbs_mul]
  have MU := hid (fun w' (h : Below w.heap.size w w') => bmulW vx vy x.natAbs y.natAbs w' (wx.below h) (wy.below h) ln)
  have SE := hid (fun v w' (h : Below w.heap.size w w') (q : Wd w' v (words (x.natAbs * y.natAbs))) => biset gz T z0 z1 R (!(decide (x < 0) == decide (y < 0))) v (x.natAbs * y.natAbs) w' (hz.below h) q (by have := mul_len x.natAbs y.natAbs; omega))
  rw [← sg_neg, sg_mul', ← hs] at SE
  rw [hm] at SE MU
  unfold Iz
  obtain ⟨ax, cx, rfl, -, -⟩ := wx.form
  obtain ⟨ay, cy, rfl, -, -⟩ := wy.form
  have BX := hid bx
  have BY := hid by_
  have x0 := bx.cell (i := 0) rfl
  have x1 := bx.cell (i := 1) rfl
  have y0 := by_.cell (i := 0) rfl
  have y1 := by_.cell (i := 1) rfl
  haveI : Has w gx := ⟨bx.lt⟩
  haveI : Has w gy := ⟨by_.lt⟩
  clear hs hm bx by_ wx wy hz ln
  generalize (words x.natAbs).length = kx at *
  generalize (words y.natAbs).length = ky at *
  generalize decide (s < 0) = ns at *
  generalize decide (x < 0) = nx at *
  generalize decide (y < 0) = ny at *
  go_enter Tryz.func41, Tryz.ntmps41
  go_wp2_with fail
  refine wp_region_late (S := (fun W => W.cell? ⟨gx, 0, none⟩ = some (.bool nx) ∧ W.cell? ⟨gx, 1, none⟩ = some (.slice ax kx cx) ∧ W.cell? ⟨gy, 0, none⟩ = some (.bool ny) ∧ W.cell? ⟨gy, 1, none⟩ = some (.slice ay ky cy))) 19 (by kernel_rfl) ?_ (fun hHeld => ?_)
  · (refine ⟨?_, ?_, ?_, ?_⟩ <;> (first | assumption | (simp [go_sem, *]; done)))
  refine wpAnyL_p 0 (v := ?_) rfl (Or.inl ⟨by rfl, ?_⟩) ?_
  rotate_left
  · intro w hSw
    (try dsimp only at hSw)
    go_simp
    all_goals (with_reducible rfl)
  try simp only [Act.put, List.setIfInBounds_toArray, List.set_cons_zero, List.set_cons_succ]
  refine wpAnyL_p 1 (v := ?_) rfl (Or.inl ⟨by rfl, ?_⟩) ?_
  rotate_left
  · intro w hSw
    (try dsimp only at hSw)
    go_simp
    all_goals (with_reducible rfl)
  try simp only [Act.put, List.setIfInBounds_toArray, List.set_cons_zero, List.set_cons_succ]
  refine wpAnyL_p 2 (v := ?_) rfl (Or.inl ⟨by rfl, ?_⟩) ?_
  rotate_left
  · intro w hSw
    (try dsimp only at hSw)
    go_simp
    all_goals (with_reducible rfl)
  try simp only [Act.put, List.setIfInBounds_toArray, List.set_cons_zero, List.set_cons_succ]
  refine wpAnyL_p 3 (v := ?_) rfl (Or.inl ⟨by rfl, ?_⟩) ?_
  rotate_left
  · intro w hSw
    (try dsimp only at hSw)
    go_simp
    all_goals (with_reducible rfl)
  try simp only [Act.put, List.setIfInBounds_toArray, List.set_cons_zero, List.set_cons_succ]
  refine wpAnyL_p 5 (v := ?_) rfl (Or.inl ⟨by rfl, ?_⟩) ?_
  rotate_left
  · intro w hSw
    (try dsimp only at hSw)
    go_simp
    all_goals (with_reducible rfl)
  try simp only [Act.put, List.setIfInBounds_toArray, List.set_cons_zero, List.set_cons_succ]
  refine wpAnyL_p 6 (v := ?_) rfl (Or.inl ⟨by rfl, ?_⟩) ?_
  rotate_left
  · intro w hSw
    (try dsimp only at hSw)
    go_simp
    all_goals (with_reducible rfl)
  try simp only [Act.put, List.setIfInBounds_toArray, List.set_cons_zero, List.set_cons_succ]
  refine wpAnyL_p 7 (v := ?_) rfl (Or.inl ⟨by rfl, ?_⟩) ?_
  rotate_left
  · intro w hSw
    (try dsimp only at hSw)
    go_simp
    all_goals (with_reducible rfl)
  try simp only [Act.put, List.setIfInBounds_toArray, List.set_cons_zero, List.set_cons_succ]
  refine wpAnyL_p 10 (v := ?_) rfl (Or.inl ⟨by rfl, ?_⟩) ?_
  rotate_left
  · intro w hSw
    (try dsimp only at hSw)
    go_simp
    all_goals (with_reducible rfl)
  try simp only [Act.put, List.setIfInBounds_toArray, List.set_cons_zero, List.set_cons_succ]
  refine wpAnyL_p 11 (v := ?_) rfl (Or.inl ⟨by rfl, ?_⟩) ?_
  rotate_left
  · intro w hSw
    (try dsimp only at hSw)
    go_simp
    all_goals (with_reducible rfl)
  try simp only [Act.put, List.setIfInBounds_toArray, List.set_cons_zero, List.set_cons_succ]
  refine wpAnyL_p 12 (v := ?_) rfl (Or.inl ⟨by rfl, ?_⟩) ?_
  rotate_left
  · intro w hSw
    (try dsimp only at hSw)
    go_simp
    all_goals (with_reducible rfl)
  try simp only [Act.put, List.setIfInBounds_toArray, List.set_cons_zero, List.set_cons_succ]
  refine wpAnyL_p 14 (v := ?_) rfl (Or.inl ⟨by rfl, ?_⟩) ?_
  rotate_left
  · intro w hSw
    (try dsimp only at hSw)
    go_simp
    all_goals (with_reducible rfl)
  try simp only [Act.put, List.setIfInBounds_toArray, List.set_cons_zero, List.set_cons_succ]
  refine wpAnyL_p 15 (v := ?_) rfl (Or.inl ⟨by rfl, ?_⟩) ?_
  rotate_left
  · intro w hSw
    (try dsimp only at hSw)
    go_simp
    all_goals (with_reducible rfl)
  try simp only [Act.put, List.setIfInBounds_toArray, List.set_cons_zero, List.set_cons_succ]
  refine wpAnyL_p 16 (v := ?_) rfl (Or.inl ⟨by rfl, ?_⟩) ?_
  rotate_left
  · intro w hSw
    (try dsimp only at hSw)
    go_simp
    all_goals (with_reducible rfl)
  try simp only [Act.put, List.setIfInBounds_toArray, List.set_cons_zero, List.set_cons_succ]
  refine wpAnyL_t 4 (v := ?_) rfl (Or.inl ⟨by rfl, ?_⟩) ?_
  rotate_left
  · intro w hSw
    (try dsimp only at hSw)
    go_simp
    all_goals (with_reducible rfl)
  try simp only [Act.put, List.setIfInBounds_toArray, List.set_cons_zero, List.set_cons_succ]
  refine wpAnyL_t 8 (v := ?_) rfl (Or.inl ⟨by rfl, ?_⟩) ?_
  rotate_left
  · intro w hSw
    (try dsimp only at hSw)
    go_simp
    all_goals (with_reducible rfl)
  try simp only [Act.put, List.setIfInBounds_toArray, List.set_cons_zero, List.set_cons_succ]
  refine wpAnyL_p 9 (v := ?_) rfl (Or.inl ⟨by rfl, ?_⟩) ?_
  rotate_left
  · intro w hSw
    (try dsimp only at hSw)
    go_simp
    all_goals (with_reducible rfl)
  try simp only [Act.put, List.setIfInBounds_toArray, List.set_cons_zero, List.set_cons_succ]
  refine wpAnyL_t 13 (v := ?_) rfl (Or.inl ⟨by rfl, ?_⟩) ?_
  rotate_left
  · intro w hSw
    (try dsimp only at hSw)
    go_simp
    all_goals (with_reducible rfl)
  try simp only [Act.put, List.setIfInBounds_toArray, List.set_cons_zero, List.set_cons_succ]
  refine wpAnyL_t 17 (v := ?_) rfl (Or.inl ⟨by rfl, ?_⟩) ?_
  rotate_left
  · intro w hSw
    (try dsimp only at hSw)
    go_simp
    all_goals (with_reducible rfl)
  try simp only [Act.put, List.setIfInBounds_toArray, List.set_cons_zero, List.set_cons_succ]
  refine wpAnyL_ready (rs := [18]) (by kernel_rfl) (by simp) ?_
  refine AllReadyL.early rfl (fun K hK => ?_) AllReadyL.nil
  go_simp
  (go_at_call 82; (with_reducible refine (MU.out _ ?_).mono ?_); (focus (first | exact Below.refl _ _ | exact Below.drew (Below.refl _ _))); rintro e w1 ⟨v1, rfl, h1, -, hq1⟩; have hb1 : Below w.heap.size w w1 := (by first | exact hq1 | exact Below.trans (Below.drew (Below.refl w.heap.size w)) hq1); have x01 := (BX.out.below hb1).cell (i := 0) rfl; have x11 := (BX.out.below hb1).cell (i := 1) rfl; have y01 := (BY.out.below hb1).cell (i := 0) rfl; have y11 := (BY.out.below hb1).cell (i := 1) rfl)
  refine hK.out _ _ ?_ (fun hHeld => ?_)
  · (refine ⟨?_, ?_, ?_, ?_⟩ <;> (first | assumption | (simp [go_sem, *]; done)))
  clear hK K
  try simp only [Act.put, List.setIfInBounds_toArray, List.set_cons_zero, List.set_cons_succ]
  refine wpAnyL_ready (rs := [19]) (by kernel_rfl) (by simp) ?_
  refine AllReadyL.late rfl (by kernel_rfl) (fun K hK => ?_) AllReadyL.nil
  go_simp
  (go_at_call 81; (with_reducible refine (SE.out _ _ hb1 h1).mono ?_); rintro e w2 ⟨v2, rfl, hB2, hV2, -, hk2⟩)
  refine hK.out _ _ ?_
  clear hK K
  try simp only [Act.put, List.setIfInBounds_toArray, List.set_cons_zero, List.set_cons_succ]
  refine wpAnyL_ready (rs := [20]) (by kernel_rfl) (by simp) ?_
  refine AllReadyL.late rfl (by kernel_rfl) (fun K hK => ?_) AllReadyL.nil
  go_simp
  refine hK.out _ _ ?_
  clear hK K
  try simp only [Act.put, List.setIfInBounds_toArray, List.set_cons_zero, List.set_cons_succ]
  refine wpAnyL_done (by kernel_rfl) ?_ _
  go_wp2_with fail
  go_ret
  exact ⟨rfl, ⟨v2, hB2, hV2⟩, (Keeps.of_below hb1).trans (hk2.mono hb1.size (fun _ _ h => h))⟩
end Big
end
end Go.Proofs.YtcoillcppmibgaaGreatDoor
