/- What floats are worth: lengths. What floats are worth: the square root of a square. What floats are worth: a quotient. What floats are worth: grids, quotients. What floats are worth: complex quotients. What floats are worth: the complex quotient. -/
import Derived.Test.YtcoillcppmibgaaGreatDoorD15
set_option linter.unusedSimpArgs false
set_option linter.unusedVariables false
namespace Go.Proofs.YtcoillcppmibgaaGreatDoor
section
open Go.RowKit
theorem qabs_pow (x : Q) (n : Int) : qabs (x * (2 : Q) ^ n) = qabs x * (2 : Q) ^ n := by
  have t := two_pos n
  unfold qabs
  by_cases k : x < 0
  · have : x * (2 : Q) ^ n < 0 := by
      have := Rat.mul_lt_mul_of_pos_right k t
      grind
    rw [if_pos k, if_pos this]
    grind
  · have : ¬ x * (2 : Q) ^ n < 0 := by
      have := Rat.mul_nonneg (show 0 ≤ x by grind) (Rat.le_of_lt t)
      grind
    rw [if_neg k, if_neg this]
theorem q_lt {a b c : Q} (h : a ≤ b) (k : b < c) : a < c := by grind
theorem qabs_zero {x : Q} (h : qabs x = 0) : x = 0 := by
  unfold qabs at h
  split at h <;> grind
theorem qabs_pos {x : Q} (h : x ≠ 0) : 0 < qabs x := by
  unfold qabs
  split <;> grind
theorem Nn.abs {b : Nat} (h : Nn b) (hb : b < 18446744073709551616) : Nn (fabs b) := by
  rw [fabs_eq hb]
  unfold Nn at *
  rw [Nat.mod_mod]
  exact h
/-- Nought, or neither too small nor too great. -/
def Md (x : Q) : Prop := x = 0 ∨ ((2 : Q) ^ (-220 : Int) ≤ qabs x ∧ qabs x ≤ (2 : Q) ^ (200 : Int))
theorem Md.top {x : Q} (h : Md x) : qabs x ≤ (2 : Q) ^ (200 : Int) := by
  rcases h with rfl | h
  · have := two_pos 200
    have z : qabs 0 = 0 := by decide
    rw [z]
    exact Rat.le_of_lt this
  · exact h.2
theorem max_v : Fv 9218868437227405311 (((9007199254740991 : Nat) : Q) * (2 : Q) ^ (971 : Int)) := Fv_c 9218868437227405311 9007199254740991 971 (by decide) (by decide +kernel)
theorem max_big : (2 : Q) ^ (900 : Int) ≤ ((9007199254740991 : Nat) : Q) * (2 : Q) ^ (971 : Int) := by
  have h := Rat.mul_le_mul_of_nonneg_right (Rat.natCast_le_natCast.2 (show 1 ≤ 9007199254740991 by decide)) (Rat.le_of_lt (two_pos 971))
  refine Rat.le_trans ?_ h
  rw [show ((1 : Nat) : Q) = 1 from rfl, Rat.one_mul]
  exact zp_mono (by decide)
theorem fin_v {a : Nat} {x : Q} (ha : Fv a x) (h : qabs x ≤ (2 : Q) ^ (900 : Int)) : fgt (fabs a) 9218868437227405311 = false ∧ fgt a 9218868437227405311 = false ∧ fgt (Op.negFloat .f64 a) 9218868437227405311 = false ∧ feq a a = true ∧ fle (fabs a) 9218868437227405311 = true := by
  have m := Rat.le_trans h max_big
  have q1 : x ≤ qabs x := by unfold qabs; split <;> grind
  have q2 : -x ≤ qabs x := by unfold qabs; split <;> grind
  refine ⟨?_, ?_, ?_, ?_, ?_⟩
  · rw [ha.abs.fgt max_v]; exact decide_eq_false (by grind)
  · rw [ha.fgt max_v]; exact decide_eq_false (by grind)
  · rw [ha.neg.fgt max_v]; exact decide_eq_false (by grind)
  · rw [ha.feq ha]; exact decide_eq_true rfl
  · rw [ha.abs.fle max_v]; exact decide_eq_true m
/-- The greater part. -/
theorem cgreat_v {a b : Nat} {x y : Q} (ha : Fv a x) (na : Nn a) (hb : Fv b y) (nb : Nn b) : ∃ G, Fv (cgreat a b) G ∧ Nn (cgreat a b) ∧ qabs x ≤ G ∧ qabs y ≤ G ∧ (G = qabs x ∨ G = qabs y) := by
  unfold cgreat
  rw [hb.abs.fgt ha.abs]
  by_cases h : qabs x < qabs y
  · rw [decide_eq_true h, if_pos rfl]
    exact ⟨_, hb.abs, nb.abs hb.1, by grind, by grind, .inr rfl⟩
  · rw [decide_eq_false h, if_neg (by decide)]
    exact ⟨_, ha.abs, na.abs ha.1, by grind, by grind, .inl rfl⟩
theorem sq_mag (x : Q) : x * x = qabs x * qabs x := by unfold qabs; split <;> grind
theorem sq_in {x : Q} (h : x = 0 ∨ ((2 : Q) ^ (-430 : Int) ≤ qabs x ∧ qabs x ≤ 1)) : InR (x * x) ∧ 0 ≤ x * x ∧ x * x ≤ 1 := by
  rcases h with rfl | ⟨h1, h2⟩
  · refine ⟨.inl (by grind), by grind, by grind⟩
  · have p := two_pos (-430)
    have e1 : (2 : Q) ^ (-430 : Int) * (2 : Q) ^ (-430 : Int) = (2 : Q) ^ (-860 : Int) := by rw [← zp_add]; rfl
    have e2 := zp_mono (a := -1000) (b := -860) (by decide)
    have e3 := zp_mono (a := 0) (b := 1000) (by decide)
    rw [Rat.zpow_zero] at e3
    rw [sq_mag]
    have h0 := qabs_nn x
    generalize qabs x = X at *
    have m0 := Rat.mul_nonneg h0 h0
    unfold InR
    have m1 : 0 ≤ (X - (2 : Q) ^ (-430 : Int)) * (X + (2 : Q) ^ (-430 : Int)) := Rat.mul_nonneg (by grind) (by grind)
    have m2 : 0 ≤ (1 - X) * (1 + X) := Rat.mul_nonneg (by grind) (by grind)
    generalize (2 : Q) ^ (-430 : Int) = p1 at *
    generalize (2 : Q) ^ (-860 : Int) = p2 at *
    generalize (2 : Q) ^ (-1000 : Int) = p3 at *
    generalize (2 : Q) ^ (1000 : Int) = p4 at *
    refine ⟨.inr (.inl ⟨by grind, by grind⟩), by grind, by grind⟩
theorem clen_v {a b : Nat} {x y : Q} (ha : Fv a x) (na : Nn a) (hb : Fv b y) (nb : Nn b) (mx : Md x) (my : Md y) : ∃ r z, clen a b = some r ∧ Fv r z ∧ (∀ e : Int, qabs x ≤ (2 : Q) ^ e → qabs y ≤ (2 : Q) ^ e → z ≤ (2 : Q) ^ (e + 3)) := by
  have e9 := zp_mono (a := 200) (b := 900) (by decide)
  obtain ⟨a1, -, -, a4, -⟩ := fin_v ha (Rat.le_trans mx.top e9)
  obtain ⟨b1, -, -, b4, -⟩ := fin_v hb (Rat.le_trans my.top e9)
  obtain ⟨G, g1, g2, g3, g4, g5⟩ := cgreat_v ha na hb nb
  unfold clen
  rw [a1, b1, a4, b4, if_neg (by decide), g1.feq Fv_0]
  by_cases hG : G = 0
  · rw [decide_eq_true hG, if_pos rfl]
    exact ⟨0, 0, rfl, Fv_0, fun e _ _ => Rat.le_of_lt (two_pos _)⟩
  · rw [decide_eq_false hG, if_neg (by decide)]
    have hGp : 0 < G := by
      have := qabs_nn x
      grind
    have hGq : qabs G = G := qabs_of G (Rat.le_of_lt hGp)
    obtain ⟨f, hf1, hf2, hf3⟩ := frx_v g2 g1 hG
    rw [hGq] at hf2 hf3
    obtain ⟨k, hk⟩ : ∃ k, k = f.2 := ⟨_, rfl⟩
    rw [← hk] at hf2 hf3
    have hGt : G ≤ (2 : Q) ^ (200 : Int) := by
      rcases g5 with h | h
      · rw [h]; exact mx.top
      · rw [h]; exact my.top
    have hGl : (2 : Q) ^ (-220 : Int) ≤ G := by
      rcases g5 with h | h
      · rcases mx with m | m
        · exfalso
          apply hG
          rw [h, m]
          decide
        · rw [h]; exact m.1
      · rcases my with m | m
        · exfalso
          apply hG
          rw [h, m]
          decide
        · rw [h]; exact m.1
    have k1 := zp_le_iff (Rat.le_trans hf2 hGt)
    have k2 := zp_lt_iff (q_lt hGl hf3)
    have hp := two_pos (-k)
    have hk1 : G * (2 : Q) ^ (-k) < 1 := by
      have := Rat.mul_lt_mul_of_pos_right hf3 hp
      rw [← zp_add, show k + -k = 0 by omega, Rat.zpow_zero] at this
      exact this
    have hk2 : 1 / 2 ≤ G * (2 : Q) ^ (-k) := by
      have := Rat.mul_le_mul_of_nonneg_right hf2 (Rat.le_of_lt hp)
      rw [← zp_add, show k - 1 + -k = -1 by omega, Rat.zpow_neg, Rat.zpow_one] at this
      have e2 : (2 : Q)⁻¹ = 1 / 2 := by grind
      rwa [e2] at this
    have hlow : (2 : Q) ^ (-430 : Int) ≤ (2 : Q) ^ (-220 : Int) * (2 : Q) ^ (-k) := by
      rw [← zp_add]
      exact zp_mono (by omega)
    have sc : ∀ v : Q, Md v → qabs v ≤ G → (v = 0 ∨ ((2 : Q) ^ (-1000 : Int) ≤ qabs (v * (2 : Q) ^ (-k)) ∧ qabs (v * (2 : Q) ^ (-k)) ≤ (2 : Q) ^ (1000 : Int))) ∧ (v * (2 : Q) ^ (-k) = 0 ∨ ((2 : Q) ^ (-430 : Int) ≤ qabs (v * (2 : Q) ^ (-k)) ∧ qabs (v * (2 : Q) ^ (-k)) ≤ 1)) := by
      intro v hv hvG
      rcases hv with rfl | hv
      · exact ⟨.inl rfl, .inl (Rat.zero_mul _)⟩
      · have h1 : qabs (v * (2 : Q) ^ (-k)) ≤ 1 := by
          rw [qabs_pow]
          have := Rat.mul_le_mul_of_nonneg_right hvG (Rat.le_of_lt hp)
          grind
        have h2 : (2 : Q) ^ (-430 : Int) ≤ qabs (v * (2 : Q) ^ (-k)) := by
          rw [qabs_pow]
          exact Rat.le_trans hlow (Rat.mul_le_mul_of_nonneg_right hv.1 (Rat.le_of_lt hp))
        have e1 := zp_mono (a := -1000) (b := -430) (by decide)
        have e2 := zp_mono (a := 0) (b := 1000) (by decide)
        rw [Rat.zpow_zero] at e2
        exact ⟨.inr ⟨Rat.le_trans e1 h2, Rat.le_trans h1 e2⟩, .inr ⟨h2, h1⟩⟩
    obtain ⟨sx1, sx2⟩ := sc x mx g3
    obtain ⟨sy1, sy2⟩ := sc y my g4
    obtain ⟨xa, l1, l2, l3⟩ := ldx_v (n := -k) na ha (by omega) (by omega) sx1
    obtain ⟨ya, m1, m2, m3⟩ := ldx_v (n := -k) nb hb (by omega) (by omega) sy1
    have hbig : qabs (x * (2 : Q) ^ (-k)) = G * (2 : Q) ^ (-k) ∨ qabs (y * (2 : Q) ^ (-k)) = G * (2 : Q) ^ (-k) := by
      rw [qabs_pow, qabs_pow]
      rcases g5 with h | h
      · left; rw [h]
      · right; rw [h]
    generalize x * (2 : Q) ^ (-k) = X at *
    generalize y * (2 : Q) ^ (-k) = Y at *
    obtain ⟨iX, X0, X1⟩ := sq_in sx2
    obtain ⟨iY, Y0, Y1⟩ := sq_in sy2
    have hsum : 1 / 4 ≤ X * X + Y * Y := by
      have hh : ∀ T : Q, 1 / 2 ≤ T → 1 / 4 ≤ T * T := fun T hT => by
        have : 0 ≤ (T - 1 / 2) * (T + 1 / 2) := Rat.mul_nonneg (by grind) (by grind)
        grind
      rcases hbig with h | h
      · have := hh (qabs X) (by rw [h]; exact hk2)
        rw [← sq_mag] at this
        grind
      · have := hh (qabs Y) (by rw [h]; exact hk2)
        rw [← sq_mag] at this
        grind
    obtain ⟨q1, q2, q3⟩ := qu_small
    have qs : qu ≤ 1 / 100 := by unfold qu; grind
    obtain ⟨p, P, dp, r1, r2, -, r4, r5, -⟩ := mul_v l2 l2 iX
    obtain ⟨q, Qv, dq, s1, s2, -, s4, s5, -⟩ := mul_v m2 m2 iY
    have hP : 99 / 100 * (X * X) ≤ P ∧ P ≤ 101 / 100 * (X * X) := by
      have d1 := r5.1
      have d2 := r5.2
      have u1 : 0 ≤ (X * X) * (dp + 1 / 100) := Rat.mul_nonneg X0 (by grind)
      have u2 : 0 ≤ (X * X) * (1 / 100 - dp) := Rat.mul_nonneg X0 (by grind)
      rw [r4]
      generalize X * X = XX at *
      constructor <;> grind
    have hQ : 99 / 100 * (Y * Y) ≤ Qv ∧ Qv ≤ 101 / 100 * (Y * Y) := by
      have d1 := s5.1
      have d2 := s5.2
      have u1 : 0 ≤ (Y * Y) * (dq + 1 / 100) := Rat.mul_nonneg Y0 (by grind)
      have u2 : 0 ≤ (Y * Y) * (1 / 100 - dq) := Rat.mul_nonneg Y0 (by grind)
      rw [s4]
      generalize Y * Y = YY at *
      constructor <;> grind
    have hPQ : 1 / 8 ≤ P + Qv ∧ P + Qv ≤ 3 := by
      clear r4 s4
      generalize X * X = XX at *
      generalize Y * Y = YY at *
      constructor <;> grind
    have two1 : ∀ T : Q, 1 / 64 ≤ T → T ≤ 64 → (2 : Q) ^ (-800 : Int) ≤ T ∧ T ≤ (2 : Q) ^ (800 : Int) ∧ InR T := by
      intro T h1 h2
      have c1 := zp_mono (a := -800) (b := -6) (by decide)
      have c2 := zp_mono (a := 6) (b := 800) (by decide)
      have c3 := zp_mono (a := -1000) (b := -800) (by decide)
      have c4 := zp_mono (a := 800) (b := 1000) (by decide)
      have c5 : (2 : Q) ^ (-6 : Int) = 1 / 64 := by decide +kernel
      have c6 : (2 : Q) ^ (6 : Int) = 64 := by decide +kernel
      rw [c5] at c1
      rw [c6] at c2
      unfold InR
      generalize (2 : Q) ^ (-800 : Int) = p1 at *
      generalize (2 : Q) ^ (800 : Int) = p2 at *
      generalize (2 : Q) ^ (-1000 : Int) = p3 at *
      generalize (2 : Q) ^ (1000 : Int) = p4 at *
      refine ⟨by grind, by grind, .inr (.inl ⟨by grind, by grind⟩)⟩
    obtain ⟨s, S, ds, t1, t2, -, t4, t5, -⟩ := add_v r2 s2 (two1 _ (by grind) (by grind)).2.2
    have hS : 1 / 16 ≤ S ∧ S ≤ 4 := by
      have d1 := t5.1
      have d2 := t5.2
      have u1 : 0 ≤ (P + Qv) * (ds + 1 / 100) := Rat.mul_nonneg (by grind) (by grind)
      have u2 : 0 ≤ (P + Qv) * (1 / 100 - ds) := Rat.mul_nonneg (by grind) (by grind)
      rw [t4]
      generalize P + Qv = PQ at *
      constructor <;> grind
    obtain ⟨o1, o2, -⟩ := two1 S (by grind) (by grind)
    obtain ⟨v, V, w1, w2, w3, w4, w5, -, w7⟩ := sqrt_v t2 o1 o2
    have hV1 := w5 2 (by grind) (by grind)
    have hV2 := w7 (1 / 4) (by grind) (by grind)
    have hV3 : V ≤ 4 := by grind
    have hV4 : 1 / 16 ≤ V := by grind
    have hVq : qabs V = V := qabs_of V (Rat.le_of_lt w4)
    have hpk := two_pos k
    obtain ⟨r, y1, y2, -⟩ := ldx_v (n := k) w3 w2 (by omega) (by omega) (.inr (by
      rw [qabs_pow, hVq]
      have c5 : (2 : Q) ^ (-4 : Int) = 1 / 16 := by decide +kernel
      have c6 : (2 : Q) ^ (2 : Int) = 4 := by decide +kernel
      rw [← c5] at hV4
      rw [← c6] at hV3
      have m1 := Rat.mul_le_mul_of_nonneg_right hV4 (Rat.le_of_lt hpk)
      have m2 := Rat.mul_le_mul_of_nonneg_right hV3 (Rat.le_of_lt hpk)
      rw [← zp_add] at m1 m2
      exact ⟨Rat.le_trans (zp_mono (by omega)) m1, Rat.le_trans m2 (zp_mono (by omega))⟩))
    refine ⟨r, _, ?_, y2, fun e he1 he2 => ?_⟩
    · unfold cscaled csq
      rw [hf1]
      simp only [Option.bind_some]
      rw [← hk, l1]
      simp only [Option.bind_some]
      rw [m1]
      simp only [Option.bind_some]
      rw [r1]
      simp only [Option.bind_some]
      rw [s1]
      simp only [Option.bind_some]
      rw [t1]
      simp only [Option.bind_some]
      rw [w1]
      simp only [Option.bind_some]
      exact y1
    · have hGe : G ≤ (2 : Q) ^ e := by
        rcases g5 with h | h
        · rw [h]; exact he1
        · rw [h]; exact he2
      have k3 := zp_le_iff (Rat.le_trans hf2 hGe)
      have c6 : (2 : Q) ^ (2 : Int) = 4 := by decide +kernel
      rw [← c6] at hV3
      have m2 := Rat.mul_le_mul_of_nonneg_right hV3 (Rat.le_of_lt hpk)
      rw [← zp_add] at m2
      exact Rat.le_trans m2 (zp_mono (by omega))
end
section
open Go.RowKit
theorem zs_qabs (n e : Int) : qabs (zs n e) = zs (n.natAbs : Int) e := by
  unfold zs
  rw [qabs_pow]
  congr 1
  unfold qabs
  have h0 : ((0 : Int) : Q) = 0 := rfl
  by_cases h : n < 0
  · have : (n : Q) < 0 := by
      have := Rat.intCast_lt_intCast.2 h
      rwa [h0] at this
    rw [if_pos this, ← Rat.intCast_neg]
    congr 1
    omega
  · have : ¬ (n : Q) < 0 := by
      intro hh
      rw [← h0] at hh
      exact h (Rat.intCast_lt_intCast.1 hh)
    rw [if_neg this]
    congr 1
    omega
theorem zs_div {n m k e f : Int} (hm : m ≠ 0) (h : n = m * k) : zs n e / zs m f = zs k (e - f) := by
  have hz : zs m f ≠ 0 := fun hh => hm (zs_inj (e := f) (by rw [hh, zs_z]))
  have : zs n e = zs k (e - f) * zs m f := by
    rw [zs_mul, h]
    congr 1
    · rw [Int.mul_comm]
    · omega
  rw [this, Rat.mul_div_cancel hz]
theorem zs_lt {n m e : Int} : zs n e < zs m e ↔ n < m := by
  unfold zs
  rw [Rat.mul_lt_mul_right (two_pos e), Rat.intCast_lt_intCast]
theorem zs_le {n m e : Int} : zs n e ≤ zs m e ↔ n ≤ m := by
  unfold zs
  constructor
  · intro h
    exact Rat.intCast_le_intCast.1 (Rat.le_of_mul_le_mul_right h (two_pos e))
  · intro h
    exact Rat.mul_le_mul_of_nonneg_right (Rat.intCast_le_intCast.2 h) (Rat.le_of_lt (two_pos e))
/-- A float of a whole number. -/
structure Iz (b : Nat) (n : Int) : Prop where
  v : Fv b (zs n 0)
  n : Nn b
theorem one_pow (e : Int) : zs 1 e = (2 : Q) ^ e := by unfold zs; rw [show ((1 : Int) : Q) = 1 from rfl]; grind
theorem zs_md {n e : Int} (h : n.natAbs < 9007199254740992) (h1 : -100 ≤ e) (h2 : e ≤ 100) : Md (zs n e) := by
  by_cases h0 : n = 0
  · left; rw [h0, zs_z]
  · right
    rw [zs_qabs]
    obtain ⟨b1, b2⟩ := zs_pos_bd (n := (n.natAbs : Int)) (e := e) (by omega) (by omega)
    exact ⟨Rat.le_trans (zp_mono (by omega)) b1, Rat.le_trans b2 (zp_mono (by omega))⟩
theorem zs_small {n : Int} (h : n.natAbs < 9007199254740992) : qabs (zs n 0) ≤ (2 : Q) ^ (900 : Int) := by
  have := (zs_md (e := 0) h (by decide) (by decide)).top
  exact Rat.le_trans this (zp_mono (by decide))
theorem Iz.fin {b : Nat} {n : Int} (h : Iz b n) (hn : n.natAbs < 9007199254740992) : fin b = true := by
  obtain ⟨h1, h2, h3, h4, -⟩ := fin_v h.v (zs_small hn)
  unfold Proofs.YtcoillcppmibgaaGreatDoor.fin
  rw [h1, h2, h3, h4]
  rfl
theorem ldx_z {b : Nat} {m e k : Int} (h : Fv b (zs m e)) (n : Nn b) (hm : m.natAbs < 9007199254740992) (h1 : -300 ≤ e + k) (h2 : e + k ≤ 300) (k1 : -300 ≤ k) (k2 : k ≤ 300) : ∃ r, ldx b k = some r ∧ Fv r (zs m (e + k)) ∧ Nn r := by
  have := ldx_v (n := k) n h (by omega) (by omega) (by
    rw [zs_shift, zs_qabs]
    by_cases h0 : m = 0
    · left; rw [h0, zs_z]
    · right
      obtain ⟨b1, b2⟩ := zs_pos_bd (n := (m.natAbs : Int)) (e := e + k) (by omega) (by omega)
      exact ⟨Rat.le_trans (zp_mono (by omega)) b1, Rat.le_trans b2 (zp_mono (by omega))⟩)
  rw [zs_shift] at this
  exact this
theorem two_v : Fv 4611686018427387904 (zs 2 0) := by
  have := Fv_c 4611686018427387904 4503599627370496 (-51) (by decide) (by decide +kernel)
  have e : ((4503599627370496 : Nat) : Q) * (2 : Q) ^ (-51 : Int) = zs 2 0 := by decide +kernel
  rwa [e] at this
theorem sq_bd {p P : Int} (h1 : -P ≤ p) (h2 : p ≤ P) : p * p ≤ P * P := by
  have : 0 ≤ (P - p) * (P + p) := Int.mul_nonneg (by omega) (by omega)
  have e : (P - p) * (P + p) = P * P - p * p := by grind
  omega
theorem sq_nn (x : Int) : 0 ≤ x * x := by
  rcases Int.le_total 0 x with h | h
  · exact Int.mul_nonneg h h
  · exact Int.mul_nonneg_of_nonpos_of_nonpos h h
theorem abs_sq (x : Int) : ((x.natAbs : Int)) * (x.natAbs : Int) = x * x := by
  rcases Int.le_total 0 x with h | h
  · rw [show (x.natAbs : Int) = x by omega]
  · rw [show (x.natAbs : Int) = -x by omega]; grind
theorem zs_wide {n e : Int} (h1 : 1 ≤ n) (h2 : n < 9007199254740992) (h3 : -400 ≤ e) (h4 : e ≤ 400) : (2 : Q) ^ (-800 : Int) ≤ zs n e ∧ zs n e ≤ (2 : Q) ^ (800 : Int) := by
  obtain ⟨b1, b2⟩ := zs_pos_bd (e := e) h1 h2
  exact ⟨Rat.le_trans (zp_mono (by omega)) b1, Rat.le_trans b2 (zp_mono (by omega))⟩
theorem zs_pos {n e : Int} (h : 0 < n) : 0 < zs n e := by
  have := (zs_lt (n := 0) (m := n) (e := e)).2 h
  rwa [zs_z] at this
theorem Nn.copy {a b : Nat} (h : Nn a) (ha : a < 18446744073709551616) (hb : b < 18446744073709551616) : Nn (fcopy a b) := by
  rw [fcopy_eq ha hb]
  unfold Nn at *
  rw [show (b / 9223372036854775808 * 9223372036854775808 + a % 9223372036854775808) % 9223372036854775808 = a % 9223372036854775808 by omega]
  exact h
theorem Nn.neg {a : Nat} (h : Nn a) (ha : a < 18446744073709551616) : Nn (Op.negFloat .f64 a) := by
  rcases Nat.lt_or_ge a 9223372036854775808 with k | k
  · rw [neg_lo k]
    unfold Nn at *
    rw [show (a + 9223372036854775808) % 9223372036854775808 = a % 9223372036854775808 by omega]
    exact h
  · obtain ⟨F, rfl⟩ : ∃ F, a = F + 9223372036854775808 := ⟨a - 9223372036854775808, by omega⟩
    rw [neg_hi (by omega)]
    unfold Nn at *
    rw [show (F + 9223372036854775808) % 9223372036854775808 = F % 9223372036854775808 by omega] at h
    exact h
def sgi (s : Bool) : Int := if s then -1 else 1
set_option maxHeartbeats 8000000 in
/-- The square root of the square of a number of whole parts. -/
theorem croot_v {x y : Nat} {p q : Int} (hp : p.natAbs ≤ 2000) (hq : q.natAbs ≤ 2000) (hx : Iz x (p * p - q * q)) (hy : Iz y (2 * (p * q))) : ∃ r, croot x y = some r ∧ ∃ s, Iz r.1 (sgi s * p) ∧ Iz r.2 (sgi s * q) := by
  have pp := sq_bd (p := p) (P := 2000) (by omega) (by omega)
  have qq := sq_bd (p := q) (P := 2000) (by omega) (by omega)
  have p0 := sq_nn p
  have q0 := sq_nn q
  have pq1 := sq_nn (p - q)
  have pq2 := sq_nn (p + q)
  have e1 : (p - q) * (p - q) = p * p + q * q - 2 * (p * q) := by grind
  have e2 : (p + q) * (p + q) = p * p + q * q + 2 * (p * q) := by grind
  have hid : (p * p - q * q) * (p * p - q * q) + (2 * (p * q)) * (2 * (p * q)) = (p * p + q * q) * (p * p + q * q) := by grind
  obtain ⟨X, hX⟩ : ∃ X, X = p * p - q * q := ⟨_, rfl⟩
  obtain ⟨Y, hY⟩ : ∃ Y, Y = 2 * (p * q) := ⟨_, rfl⟩
  obtain ⟨T, hT⟩ : ∃ T, T = p * p + q * q := ⟨_, rfl⟩
  rw [← hX] at hx
  rw [← hY] at hy
  rw [← hX, ← hY, ← hT] at hid
  have bX : X.natAbs ≤ 4000000 := by omega
  have bY : Y.natAbs ≤ 8000000 := by omega
  have bT : 0 ≤ T ∧ T ≤ 8000000 := by omega
  unfold croot
  rw [hx.fin (by omega), hy.fin (by omega), if_neg (by decide)]
  have hno : nought (x, y) = (decide (X = 0) && decide (Y = 0)) := by
    unfold nought
    simp only
    rw [hx.v.feq Fv_0, hy.v.feq Fv_0]
    have : ∀ n : Int, decide (zs n 0 = 0) = decide (n = 0) := by
      intro n
      by_cases h : n = 0
      · rw [h, zs_z]; rfl
      · rw [decide_eq_false h, decide_eq_false (fun hh => h (zs_inj (e := 0) (by rw [hh, zs_z])))]
    rw [this, this]
  rw [hno]
  by_cases hz : X = 0 ∧ Y = 0
  · rw [hz.1, hz.2, if_pos (by decide)]
    have hpq : p = 0 ∧ q = 0 := by
      have hpq0 : p * q = 0 := by omega
      rcases Int.mul_eq_zero.1 hpq0 with h | h
      · subst h
        have : q * q = 0 := by omega
        rcases Int.mul_eq_zero.1 this with h | h <;> exact ⟨rfl, h⟩
      · subst h
        have : p * p = 0 := by omega
        rcases Int.mul_eq_zero.1 this with h | h <;> exact ⟨h, rfl⟩
    obtain ⟨hp0, hq0⟩ := hpq
    refine ⟨_, rfl, false, ?_, ?_⟩
    · rw [hp0, Int.mul_zero]
      exact ⟨by rw [zs_z]; exact Fv_0, .inl rfl⟩
    · rw [hq0, Int.mul_zero]
      rw [hz.2] at hy
      exact hy
  · rw [if_neg (by
      rw [Bool.and_eq_true, decide_eq_true_eq, decide_eq_true_eq]
      exact hz)]
    obtain ⟨G, g1, g2, -, -, g5⟩ := cgreat_v hx.v hx.n hy.v hy.n
    obtain ⟨g, hg, hg1, hg2⟩ : ∃ g : Int, G = zs g 0 ∧ 1 ≤ g ∧ g ≤ 8000000 := by
      obtain ⟨g', gx⟩ : ∃ g' : Int, g' = (if X.natAbs < Y.natAbs then (Y.natAbs : Int) else (X.natAbs : Int)) := ⟨_, rfl⟩
      have hxy := zs_qabs X 0
      have hyy := zs_qabs Y 0
      have hmax : G = zs g' 0 := by
        have h3 : qabs (zs X 0) ≤ G ∧ qabs (zs Y 0) ≤ G := by
          obtain ⟨G', k1, k2, k3, k4, k5⟩ := cgreat_v hx.v hx.n hy.v hy.n
          rw [g1.uniq k1]
          exact ⟨k3, k4⟩
        rw [hxy, hyy] at g5 h3
        rw [gx]
        split
        · rename_i h
          rcases g5 with h5 | h5
          · exfalso
            rw [h5] at h3
            have := zs_le.1 h3.2
            omega
          · exact h5
        · rename_i h
          rcases g5 with h5 | h5
          · exact h5
          · rw [h5] at h3
            have := zs_le.1 h3.1
            have : (X.natAbs : Int) = (Y.natAbs : Int) := by omega
            rw [this]
            exact h5
      exact ⟨g', hmax, by rw [gx]; split <;> omega, by rw [gx]; split <;> omega⟩
    obtain ⟨f, hf1, hf2, hf3⟩ := frx_v g2 g1 (by rw [hg]; have := zs_pos (n := g) (e := 0) (by omega); grind)
    obtain ⟨k, hk⟩ : ∃ k, k = f.2 := ⟨_, rfl⟩
    rw [← hk, hg, zs_qabs, show (g.natAbs : Int) = g by omega] at hf2 hf3
    have e23 : (2 : Q) ^ (23 : Int) = zs 8388608 0 := by decide +kernel
    have k1 := zp_lt_iff (q_lt (show (2 : Q) ^ (0 : Int) ≤ zs g 0 by rw [← one_pow]; exact zs_le.2 (by omega)) hf3)
    have k2 := zp_le_iff (Rat.le_trans hf2 (show zs g 0 ≤ (2 : Q) ^ (23 : Int) by rw [e23]; exact zs_le.2 (by omega)))
    obtain ⟨j, hj⟩ : ∃ j, j = k / 2 := ⟨_, rfl⟩
    have j1 : 0 ≤ j ∧ j ≤ 12 := by omega
    have hxa : Fv (fabs x) (zs (X.natAbs : Int) 0) := by
      have := hx.v.abs
      rwa [zs_qabs] at this
    have hya : Fv (fabs y) (zs (Y.natAbs : Int) 0) := by
      have := hy.v.abs
      rwa [zs_qabs] at this
    obtain ⟨a, a1, a2, a3⟩ := ldx_z (k := -2 * j) hxa (hx.n.abs hx.v.1) (by omega) (by omega) (by omega) (by omega) (by omega)
    obtain ⟨b, b1, b2, b3⟩ := ldx_z (k := -2 * j) hy.v hy.n (by omega) (by omega) (by omega) (by omega) (by omega)
    rw [show (0 : Int) + -2 * j = -2 * j by omega] at a2 b2
    have XX := abs_sq X
    have X0 := sq_nn X
    have Y0 := sq_nn Y
    have TT0 : 0 ≤ T * T := sq_nn T
    have TTb := sq_bd (p := T) (P := 8000000) (by omega) (by omega)
    obtain ⟨c, c1, c2, -⟩ := mul_x a2 a2 (zs_mul _ _ _ _) (zs_rep (by rw [XX]; omega)) (zs_inR (by rw [XX]; omega) (by omega) (by omega))
    obtain ⟨d, d1, d2, -⟩ := mul_x b2 b2 (zs_mul _ _ _ _) (zs_rep (by omega)) (zs_inR (by omega) (by omega) (by omega))
    obtain ⟨t, t1, t2, -⟩ := add_x c2 d2 (zs_add _ _ _) (zs_rep (by rw [XX]; omega)) (zs_inR (by rw [XX]; omega) (by omega) (by omega))
    rw [XX, hid] at t2
    have T1 : 1 ≤ T := by
      rcases Int.lt_or_le 0 T with h | h
      · omega
      · exfalso
        apply hz
        omega
    have TT1 : 1 ≤ T * T := by
      have := Int.mul_le_mul T1 T1 (by omega) (by omega)
      omega
    obtain ⟨w1, w2⟩ := zs_wide (n := T * T) (e := -2 * j + -2 * j) TT1 (by omega) (by omega) (by omega)
    obtain ⟨s, S, s1, s2, -, -, -, s6, -⟩ := sqrt_v t2 w1 w2
    have hS := s6 (zs T (-2 * j)) (zs_pos (by omega)) (zs_mul _ _ _ _).symm (zs_rep (by omega))
    rw [hS] at s2
    obtain ⟨M, hM0, hM1, hM2, hM3, hM4⟩ : ∃ M : Int, 1 ≤ M ∧ M ≤ 2000 ∧ (X.natAbs : Int) + T = 2 * (M * M) ∧ (0 ≤ X → M = p.natAbs) ∧ (X < 0 → M = q.natAbs) := by
      have ap := abs_sq p
      have aq := abs_sq q
      by_cases h : 0 ≤ X
      · refine ⟨p.natAbs, ?_, by omega, by omega, fun _ => rfl, fun hh => by omega⟩
        rcases Nat.eq_zero_or_pos p.natAbs with h0 | h0
        · exfalso
          have : p = 0 := by omega
          apply hz
          rw [this] at hX hT p0 e1
          have q00 : q * q = 0 := by omega
          have : q = 0 := by rcases Int.mul_eq_zero.1 q00 with h | h <;> exact h
          rw [hY, this, hX, this]
          exact ⟨by decide, by simp⟩
        · omega
      · refine ⟨q.natAbs, ?_, by omega, by omega, fun hh => by omega, fun _ => rfl⟩
        rcases Nat.eq_zero_or_pos q.natAbs with h0 | h0
        · exfalso
          have : q = 0 := by omega
          rw [this] at hX
          omega
        · omega
    have MM1 := Int.mul_le_mul hM0 hM0 (by omega) (by omega)
    have MMb := sq_bd (p := M) (P := 2000) (by omega) (by omega)
    obtain ⟨u, u1, u2, -⟩ := add_x a2 s2 (zs_add _ _ _) (zs_rep (by omega)) (zs_inR (by omega) (by omega) (by omega))
    rw [hM2] at u2
    obtain ⟨v, v1, v2, -⟩ := div_x u2 two_v (by have := zs_pos (n := 2) (e := 0) (by decide); grind) (zs_div (by decide) rfl) (zs_rep (by omega)) (zs_inS (by omega) (by omega) (by omega))
    rw [show -2 * j - 0 = -j + -j by omega] at v2
    obtain ⟨w3, w4⟩ := zs_wide (n := M * M) (e := -j + -j) (by omega) (by omega) (by omega) (by omega)
    obtain ⟨l, L, l1, l2, l3, -, -, l6, -⟩ := sqrt_v v2 w3 w4
    have hL := l6 (zs M (-j)) (zs_pos (by omega)) (zs_mul _ _ _ _).symm (zs_rep (by omega))
    rw [hL] at l2
    obtain ⟨m, m1, m2, m3⟩ := ldx_z (k := j) l2 l3 (by omega) (by omega) (by omega) (by omega) (by omega)
    rw [show -j + j = 0 by omega] at m2
    obtain ⟨n, n1, n2, -⟩ := mul_x two_v m2 (zs_mul _ _ _ _) (zs_rep (by omega)) (zs_inR (by omega) (by omega) (by omega))
    rw [show (0 : Int) + 0 = 0 by omega] at n2
    have n0 : zs (2 * M) 0 ≠ 0 := by have := zs_pos (n := 2 * M) (e := 0) (by omega); grind
    rw [hf1]
    simp only [Option.bind_some]
    rw [← hk, ← hj, a1]
    simp only [Option.bind_some]
    rw [b1]
    simp only [Option.bind_some]
    unfold csq
    rw [c1]
    simp only [Option.bind_some]
    rw [d1]
    simp only [Option.bind_some]
    rw [t1]
    simp only [Option.bind_some]
    rw [s1]
    simp only [Option.bind_some]
    rw [u1]
    simp only [Option.bind_some]
    rw [v1]
    simp only [Option.bind_some]
    rw [l1]
    simp only [Option.bind_some]
    rw [m1]
    simp only [Option.bind_some]
    rw [n1]
    simp only [Option.bind_some]
    rw [hx.v.fge Fv_0]
    have h00 : (0 : Q) = zs 0 0 := (zs_z 0).symm
    by_cases hX0 : 0 ≤ X
    · rw [decide_eq_true (show 0 ≤ zs X 0 by rw [h00]; exact zs_le.2 hX0), if_pos rfl]
      have hM := hM3 hX0
      obtain ⟨σ, hs1, hs2⟩ : ∃ σ, sgi σ * p = M ∧ Y = (2 * M) * (sgi σ * q) := by
        rcases Int.le_total 0 p with h | h
        · refine ⟨false, ?_, ?_⟩
          · unfold sgi; simp only [Bool.false_eq_true, if_false]; omega
          · have : M = p := by omega
            rw [hY, this]; unfold sgi; simp only [Bool.false_eq_true, if_false]; grind
        · refine ⟨true, ?_, ?_⟩
          · unfold sgi; simp only [if_true]; omega
          · have : M = -p := by omega
            rw [hY, this]; unfold sgi; simp only [if_true]; grind
      have hsq : (sgi σ * q).natAbs ≤ 2000 := by
        unfold sgi
        cases σ <;> simp only [Bool.false_eq_true, if_false, if_true] <;> omega
      obtain ⟨o, o1, o2, o3⟩ := div_x hy.v n2 n0 (zs_div (by omega) hs2) (zs_rep (by omega)) (zs_inS (by omega) (by omega) (by omega))
      rw [o1]
      exact ⟨_, rfl, σ, ⟨by rw [hs1]; exact m2, m3⟩, ⟨o2, o3⟩⟩
    · rw [decide_eq_false (show ¬ 0 ≤ zs X 0 by rw [h00]; intro h; exact hX0 (zs_le.1 h)), if_neg (by decide)]
      have hM := hM4 (by omega)
      have hYp : (Y.natAbs : Int) = (2 * M) * (p.natAbs : Int) := by
        rw [hM, hY]
        have e3 : (2 * (p * q)).natAbs = 2 * q.natAbs * p.natAbs := by
          rw [Int.natAbs_mul, Int.natAbs_mul, Nat.mul_assoc]
          show 2 * (p.natAbs * q.natAbs) = _
          rw [Nat.mul_comm p.natAbs]
        rw [e3]
        simp
      obtain ⟨o, o1, o2, o3⟩ := div_x hya n2 n0 (zs_div (by omega) hYp) (zs_rep (by omega)) (zs_inS (by omega) (by omega) (by omega))
      rw [o1]
      obtain ⟨τ, z1, z2, z3⟩ := m2.copy hy.v
      rw [zs_qabs, show (M.natAbs : Int) = M by omega] at z1
      have z4 : sgr τ * zs M 0 = zs (sgi τ * M) 0 := by
        unfold sgr sgi
        cases τ
        · simp only [Bool.false_eq_true, if_false]; rw [Int.one_mul]; grind
        · simp only [if_true]; rw [show -1 * M = -M by omega, zs_neg]; grind
      rw [z4] at z1
      have hYs1 : 0 < Y → τ = false := fun h => z2 (zs_pos h)
      have hYs2 : Y < 0 → τ = true := fun h => z3 (by have := zs_pos (n := -Y) (e := 0) (by omega); rw [zs_neg] at this; grind)
      obtain ⟨σ, hs1, hs2⟩ : ∃ σ, sgi σ * p = (p.natAbs : Int) ∧ sgi σ * q = sgi τ * M := by
        rcases Int.lt_trichotomy p 0 with h | h | h
        · refine ⟨true, by unfold sgi; simp only [if_true]; omega, ?_⟩
          rcases Int.lt_trichotomy q 0 with h2 | h2 | h2
          · have : 0 < p * q := Int.mul_pos_of_neg_of_neg h h2
            rw [hYs1 (by omega)]; unfold sgi; simp only [Bool.false_eq_true, if_false, if_true]; omega
          · omega
          · have : p * q < 0 := Int.mul_neg_of_neg_of_pos h h2
            rw [hYs2 (by omega)]; unfold sgi; simp only [if_true]; omega
        · rw [h]
          rcases Int.le_total 0 q with h2 | h2
          · exact ⟨τ, by simp, by rw [show q = M by omega]⟩
          · refine ⟨!τ, by simp, ?_⟩
            rw [show q = -M by omega]
            unfold sgi
            cases τ <;> simp
        · refine ⟨false, by unfold sgi; simp only [Bool.false_eq_true, if_false]; omega, ?_⟩
          rcases Int.lt_trichotomy q 0 with h2 | h2 | h2
          · have : p * q < 0 := Int.mul_neg_of_pos_of_neg h h2
            rw [hYs2 (by omega)]; unfold sgi; simp only [Bool.false_eq_true, if_false, if_true]; omega
          · omega
          · have : 0 < p * q := Int.mul_pos h h2
            rw [hYs1 (by omega)]; unfold sgi; simp only [Bool.false_eq_true, if_false]; omega
      exact ⟨_, rfl, σ, ⟨by rw [hs1]; exact o2, o3⟩, ⟨by rw [hs2]; exact z1, m3.copy m2.1 hy.v.1⟩⟩
end
section
open Go.RowKit
theorem u_facts : ∃ u : Q, u = 3 * qu ∧ 0 ≤ u ∧ u ≤ 1 / 1000 ∧ u * u ≤ u ∧ 104000 * u ≤ (2 : Q) ^ (-34 : Int) := by
  have c5 : (2 : Q) ^ (-34 : Int) = 1 / 17179869184 := by decide +kernel
  refine ⟨_, rfl, ?_, ?_, ?_, ?_⟩
  · unfold qu; grind
  · unfold qu; grind
  · unfold qu; grind
  · rw [c5]; unfold qu; grind
theorem Ab.one {d u : Q} (h : Ab d u) (hu : u ≤ 1 / 2) : Ab (1 + d) (3 / 2) ∧ 1 / 2 ≤ 1 + d := ⟨⟨by have := h.1; grind, by have := h.2; grind⟩, by have := h.1; grind⟩
theorem Ab.two {c d u : Q} (h : Ab c u) (k : Ab d u) (h0 : 0 ≤ u) (hu : u * u ≤ u) : Ab (c + d + c * d) (3 * u) := ((h.add k).add (h.mul k)).mono (by grind)
/-- A quotient by one division and steps that round. -/
theorem smith_q {σ w a b d1 d2 d3 d4 d5 d6 : Q} (hσ : Ab σ 1) (hw : Ab w 1000) (hb : Ab b 2000) (h1 : Ab d1 (3 * qu)) (h2 : Ab d2 (3 * qu)) (h3 : Ab d3 (3 * qu)) (h4 : Ab d4 (3 * qu)) (h5 : Ab d5 (3 * qu)) (h6 : Ab d6 (3 * qu))
    (he : a + b * σ = w * (1 + σ * σ)) {t z : Q} (ht : t = (1 + σ * (σ * (1 + d1)) * (1 + d2)) * (1 + d3)) (hz : z * t = (a + b * (σ * (1 + d1)) * (1 + d4)) * (1 + d5) * (1 + d6)) :
    1 / 4 ≤ t ∧ t ≤ 8 ∧ Ab (z - w) ((2 : Q) ^ (-34 : Int)) := by
  obtain ⟨u, hu, u0, u1, u2, u3⟩ := u_facts
  rw [← hu] at h1 h2 h3 h4 h5 h6
  have hss : Ab (σ * σ) 1 := (hσ.mul hσ).mono (by grind)
  have hs0 : 0 ≤ σ * σ := by
    rcases Rat.le_total (a := 0) (b := σ) with h | h
    · exact Rat.mul_nonneg h h
    · have := Rat.mul_nonneg (show 0 ≤ -σ by grind) (show 0 ≤ -σ by grind)
      grind
  have g := h1.two h2 u0 u2
  have e := h1.two h4 u0 u2
  have f := h5.two h6 u0 u2
  have hg : (1 + d1) * (1 + d2) = 1 + (d1 + d2 + d1 * d2) := by grind
  have hee : (1 + d1) * (1 + d4) = 1 + (d1 + d4 + d1 * d4) := by grind
  have hff : (1 + d5) * (1 + d6) = 1 + (d5 + d6 + d5 * d6) := by grind
  have ht2 : t = (1 + σ * σ + σ * σ * (d1 + d2 + d1 * d2)) * (1 + d3) := by
    rw [ht]
    have : σ * (σ * (1 + d1)) * (1 + d2) = σ * σ * ((1 + d1) * (1 + d2)) := by grind
    rw [this, hg]
    grind
  have hz2 : z * t = (w * (1 + σ * σ) + b * σ * (d1 + d4 + d1 * d4)) * (1 + (d5 + d6 + d5 * d6)) := by
    rw [hz, ← he]
    have : b * (σ * (1 + d1)) * (1 + d4) = b * σ * ((1 + d1) * (1 + d4)) := by grind
    rw [this, hee, ← hff]
    grind
  generalize d1 + d2 + d1 * d2 = G at *
  generalize d1 + d4 + d1 * d4 = E at *
  generalize d5 + d6 + d5 * d6 = F at *
  clear hg hee hff ht hz he h1 h2 h4 h5 h6 hu
  obtain ⟨S, hS⟩ : ∃ S, S = σ * σ := ⟨_, rfl⟩
  rw [← hS] at hss hs0 ht2 hz2
  have hbs : Ab (b * σ) 2000 := (hb.mul hσ).mono (by grind)
  generalize b * σ = B at *
  clear hb hσ hS
  have t1 : Ab (S * G) (3 * u) := (hss.mul g).mono (by grind)
  have t0 : Ab (1 + S + S * G) 3 := by
    constructor
    · have := t1.1; grind
    · have := t1.2; have := hss.2; grind
  have t0l : 99 / 100 ≤ 1 + S + S * G := by have := t1.1; grind
  obtain ⟨d3a, d3b⟩ := h3.one (by grind)
  have htl : 1 / 4 ≤ t := by
    rw [ht2]
    have := Rat.mul_nonneg (show 0 ≤ 1 + S + S * G - 99 / 100 by grind) (show 0 ≤ 1 + d3 - 1 / 2 by grind)
    generalize 1 + S + S * G = X at *
    grind
  have htu : t ≤ 8 := by
    rw [ht2]
    have := (t0.mul d3a).2
    grind
  refine ⟨htl, htu, ?_⟩
  have key : (z - w) * t = w * (1 + S) * (F - d3) + B * E * (1 + F) - w * (S * G) * (1 + d3) := by
    have : (z - w) * t = z * t - w * t := by grind
    rw [this, hz2, ht2]
    grind
  have k1 : Ab (w * (1 + S)) 2000 := (hw.mul (show Ab (1 + S) 2 from ⟨by grind, by have := hss.2; grind⟩)).mono (by grind)
  have k2 : Ab (F - d3) (4 * u) := (f.sub h3).mono (by grind)
  have k3 : Ab (1 + F) 2 := ⟨by have := f.1; grind, by have := f.2; grind⟩
  have k4 : Ab (B * E * (1 + F)) (2000 * (3 * u) * 2) := (hbs.mul e).mul k3
  have k5 : Ab (w * (S * G) * (1 + d3)) (1000 * (3 * u) * (3 / 2)) := (hw.mul t1).mul d3a
  have k6 := ((k1.mul k2).add k4).sub k5
  rw [← key] at k6
  have k7 : Ab ((z - w) * t) (26000 * u) := k6.mono (by grind)
  obtain ⟨q1, q2⟩ := k7
  generalize z - w = D at *
  clear key k6 k4 k5 k1 k2 k3 hz2 ht2
  refine Ab.mono (A := 104000 * u) ⟨?_, ?_⟩ u3
  · rcases Rat.le_total (a := 0) (b := D) with h | h
    · grind
    · have := Rat.mul_nonneg (show 0 ≤ -D by grind) (show 0 ≤ t - 1 / 4 by grind)
      grind
  · rcases Rat.le_total (a := 0) (b := D) with h | h
    · have := Rat.mul_nonneg h (show 0 ≤ t - 1 / 4 by grind)
      grind
    · grind
end
section
open Go.RowKit
theorem qabs_mul (x y : Q) : qabs (x * y) = qabs x * qabs y := by
  have a : ∀ p q : Q, 0 ≤ p → 0 ≤ q → qabs (p * q) = qabs p * qabs q := fun p q hp hq => by
    rw [qabs_of _ (Rat.mul_nonneg hp hq), qabs_of _ hp, qabs_of _ hq]
  have n : ∀ p : Q, qabs (-p) = qabs p := fun p => by unfold qabs; split <;> split <;> grind
  rcases Rat.le_total (a := 0) (b := x) with hx | hx <;> rcases Rat.le_total (a := 0) (b := y) with hy | hy
  · exact a x y hx hy
  · have := a x (-y) hx (by grind)
    rw [n, show x * -y = -(x * y) by grind, n] at this
    exact this
  · have := a (-x) y (by grind) hy
    rw [n, show -x * y = -(x * y) by grind, n] at this
    exact this
  · have := a (-x) (-y) (by grind) (by grind)
    rw [n, n, show -x * -y = x * y by grind] at this
    exact this
theorem qabs_le {x A : Q} (h : Ab x A) : qabs x ≤ A := by
  have := h.1
  have := h.2
  unfold qabs
  split <;> grind
theorem Ab_of_qabs {x A : Q} (h : qabs x ≤ A) : Ab x A := by
  unfold qabs at h
  split at h <;> exact ⟨by grind, by grind⟩
theorem InS_of {x : Q} (h : x = 0 ∨ ((2 : Q) ^ (-900 : Int) ≤ qabs x ∧ qabs x ≤ (2 : Q) ^ (900 : Int))) : InS x := by
  unfold InS
  rcases h with h | ⟨h1, h2⟩
  · exact .inl h
  · unfold qabs at h1 h2
    split at h1
    · rename_i hx
      rw [if_pos hx] at h2
      exact .inr (.inr ⟨h1, h2⟩)
    · rename_i hx
      rw [if_neg hx] at h2
      exact .inr (.inl ⟨h1, h2⟩)
/-- On a grid. -/
def OnG (g : Int) (x : Q) : Prop := ∃ N : Int, x = zs N g
theorem OnG.add {g : Int} {x y : Q} (h : OnG g x) (k : OnG g y) : OnG g (x + y) := by
  obtain ⟨N, rfl⟩ := h
  obtain ⟨M, rfl⟩ := k
  exact ⟨_, zs_add _ _ _⟩
theorem OnG.neg {g : Int} {x : Q} (h : OnG g x) : OnG g (-x) := by
  obtain ⟨N, rfl⟩ := h
  exact ⟨_, (zs_neg _ _).symm⟩
theorem OnG.low {g : Int} {x : Q} (h : OnG g x) (hx : x ≠ 0) : (2 : Q) ^ g ≤ qabs x := by
  obtain ⟨N, rfl⟩ := h
  have : N ≠ 0 := fun hh => hx (by rw [hh, zs_z])
  rw [zs_qabs, ← one_pow]
  exact zs_le.2 (by omega)
theorem zs_up (n : Int) (k : Nat) (e : Int) : zs n e = zs (n * 2 ^ k) (e - (k : Int)) := by
  have h : (((2 : Int) ^ k : Int) : Q) = (2 : Q) ^ ((k : Nat) : Int) := by
    rw [zp_nat, ← Rat.intCast_natCast]
    congr 1
  unfold zs
  rw [Rat.intCast_mul, h]
  have : (2 : Q) ^ e = (2 : Q) ^ ((k : Nat) : Int) * (2 : Q) ^ (e - (k : Int)) := by rw [← zp_add]; congr 1; omega
  rw [this]
  grind
theorem OnG.int (n : Int) {g : Int} (hg : g ≤ 0) : OnG g (zs n 0) := by
  obtain ⟨k, hk⟩ : ∃ k : Nat, g = -(k : Int) := ⟨(-g).toNat, by omega⟩
  exact ⟨_, by rw [zs_up n k 0, hk]; congr 1; omega⟩
theorem float_grid {b : Nat} {x : Q} {g : Int} (h : Fv b x) (n : Nn b) (hx : x = 0 ∨ (2 : Q) ^ g ≤ qabs x) : OnG (g - 54) x := by
  by_cases h0 : x = 0
  · exact ⟨0, by rw [h0, zs_z]⟩
  · have hx' := hx.resolve_left h0
    obtain ⟨S, E, f, -, -, h3, -, -, hv, -, k2⟩ := n.size h h0
    have k := zp_lt_iff (q_lt hx' k2)
    obtain ⟨c, hc⟩ : ∃ c : Nat, -1075 + (E : Int) - (c : Int) = g - 54 := ⟨(-1075 + (E : Int) - (g - 54)).toNat, by omega⟩
    have e : x = zs (sgi (S == 1) * ((4503599627370496 + f : Nat) : Int)) (-1075 + (E : Int)) := by
      rw [hv]
      unfold nv zs sgr sgi
      rw [Rat.intCast_mul, Rat.intCast_natCast]
      cases (S == 1)
      · simp only [Bool.false_eq_true, if_false]; rfl
      · simp only [if_true]; rfl
    exact ⟨_, by rw [e, zs_up _ c, hc]⟩
theorem grid_in {g : Int} {x : Q} (h : OnG g x) (hg : -600 ≤ g) (hx : qabs x ≤ (2 : Q) ^ (600 : Int)) : InS x := by
  refine InS_of ?_
  by_cases h0 : x = 0
  · exact .inl h0
  · exact .inr ⟨Rat.le_trans (zp_mono (by omega)) (h.low h0), Rat.le_trans hx (zp_mono (by omega))⟩
/-- A factor near to one. -/
theorem near_one {x d : Q} (h : Ab d (3 * qu)) {g : Int} (hx : x = 0 ∨ (2 : Q) ^ g ≤ qabs x) : (x * (1 + d) = 0 ∨ (2 : Q) ^ (g - 1) ≤ qabs (x * (1 + d))) ∧ qabs (x * (1 + d)) ≤ 2 * qabs x := by
  obtain ⟨u, hu, u0, u1, -, -⟩ := u_facts
  rw [← hu] at h
  obtain ⟨a1, a2⟩ := h.one (by grind)
  have e : (2 : Q) ^ g = 2 * (2 : Q) ^ (g - 1) := by
    have := zp_add 1 (g - 1)
    rw [show 1 + (g - 1) = g by omega, Rat.zpow_one] at this
    exact this
  have hq : qabs (1 + d) = 1 + d := qabs_of _ (by grind)
  rw [qabs_mul, hq]
  have n := qabs_nn x
  have p := two_pos (g - 1)
  constructor
  · rcases hx with h0 | h0
    · left; rw [h0, Rat.zero_mul]
    · right
      have := Rat.mul_nonneg n (show 0 ≤ 1 + d - 1 / 2 by grind)
      grind
  · have := Rat.mul_nonneg n (show 0 ≤ 2 - (1 + d) by have := a1.2; grind)
    grind
theorem qu3 : ∀ {d : Q}, Ab d qu → Ab d (3 * qu) := fun h => h.mono (by have := qu_small.2.1; grind)
/-- A quotient of floats that are not too small. -/
theorem comp_v {nf tf : Nat} {N tv : Q} (hn : Fv nf N) (hN : N = 0 ∨ (2 : Q) ^ (-70 : Int) ≤ qabs N) (hN2 : qabs N ≤ (2 : Q) ^ (40 : Int)) (ht : Fv tf tv) (h1 : 1 / 4 ≤ qabs tv) (h2 : qabs tv ≤ (2 : Q) ^ (13 : Int)) :
    ∃ z d6, fdiv nf tf = some z ∧ Fv z (N / tv * (1 + d6)) ∧ Nn z ∧ Ab d6 (3 * qu) ∧ (N / tv * (1 + d6) = 0 ∨ (2 : Q) ^ (-90 : Int) ≤ qabs (N / tv * (1 + d6))) ∧ qabs (N / tv * (1 + d6)) ≤ (2 : Q) ^ (43 : Int) := by
  have t0 : tv ≠ 0 := by
    intro h
    rw [h] at h1
    have z : qabs 0 = 0 := by decide
    rw [z] at h1
    grind
  obtain ⟨X, hX⟩ : ∃ X, X = N / tv := ⟨_, rfl⟩
  have hXt : X * tv = N := by rw [hX]; exact Rat.div_mul_cancel t0
  have hq : qabs X * qabs tv = qabs N := by rw [← qabs_mul, hXt]
  have n := qabs_nn X
  have c2 : (2 : Q) ^ (-1 : Int) = 1 / 2 := by decide +kernel
  have e42 : (2 : Q) ^ (42 : Int) = 4 * (2 : Q) ^ (40 : Int) := by decide +kernel
  have e43 : (2 : Q) ^ (43 : Int) = 2 * (2 : Q) ^ (42 : Int) := by decide +kernel
  have hup : qabs X ≤ (2 : Q) ^ (42 : Int) := by
    have := Rat.mul_nonneg n (show 0 ≤ qabs tv - 1 / 4 by grind)
    rw [e42]
    generalize (2 : Q) ^ (40 : Int) = p at *
    grind
  have hlo : X = 0 ∨ (2 : Q) ^ (-84 : Int) ≤ qabs X := by
    rcases hN with h | h
    · left
      rw [h] at hXt
      exact (Rat.mul_eq_zero.1 hXt).resolve_right t0
    · right
      have e : (2 : Q) ^ (-84 : Int) * (2 : Q) ^ (13 : Int) ≤ (2 : Q) ^ (-70 : Int) := by rw [← zp_add]; exact zp_mono (by decide)
      have p13 := two_pos 13
      rw [← hq] at h
      have m1 := Rat.mul_le_mul_of_nonneg_left h2 n
      exact Rat.le_of_mul_le_mul_right (Rat.le_trans e (Rat.le_trans h m1)) p13
  have hin : InS X := InS_of (by
    rcases hlo with h | h
    · exact .inl h
    · exact .inr ⟨Rat.le_trans (zp_mono (by decide)) h, Rat.le_trans hup (zp_mono (by decide))⟩)
  obtain ⟨z, v, d, z1, z2, z3, z4, z5, -⟩ := div_v hn ht t0 (by rw [← hX]; exact hin)
  rw [z4] at z2
  obtain ⟨n1, n2⟩ := near_one z5 hlo
  rw [← hX] at z2 ⊢
  refine ⟨z, d, z1, z2, z3, z5, ?_, ?_⟩
  · rcases n1 with h | h
    · exact .inl h
    · exact .inr (Rat.le_trans (zp_mono (by decide)) h)
  · rw [e43]
    generalize (2 : Q) ^ (42 : Int) = p at *
    grind
end
section
open Go.RowKit
theorem zi_qabs (n : Int) : qabs (zs n 0) = ((n.natAbs : Nat) : Q) := by
  rw [zs_qabs, zs_0, Rat.intCast_natCast]
theorem nat_q {a b : Nat} (h : a ≤ b) : ((a : Nat) : Q) ≤ ((b : Nat) : Q) := Rat.natCast_le_natCast.2 h
theorem quot_k {rf tf : Nat} {R T : Int} (hR : Iz rf R) (hT : Iz tf T) (hR0 : R ≠ 0) (hb : R.natAbs ≤ 1000) (hTR : T.natAbs ≤ R.natAbs) :
    ∃ k σ d1, fdiv tf rf = some k ∧ Fv k (σ * (1 + d1)) ∧ Nn k ∧ Ab d1 (3 * qu) ∧ (σ * (1 + d1) = 0 ∨ (2 : Q) ^ (-11 : Int) ≤ qabs (σ * (1 + d1))) ∧ qabs (σ * (1 + d1)) ≤ 2 ∧ Ab σ 1 ∧ zs R 0 * σ = zs T 0 := by
  have r0 : zs R 0 ≠ 0 := fun h => hR0 (zs_inj (e := 0) (by rw [h, zs_z]))
  obtain ⟨σ, hσ⟩ : ∃ σ, σ = zs T 0 / zs R 0 := ⟨_, rfl⟩
  have hm : σ * zs R 0 = zs T 0 := by rw [hσ]; exact Rat.div_mul_cancel r0
  have hq : qabs σ * ((R.natAbs : Nat) : Q) = ((T.natAbs : Nat) : Q) := by rw [← zi_qabs, ← zi_qabs, ← qabs_mul, hm]
  have n := qabs_nn σ
  have R1 : (1 : Q) ≤ ((R.natAbs : Nat) : Q) := nat_q (show 1 ≤ R.natAbs by omega)
  have R2 : ((R.natAbs : Nat) : Q) ≤ 1000 := nat_q hb
  have TR : ((T.natAbs : Nat) : Q) ≤ ((R.natAbs : Nat) : Q) := nat_q hTR
  have s1 : qabs σ ≤ 1 := by
    rcases Rat.le_total (a := qabs σ) (b := 1) with h | h
    · exact h
    · have := Rat.mul_nonneg (show 0 ≤ qabs σ - 1 by grind) (show 0 ≤ ((R.natAbs : Nat) : Q) - 1 by grind)
      generalize ((R.natAbs : Nat) : Q) = RR at *
      generalize ((T.natAbs : Nat) : Q) = TT at *
      grind
  have c10 : (2 : Q) ^ (-10 : Int) = 1 / 1024 := by decide +kernel
  have s2 : σ = 0 ∨ (2 : Q) ^ (-10 : Int) ≤ qabs σ := by
    by_cases h : T = 0
    · left
      rw [h, zs_z] at hm
      exact (Rat.mul_eq_zero.1 hm).resolve_right r0
    · right
      have T1 : (1 : Q) ≤ ((T.natAbs : Nat) : Q) := nat_q (show 1 ≤ T.natAbs by omega)
      rw [c10]
      have := Rat.mul_nonneg n (show 0 ≤ 1000 - ((R.natAbs : Nat) : Q) by grind)
      generalize ((R.natAbs : Nat) : Q) = RR at *
      generalize ((T.natAbs : Nat) : Q) = TT at *
      grind
  have hin : InS σ := InS_of (by
    rcases s2 with h | h
    · exact .inl h
    · refine .inr ⟨Rat.le_trans (zp_mono (by decide)) h, Rat.le_trans s1 ?_⟩
      have := zp_mono (a := 0) (b := 900) (by decide)
      rwa [Rat.zpow_zero] at this)
  obtain ⟨k, v, d, k1, k2, k3, k4, k5, -⟩ := div_v hT.v hR.v r0 (by rw [← hσ]; exact hin)
  rw [k4, ← hσ] at k2
  obtain ⟨n1, n2⟩ := near_one k5 s2
  exact ⟨k, σ, d, k1, k2, k3, k5, n1, by grind, Ab_of_qabs s1, by rw [Rat.mul_comm]; exact hm⟩
theorem mulk_v {vf k : Nat} {V : Int} {K : Q} (hV : Iz vf V) (hk : Fv k K) (h1 : K = 0 ∨ (2 : Q) ^ (-11 : Int) ≤ qabs K) (h2 : qabs K ≤ 2) (hb : V.natAbs ≤ 4000000) :
    ∃ q d, fmul vf k = some q ∧ Fv q (zs V 0 * K * (1 + d)) ∧ Ab d (3 * qu) ∧ OnG (-66) (zs V 0 * K * (1 + d)) ∧ qabs (zs V 0 * K * (1 + d)) ≤ 16000000 := by
  have V2 : ((V.natAbs : Nat) : Q) ≤ 4000000 := nat_q hb
  have n := qabs_nn K
  have nV : (0 : Q) ≤ ((V.natAbs : Nat) : Q) := Rat.natCast_nonneg
  have hup : qabs (zs V 0 * K) ≤ 8000000 := by
    rw [qabs_mul, zi_qabs]
    have m1 := Rat.mul_nonneg nV (show 0 ≤ 2 - qabs K by grind)
    generalize ((V.natAbs : Nat) : Q) = VV at *
    grind
  have hlo : zs V 0 * K = 0 ∨ (2 : Q) ^ (-11 : Int) ≤ qabs (zs V 0 * K) := by
    by_cases h : V = 0
    · left; rw [h, zs_z, Rat.zero_mul]
    · rcases h1 with h0 | h0
      · left; rw [h0, Rat.mul_zero]
      · right
        have V1 : (1 : Q) ≤ ((V.natAbs : Nat) : Q) := nat_q (show 1 ≤ V.natAbs by omega)
        rw [qabs_mul, zi_qabs]
        have m1 := Rat.mul_nonneg n (show 0 ≤ ((V.natAbs : Nat) : Q) - 1 by grind)
        generalize ((V.natAbs : Nat) : Q) = VV at *
        generalize (2 : Q) ^ (-11 : Int) = p at *
        grind
  have c23 : (2 : Q) ^ (23 : Int) = 8388608 := by decide +kernel
  have hin : InS (zs V 0 * K) := InS_of (by
    rcases hlo with h | h
    · exact .inl h
    · refine .inr ⟨Rat.le_trans (zp_mono (by decide)) h, Rat.le_trans (b := (2 : Q) ^ (23 : Int)) (by rw [c23]; grind) (zp_mono (by decide))⟩)
  obtain ⟨q, v, d, q1, q2, q3, q4, q5, -⟩ := mul_v hV.v hk hin.r
  rw [q4] at q2
  obtain ⟨n1, n2⟩ := near_one (qu3 q5) hlo
  rw [show (-11 : Int) - 1 = -12 by decide] at n1
  exact ⟨q, d, q1, q2, qu3 q5, float_grid (g := -12) q2 q3 n1, by grind⟩
/-- What a sum on the grid needs. -/
theorem sumk {S : Q} (h : OnG (-66) S) (hb : qabs S ≤ 32000000) : InR S ∧ (S = 0 ∨ (2 : Q) ^ (-66 : Int) ≤ qabs S) := by
  have c25 : (2 : Q) ^ (25 : Int) = 33554432 := by decide +kernel
  refine ⟨(grid_in h (by decide) (Rat.le_trans (b := (2 : Q) ^ (25 : Int)) (by rw [c25]; grind) (zp_mono (by decide)))).r, ?_⟩
  by_cases h0 : S = 0
  · exact .inl h0
  · exact .inr (h.low h0)
theorem ab_i {U : Int} (hb : U.natAbs ≤ 4000000) : Ab (zs U 0) 4000000 := Ab_of_qabs (by rw [zi_qabs]; exact nat_q hb)
/-- One part of a quotient. -/
theorem part_v {nf tf : Nat} {R T U V w : Int} {σ d1 d2 d3 d4 d5 y : Q} (hR0 : R ≠ 0) (hb : R.natAbs ≤ 1000) (hTR : T.natAbs ≤ R.natAbs) (hVR : V.natAbs ≤ 2000 * R.natAbs) (hw : w.natAbs ≤ 1000) (hi : U * R + V * T = w * (R * R + T * T))
    (hσ : Ab σ 1) (hrs : zs R 0 * σ = zs T 0) (h1 : Ab d1 (3 * qu)) (h2 : Ab d2 (3 * qu)) (h3 : Ab d3 (3 * qu)) (h4 : Ab d4 (3 * qu)) (h5 : Ab d5 (3 * qu))
    (hy : y = zs U 0 + zs V 0 * (σ * (1 + d1)) * (1 + d4)) (hg : OnG (-66) y) (hyb : qabs y ≤ 32000000) (hn : Fv nf (y * (1 + d5))) (ht : Fv tf ((zs R 0 + zs T 0 * (σ * (1 + d1)) * (1 + d2)) * (1 + d3))) :
    ∃ z Z, fdiv nf tf = some z ∧ Fv z Z ∧ Nn z ∧ Ab (Z - zs w 0) ((2 : Q) ^ (-34 : Int)) ∧ (Z = 0 ∨ (2 : Q) ^ (-90 : Int) ≤ qabs Z) ∧ qabs Z ≤ (2 : Q) ^ (43 : Int) := by
  have r0 : zs R 0 ≠ 0 := fun h => hR0 (zs_inj (e := 0) (by rw [h, zs_z]))
  obtain ⟨t, htt⟩ : ∃ t, t = (1 + σ * (σ * (1 + d1)) * (1 + d2)) * (1 + d3) := ⟨_, rfl⟩
  have htv : (zs R 0 + zs T 0 * (σ * (1 + d1)) * (1 + d2)) * (1 + d3) = zs R 0 * t := by rw [← hrs, htt]; grind
  rw [htv] at ht
  obtain ⟨a, haa⟩ : ∃ a, a = zs U 0 / zs R 0 := ⟨_, rfl⟩
  obtain ⟨b, hbb⟩ : ∃ b, b = zs V 0 / zs R 0 := ⟨_, rfl⟩
  have ha : a * zs R 0 = zs U 0 := by rw [haa]; exact Rat.div_mul_cancel r0
  have hbv : b * zs R 0 = zs V 0 := by rw [hbb]; exact Rat.div_mul_cancel r0
  have R1 : (1 : Q) ≤ ((R.natAbs : Nat) : Q) := nat_q (show 1 ≤ R.natAbs by omega)
  have R2 : ((R.natAbs : Nat) : Q) ≤ 1000 := nat_q hb
  have hb2 : Ab b 2000 := Ab_of_qabs (by
    have e : qabs b * ((R.natAbs : Nat) : Q) = ((V.natAbs : Nat) : Q) := by rw [← zi_qabs, ← zi_qabs, ← qabs_mul, hbv]
    have v : ((V.natAbs : Nat) : Q) ≤ 2000 * ((R.natAbs : Nat) : Q) := by
      have := nat_q hVR
      rwa [Rat.natCast_mul] at this
    refine Rat.le_of_mul_le_mul_right (c := ((R.natAbs : Nat) : Q)) ?_ (by grind)
    rw [e]
    exact v)
  have hw2 : Ab (zs w 0) 1000 := Ab_of_qabs (by rw [zi_qabs]; exact nat_q hw)
  have he : a + b * σ = zs w 0 * (1 + σ * σ) := by
    have hiq : zs U 0 * zs R 0 + zs V 0 * zs T 0 = zs w 0 * (zs R 0 * zs R 0 + zs T 0 * zs T 0) := by
      rw [zs_mul, zs_mul, zs_mul, zs_mul, zs_add, zs_add, zs_mul, hi]
      rfl
    have k : ((a + b * σ) - zs w 0 * (1 + σ * σ)) * (zs R 0 * zs R 0) = 0 := by
      rw [← ha, ← hbv, ← hrs] at hiq
      generalize zs R 0 = r at *
      generalize zs w 0 = ww at *
      clear ht hn hy hg hyb
      grind
    rcases Rat.mul_eq_zero.1 k with k | k
    · grind
    · rcases Rat.mul_eq_zero.1 k with k | k <;> exact absurd k r0
  have key : ∀ (z : Q) (d6 : Q), Ab d6 (3 * qu) → z * t = (a + b * (σ * (1 + d1)) * (1 + d4)) * (1 + d5) * (1 + d6) → 1 / 4 ≤ t ∧ t ≤ 8 ∧ Ab (z - zs w 0) ((2 : Q) ^ (-34 : Int)) := fun z d6 h6 hz => smith_q hσ hw2 hb2 h1 h2 h3 h4 h5 h6 he htt hz
  have t0 : 1 / 4 ≤ t ∧ t ≤ 8 := by
    have tne : t ≠ 0 := by
      intro h0
      have := smith_q (a := 0) (b := 0) (w := 0) (z := 0) (d6 := 0) hσ ⟨by grind, by grind⟩ ⟨by grind, by grind⟩ h1 h2 h3 h4 h5 (show Ab 0 (3 * qu) from ⟨by have := qu_small.2.1; grind, by have := qu_small.2.1; grind⟩) (by grind) htt (by grind)
      have := this.1
      grind
    have := smith_q (a := 0) (b := 0) (w := 0) (z := 0) (d6 := 0) hσ ⟨by grind, by grind⟩ ⟨by grind, by grind⟩ h1 h2 h3 h4 h5 (show Ab 0 (3 * qu) from ⟨by have := qu_small.2.1; grind, by have := qu_small.2.1; grind⟩) (by grind) htt (by grind)
    exact ⟨this.1, this.2.1⟩
  have hqt : qabs (zs R 0 * t) = ((R.natAbs : Nat) : Q) * t := by rw [qabs_mul, zi_qabs, qabs_of t (by grind)]
  have b1 : 1 / 4 ≤ qabs (zs R 0 * t) := by
    rw [hqt]
    have := Rat.mul_nonneg (show 0 ≤ ((R.natAbs : Nat) : Q) - 1 by grind) (show 0 ≤ t by grind)
    generalize ((R.natAbs : Nat) : Q) = r at *
    clear hn ht key he
    grind
  have b2 : qabs (zs R 0 * t) ≤ (2 : Q) ^ (13 : Int) := by
    have c13 : (2 : Q) ^ (13 : Int) = 8192 := by decide +kernel
    rw [hqt, c13]
    have := Rat.mul_nonneg (show 0 ≤ 1000 - ((R.natAbs : Nat) : Q) by grind) (show 0 ≤ t by grind)
    generalize ((R.natAbs : Nat) : Q) = r at *
    clear hn ht key he
    grind
  obtain ⟨-, lo⟩ := sumk hg hyb
  obtain ⟨n1, n2⟩ := near_one h5 lo
  have c40 : (2 : Q) ^ (40 : Int) = 1099511627776 := by decide +kernel
  obtain ⟨z, d6, z1, z2, z3, z4, z5, z6⟩ := comp_v hn (by
    rcases n1 with h | h
    · exact .inl h
    · exact .inr (Rat.le_trans (zp_mono (by decide)) h)) (by rw [c40]; grind) ht b1 b2
  refine ⟨z, _, z1, z2, z3, (key _ d6 z4 ?_).2.2, z5, z6⟩
  have rt : zs R 0 * t ≠ 0 := by
    intro h
    rw [h] at b1
    have zz : qabs 0 = 0 := by decide
    rw [zz] at b1
    grind
  obtain ⟨X, hX⟩ : ∃ X, X = y * (1 + d5) / (zs R 0 * t) := ⟨_, rfl⟩
  have hXm : X * (zs R 0 * t) = y * (1 + d5) := by rw [hX]; exact Rat.div_mul_cancel rt
  rw [← hX]
  have k : (X * (1 + d6) * t - (a + b * (σ * (1 + d1)) * (1 + d4)) * (1 + d5) * (1 + d6)) * zs R 0 = 0 := by
    have e1 : (X * (1 + d6) * t) * zs R 0 = (X * (zs R 0 * t)) * (1 + d6) := by grind
    have e2 : ((a + b * (σ * (1 + d1)) * (1 + d4)) * (1 + d5) * (1 + d6)) * zs R 0 = (a * zs R 0 + b * zs R 0 * (σ * (1 + d1)) * (1 + d4)) * (1 + d5) * (1 + d6) := by grind
    have e3 : ∀ p q r : Q, (p - q) * r = p * r - q * r := fun p q r => by grind
    rw [e3, e1, e2, hXm, ha, hbv, ← hy]
    grind
  rcases Rat.mul_eq_zero.1 k with k | k
  · grind
  · exact absurd k r0
end
section
open Go.RowKit
/-- Near to a whole number. -/
def Qz (z : Nat) (w : Int) : Prop := ∃ Z, Fv z Z ∧ Nn z ∧ Ab (Z - zs w 0) ((2 : Q) ^ (-34 : Int)) ∧ (Z = 0 ∨ (2 : Q) ^ (-90 : Int) ≤ qabs Z) ∧ qabs Z ≤ (2 : Q) ^ (43 : Int)
theorem nab_mul {x y : Int} {X Y : Nat} (h : x.natAbs ≤ X) (k : y.natAbs ≤ Y) : (x * y).natAbs ≤ X * Y := by
  rw [Int.natAbs_mul]
  exact Nat.mul_le_mul h k
theorem sum_bd {U : Int} {y : Q} (hU : U.natAbs ≤ 4000000) (hy : qabs y ≤ 16000000) : qabs (zs U 0 + y) ≤ 32000000 := qabs_le (((ab_i hU).add (Ab_of_qabs hy)).mono (by grind))
theorem cdiv_v {a b c d : Nat} {P Qi r s w1 w2 : Int} (ha : Iz a P) (hb : Iz b Qi) (hc : Iz c r) (hd : Iz d s) (hne : ¬ (r = 0 ∧ s = 0)) (hr : r.natAbs ≤ 1000) (hs : s.natAbs ≤ 1000) (hw1 : w1.natAbs ≤ 1000) (hw2 : w2.natAbs ≤ 1000)
    (e1 : P = r * w1 - s * w2) (e2 : Qi = r * w2 + s * w1) : ∃ z, cdiv a b c d = some z ∧ Qz z.1 w1 ∧ Qz z.2 w2 := by
  have hcmp : fge (fabs c) (fabs d) = decide (s.natAbs ≤ r.natAbs) := by
    rw [hc.v.abs.fge hd.v.abs, zs_qabs, zs_qabs]
    by_cases h : s.natAbs ≤ r.natAbs
    · rw [decide_eq_true h, decide_eq_true (zs_le.2 (by omega))]
    · rw [decide_eq_false h, decide_eq_false (fun hh => h (by have := zs_le.1 hh; omega))]
  have bnd : ∀ m : Nat, r.natAbs ≤ m → s.natAbs ≤ m → P.natAbs ≤ 2000 * m ∧ Qi.natAbs ≤ 2000 * m := by
    intro m h1 h2
    have a1 := nab_mul h1 hw1
    have a2 := nab_mul h2 hw2
    have a3 := nab_mul h1 hw2
    have a4 := nab_mul h2 hw1
    rw [e1, e2]
    generalize r * w1 = x1 at *
    generalize s * w2 = x2 at *
    generalize r * w2 = x3 at *
    generalize s * w1 = x4 at *
    omega
  obtain ⟨bP, bQ⟩ := bnd 1000 hr hs
  unfold cdiv
  rw [hcmp]
  by_cases h : s.natAbs ≤ r.natAbs
  · rw [decide_eq_true h, if_pos rfl]
    have hr0 : r ≠ 0 := fun hh => hne ⟨hh, by omega⟩
    obtain ⟨cP, cQ⟩ := bnd r.natAbs (Nat.le_refl _) h
    obtain ⟨k, σ, d1, k1, k2, k3, k4, k5, k6, k7, k8⟩ := quot_k hc hd hr0 hr h
    obtain ⟨m, d2, m1, m2, m3, m4, m5⟩ := mulk_v hd k2 k5 k6 (by omega)
    obtain ⟨s1, -⟩ := sumk (OnG.add (OnG.int r (by decide)) m4) (sum_bd (by omega) m5)
    obtain ⟨t, tv, d3, t1, t2, -, t4, t5, -⟩ := add_v hc.v m2 s1
    rw [t4] at t2
    obtain ⟨q1, d4, q1a, q1b, q1c, q1d, q1e⟩ := mulk_v hb k2 k5 k6 (by omega)
    have g1 := OnG.add (OnG.int P (show (-66 : Int) ≤ 0 by decide)) q1d
    have g2 := sum_bd (U := P) (by omega) q1e
    obtain ⟨s2, -⟩ := sumk g1 g2
    obtain ⟨x1, x1v, d5, x1a, x1b, -, x1c, x1d, -⟩ := add_v ha.v q1b s2
    rw [x1c] at x1b
    obtain ⟨x, X, xa, xb, xc, xd, xe, xf⟩ := part_v hr0 hr h cQ hw1 (by rw [e1, e2]; grind) k7 k8 k4 m3 (qu3 t5) q1c (qu3 x1d) rfl g1 g2 x1b t2
    obtain ⟨q2, d6, q2a, q2b, q2c, q2d, q2e⟩ := mulk_v ha k2 k5 k6 (by omega)
    have hneg : zs Qi 0 - zs P 0 * (σ * (1 + d1)) * (1 + d6) = zs Qi 0 + zs (-P) 0 * (σ * (1 + d1)) * (1 + d6) := by rw [zs_neg]; grind
    have g3 : OnG (-66) (zs Qi 0 - zs P 0 * (σ * (1 + d1)) * (1 + d6)) := by
      rw [Rat.sub_eq_add_neg]
      exact OnG.add (OnG.int Qi (by decide)) q2d.neg
    have g4 : qabs (zs Qi 0 - zs P 0 * (σ * (1 + d1)) * (1 + d6)) ≤ 32000000 := by
      rw [Rat.sub_eq_add_neg]
      exact sum_bd (by omega) (qabs_le (Ab_of_qabs q2e).neg)
    obtain ⟨s3, -⟩ := sumk g3 g4
    obtain ⟨y1, y1v, d7, y1a, y1b, -, y1c, y1d, -⟩ := sub_v hb.v q2b s3
    rw [y1c] at y1b
    obtain ⟨y, Y, ya, yb, yc, yd, ye, yf⟩ := part_v (V := -P) hr0 hr h (by omega) hw2 (by rw [e1, e2]; grind) k7 k8 k4 m3 (qu3 t5) q2c (qu3 y1d) hneg g3 g4 y1b t2
    refine ⟨(x, y), ?_, ⟨X, xb, xc, xd, xe, xf⟩, ⟨Y, yb, yc, yd, ye, yf⟩⟩
    unfold cdivA
    rw [k1]
    simp only [Option.bind_some]
    rw [m1]
    simp only [Option.bind_some]
    rw [t1]
    simp only [Option.bind_some]
    rw [q1a]
    simp only [Option.bind_some]
    rw [x1a]
    simp only [Option.bind_some]
    rw [xa]
    simp only [Option.bind_some]
    rw [q2a]
    simp only [Option.bind_some]
    rw [y1a]
    simp only [Option.bind_some]
    rw [ya]
    rfl
  · rw [decide_eq_false h, if_neg (by decide)]
    have hs0 : s ≠ 0 := fun hh => h (by rw [hh]; simp)
    have h' : r.natAbs ≤ s.natAbs := by omega
    obtain ⟨cP, cQ⟩ := bnd s.natAbs h' (Nat.le_refl _)
    obtain ⟨k, σ, d1, k1, k2, k3, k4, k5, k6, k7, k8⟩ := quot_k hd hc hs0 hs h'
    obtain ⟨m, d2, m1, m2, m3, m4, m5⟩ := mulk_v hc k2 k5 k6 (by omega)
    have tcomm : zs r 0 * (σ * (1 + d1)) * (1 + d2) + zs s 0 = zs s 0 + zs r 0 * (σ * (1 + d1)) * (1 + d2) := Rat.add_comm _ _
    obtain ⟨s1, -⟩ := sumk (OnG.add (OnG.int s (by decide)) m4) (sum_bd (by omega) m5)
    rw [← tcomm] at s1
    obtain ⟨t, tv, d3, t1, t2, -, t4, t5, -⟩ := add_v m2 hd.v s1
    rw [t4, tcomm] at t2
    obtain ⟨q1, d4, q1a, q1b, q1c, q1d, q1e⟩ := mulk_v ha k2 k5 k6 (by omega)
    have g1 := OnG.add (OnG.int Qi (show (-66 : Int) ≤ 0 by decide)) q1d
    have g2 := sum_bd (U := Qi) (by omega) q1e
    obtain ⟨s2, -⟩ := sumk g1 g2
    rw [Rat.add_comm] at s2
    obtain ⟨x1, x1v, d5, x1a, x1b, -, x1c, x1d, -⟩ := add_v q1b hb.v s2
    rw [x1c, Rat.add_comm] at x1b
    have x1b' : Fv x1 ((zs Qi 0 + zs P 0 * (σ * (1 + d1)) * (1 + d4)) * (1 + d5)) := by
      have e : (zs Qi 0 + zs P 0 * (σ * (1 + d1)) * (1 + d4)) * (1 + d5) = x1v := by rw [x1c]; grind
      rw [e, x1c]
      first | exact x1b | (rw [Rat.add_comm]; exact x1b)
    obtain ⟨x, X, xa, xb, xc, xd, xe, xf⟩ := part_v hs0 hs h' cP hw1 (by rw [e1, e2]; grind) k7 k8 k4 m3 (qu3 t5) q1c (qu3 x1d) rfl g1 g2 x1b' t2
    obtain ⟨q2, d6, q2a, q2b, q2c, q2d, q2e⟩ := mulk_v hb k2 k5 k6 (by omega)
    have hneg : zs Qi 0 * (σ * (1 + d1)) * (1 + d6) - zs P 0 = zs (-P) 0 + zs Qi 0 * (σ * (1 + d1)) * (1 + d6) := by rw [zs_neg]; grind
    have g3 : OnG (-66) (zs Qi 0 * (σ * (1 + d1)) * (1 + d6) - zs P 0) := by
      rw [hneg]
      exact OnG.add (OnG.int (-P) (by decide)) q2d
    have g4 : qabs (zs Qi 0 * (σ * (1 + d1)) * (1 + d6) - zs P 0) ≤ 32000000 := by
      rw [hneg]
      exact sum_bd (by omega) q2e
    obtain ⟨s3, -⟩ := sumk g3 g4
    obtain ⟨y1, y1v, d7, y1a, y1b, -, y1c, y1d, -⟩ := sub_v q2b ha.v s3
    rw [y1c] at y1b
    obtain ⟨y, Y, ya, yb, yc, yd, ye, yf⟩ := part_v (U := -P) hs0 hs h' cQ hw2 (by rw [e1, e2]; grind) k7 k8 k4 m3 (qu3 t5) q2c (qu3 y1d) hneg g3 g4 y1b t2
    refine ⟨(x, y), ?_, ⟨X, xb, xc, xd, xe, xf⟩, ⟨Y, yb, yc, yd, ye, yf⟩⟩
    unfold cdivB
    rw [k1]
    simp only [Option.bind_some]
    rw [m1]
    simp only [Option.bind_some]
    rw [t1]
    simp only [Option.bind_some]
    rw [q1a]
    simp only [Option.bind_some]
    rw [x1a]
    simp only [Option.bind_some]
    rw [xa]
    simp only [Option.bind_some]
    rw [q2a]
    simp only [Option.bind_some]
    rw [y1a]
    simp only [Option.bind_some]
    rw [ya]
    rfl
end
end Go.Proofs.YtcoillcppmibgaaGreatDoor
