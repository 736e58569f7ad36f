/- ZerosSquare returns true for every input: the given card. Conditions: none beyond the statement's own. -/
import Derived.Test.YtcoillcppmibgaaGreatDoorD16
import Derived.Test.YtcoillcppmibgaaGreatDoorTie
import Derived.Test.YtcoillcppmibgaaGreatDoorCards
import Derived.SevenTiedAt
import Derived.OpenShut
import Derived.Below
import Derived.ChangeMaps5
import Derived.Carry
set_option linter.unusedSimpArgs false
set_option linter.unusedVariables false
namespace Go.Proofs.YtcoillcppmibgaaGreatDoor
section
open Go.RowKit
theorem Iz.neg {b : Nat} {n : Int} (h : Iz b n) : Iz (Op.negFloat .f64 b) (-n) := ⟨by have := h.v.neg; rwa [← zs_neg] at this, h.n.neg h.v.1⟩
theorem Iz.add {a b : Nat} {n m : Int} (h : Iz a n) (k : Iz b m) (hb : (n + m).natAbs < 9007199254740992) : ∃ r, fadd a b = some r ∧ Iz r (n + m) := by
  obtain ⟨r, h1, h2, h3⟩ := add_x h.v k.v (zs_add n m 0) (zs_rep hb) (zs_inR hb (by decide) (by decide))
  exact ⟨r, h1, h2, h3⟩
theorem Iz.sub {a b : Nat} {n m : Int} (h : Iz a n) (k : Iz b m) (hb : (n - m).natAbs < 9007199254740992) : ∃ r, fsub a b = some r ∧ Iz r (n - m) := by
  obtain ⟨r, h1, h2, h3⟩ := sub_x h.v k.v (zs_sub n m 0) (zs_rep hb) (zs_inR hb (by decide) (by decide))
  exact ⟨r, h1, h2, h3⟩
theorem Iz.mul {a b : Nat} {n m : Int} (h : Iz a n) (k : Iz b m) (hb : (n * m).natAbs < 9007199254740992) : ∃ r, fmul a b = some r ∧ Iz r (n * m) := by
  obtain ⟨r, h1, h2, h3⟩ := mul_x h.v k.v (zs_mul n m 0 0) (zs_rep hb) (zs_inR hb (by decide) (by decide))
  exact ⟨r, h1, h2, h3⟩
/-- A complex number of whole parts. -/
structure Cz (z : Pl) (w : Int × Int) : Prop where
  re : Iz z.1 w.1
  im : Iz z.2 w.2
theorem Cz.neg {z : Pl} {w : Int × Int} (h : Cz z w) : Cz (Op.negFloat .f64 z.1, Op.negFloat .f64 z.2) (-w.1, -w.2) := ⟨h.re.neg, h.im.neg⟩
theorem Cz.add {a b : Pl} {v w : Int × Int} (h : Cz a v) (k : Cz b w) (h1 : (v.1 + w.1).natAbs < 9007199254740992) (h2 : (v.2 + w.2).natAbs < 9007199254740992) : ∃ r, cadd a.1 a.2 b.1 b.2 = some r ∧ Cz r (v.1 + w.1, v.2 + w.2) := by
  obtain ⟨x, x1, x2⟩ := h.re.add k.re h1
  obtain ⟨y, y1, y2⟩ := h.im.add k.im h2
  refine ⟨(x, y), ?_, ⟨x2, y2⟩⟩
  unfold cadd
  rw [x1]
  simp only [Option.bind_some]
  rw [y1]
  rfl
theorem Cz.sub {a b : Pl} {v w : Int × Int} (h : Cz a v) (k : Cz b w) (h1 : (v.1 - w.1).natAbs < 9007199254740992) (h2 : (v.2 - w.2).natAbs < 9007199254740992) : ∃ r, csub a.1 a.2 b.1 b.2 = some r ∧ Cz r (v.1 - w.1, v.2 - w.2) := by
  obtain ⟨x, x1, x2⟩ := h.re.sub k.re h1
  obtain ⟨y, y1, y2⟩ := h.im.sub k.im h2
  refine ⟨(x, y), ?_, ⟨x2, y2⟩⟩
  unfold csub
  rw [x1]
  simp only [Option.bind_some]
  rw [y1]
  rfl
theorem Cz.scale {a : Pl} {v : Int × Int} {s : Nat} {k : Int} (h : Cz a v) (hs : Iz s k) (h1 : (v.1 * k).natAbs < 9007199254740992) (h2 : (v.2 * k).natAbs < 9007199254740992) : ∃ r, cscale a.1 a.2 s = some r ∧ Cz r (v.1 * k, v.2 * k) := by
  obtain ⟨x, x1, x2⟩ := h.re.mul hs h1
  obtain ⟨y, y1, y2⟩ := h.im.mul hs h2
  refine ⟨(x, y), ?_, ⟨x2, y2⟩⟩
  unfold cscale
  rw [x1]
  simp only [Option.bind_some]
  rw [y1]
  rfl
theorem Cz.mul {a b : Pl} {v w : Int × Int} {A B : Nat} (h : Cz a v) (k : Cz b w) (a1 : v.1.natAbs ≤ A) (a2 : v.2.natAbs ≤ A) (b1 : w.1.natAbs ≤ B) (b2 : w.2.natAbs ≤ B) (hAB : A * B ≤ 1000000000000000) : ∃ r, cmul a.1 a.2 b.1 b.2 = some r ∧ Cz r (v.1 * w.1 - v.2 * w.2, v.1 * w.2 + v.2 * w.1) := by
  have n1 := nab_mul a1 b1
  have n2 := nab_mul a2 b2
  have n3 := nab_mul a1 b2
  have n4 := nab_mul a2 b1
  generalize A * B = AB at *
  obtain ⟨p, p1, p2⟩ := h.re.mul k.re (by omega)
  obtain ⟨q, q1, q2⟩ := h.im.mul k.im (by omega)
  obtain ⟨x, x1, x2⟩ := p2.sub q2 (by omega)
  obtain ⟨u, u1, u2⟩ := h.re.mul k.im (by omega)
  obtain ⟨t, t1, t2⟩ := h.im.mul k.re (by omega)
  obtain ⟨y, y1, y2⟩ := u2.add t2 (by omega)
  refine ⟨(x, y), ?_, ⟨x2, y2⟩⟩
  unfold cmul
  rw [p1]
  simp only [Option.bind_some]
  rw [q1]
  simp only [Option.bind_some]
  rw [x1]
  simp only [Option.bind_some]
  rw [u1]
  simp only [Option.bind_some]
  rw [t1]
  simp only [Option.bind_some]
  rw [y1]
  rfl
theorem c40_v : Fv 4787326403894837248 (zs 1099511627776 0) := by
  have := Fv_c 4787326403894837248 4503599627370496 (-12) (by decide) (by decide +kernel)
  have e : ((4503599627370496 : Nat) : Q) * (2 : Q) ^ (-12 : Int) = zs 1099511627776 0 := by decide +kernel
  rwa [e] at this
theorem Iz.ok {b : Nat} {n : Int} (h : Iz b n) (hn : n.natAbs ≤ 1099511627776) : fle (fabs b) 4787326403894837248 = true := by
  have := h.v.abs
  rw [zs_qabs] at this
  rw [this.fle c40_v]
  exact decide_eq_true (zs_le.2 (by omega))
theorem Cz.ok {z : Pl} {w : Int × Int} (h : Cz z w) (h1 : w.1.natAbs ≤ 1099511627776) (h2 : w.2.natAbs ≤ 1099511627776) : okP z = true := by
  unfold okP
  rw [h.re.ok h1, h.im.ok h2]
  rfl
theorem Iz_c (c m : Nat) (p : Int) (n : Int) (hc : c < 18446744073709551616) (h : Ieee.double.read c = .number false m p) (e : ((m : Nat) : Q) * (2 : Q) ^ p = zs n 0) (hN : Nn c) : Iz c n := ⟨by have := Fv_c c m p hc h; rwa [e] at this, hN⟩
theorem one_i : Iz 4607182418800017408 1 := Iz_c _ 4503599627370496 (-52) 1 (by decide) (by decide +kernel) (by decide +kernel) (.inr (by decide))
theorem zero_i : Iz 0 0 := ⟨by rw [zs_z]; exact Fv_0, .inl rfl⟩
theorem four_i : Iz 4616189618054758400 4 := Iz_c _ 4503599627370496 (-50) 4 (by decide) (by decide +kernel) (by decide +kernel) (.inr (by decide))
theorem one_c : Cz (4607182418800017408, 0) (1, 0) := ⟨one_i, zero_i⟩
/-- A polynomial by two zeros of whole parts. -/
theorem pof2_v {x y : Pl} {u v : Int × Int} (hx : Cz x u) (hy : Cz y v) (u1 : u.1.natAbs ≤ 1000) (u2 : u.2.natAbs ≤ 1000) (v1 : v.1.natAbs ≤ 1000) (v2 : v.2.natAbs ≤ 1000) :
    ∃ r : Pl × Pl × Pl, pof2 x y = some r ∧ r.2.2 = (4607182418800017408, 0) ∧ Cz r.1 (u.1 * v.1 - u.2 * v.2, u.1 * v.2 + u.2 * v.1) ∧ Cz r.2.1 (-(u.1 + v.1), -(u.2 + v.2)) := by
  obtain ⟨p, p1, p2⟩ := hx.mul one_c u1 u2 (B := 1) (by decide) (by decide) (by decide)
  obtain ⟨t, t1, t2⟩ := hy.mul one_c v1 v2 (B := 1) (by decide) (by decide) (by decide)
  simp only [Int.mul_one, Int.mul_zero, Int.sub_zero, Int.zero_add] at p2 t2
  obtain ⟨s, s1, s2⟩ := p2.neg.sub t2 (by simp only; omega) (by simp only; omega)
  obtain ⟨m, m1, m2⟩ := hy.mul p2.neg v1 v2 (B := 1000) (by simp only; omega) (by simp only; omega) (by decide)
  refine ⟨((Op.negFloat .f64 m.1, Op.negFloat .f64 m.2), s, (4607182418800017408, 0)), ?_, rfl, ?_, ?_⟩
  · unfold pof2
    rw [p1]
    simp only [Option.bind_some]
    rw [t1]
    simp only [Option.bind_some]
    rw [s1]
    simp only [Option.bind_some]
    rw [m1]
    rfl
  · have := m2.neg
    simp only at this
    rw [show -(v.1 * -u.1 - v.2 * -u.2) = u.1 * v.1 - u.2 * v.2 by grind, show -(v.1 * -u.2 + v.2 * -u.1) = u.1 * v.2 + u.2 * v.1 by grind] at this
    exact this
  · simp only at s2
    rw [show -u.1 - v.1 = -(u.1 + v.1) by omega, show -u.2 - v.2 = -(u.2 + v.2) by omega] at s2
    exact s2
theorem half_v {b : Nat} {n : Int} (h : Iz b (2 * n)) (hn : n.natAbs ≤ 1000000) : ∃ r, fmul b 13826050856027422720 = some r ∧ Iz r (-n) := by
  have hc : Fv 13826050856027422720 (zs (-1) (-1)) := by
    refine ⟨by decide, true, 4503599627370496, -53, by decide +kernel, ?_⟩
    decide +kernel
  have e : zs (2 * n) 0 * zs (-1) (-1) = zs (-n) 0 := by
    rw [zs_mul, zs_up (-n) 1 0]
    congr 1
    omega
  obtain ⟨r, h1, h2, h3⟩ := mul_x h.v hc e (zs_rep (by omega)) (zs_inR (by omega) (by decide) (by decide))
  exact ⟨r, h1, h2, h3⟩
end
section
open Go.RowKit
def Q2 (z : Pl) (w : Int × Int) : Prop := Qz z.1 w.1 ∧ Qz z.2 w.2
theorem c_m34 : (0 : Q) ≤ (2 : Q) ^ (-34 : Int) := Rat.le_of_lt (two_pos _)
theorem Iz.qz {b : Nat} {n : Int} (h : Iz b n) (hn : n.natAbs ≤ 1000000) : Qz b n := by
  refine ⟨_, h.v, h.n, ?_, ?_, ?_⟩
  · have e : zs n 0 - zs n 0 = 0 := by grind
    rw [e]
    have := c_m34
    exact ⟨by grind, this⟩
  · by_cases h0 : n = 0
    · left; rw [h0, zs_z]
    · right
      have := (OnG.int n (show (-90 : Int) ≤ 0 by decide)).low (fun hh => h0 (zs_inj (e := 0) (by rw [hh, zs_z])))
      exact this
  · rw [zs_qabs]
    have c43 : (2 : Q) ^ (43 : Int) = zs 8796093022208 0 := by decide +kernel
    rw [c43]
    exact zs_le.2 (by omega)
theorem Cz.q2 {z : Pl} {w : Int × Int} (h : Cz z w) (h1 : w.1.natAbs ≤ 1000000) (h2 : w.2.natAbs ≤ 1000000) : Q2 z w := ⟨h.re.qz h1, h.im.qz h2⟩
theorem Qz.fin {z : Nat} {w : Int} (h : Qz z w) : fle (fabs z) 9218868437227405311 = true ∧ feq z z = true := by
  obtain ⟨Z, h1, -, -, -, h5⟩ := h
  obtain ⟨-, -, -, a, b⟩ := fin_v h1 (Rat.le_trans h5 (zp_mono (by decide)))
  exact ⟨b, a⟩
theorem Q2.fin {z : Pl} {w : Int × Int} (h : Q2 z w) : cfin z = true ∧ numb z = true := by
  obtain ⟨a1, a2⟩ := h.1.fin
  obtain ⟨b1, b2⟩ := h.2.fin
  unfold cfin numb
  rw [a1, b1, a2, b2]
  exact ⟨rfl, rfl⟩
theorem c30_v : Fv 4472074429978902528 ((2 : Q) ^ (-30 : Int)) := by
  have := Fv_c 4472074429978902528 4503599627370496 (-82) (by decide) (by decide +kernel)
  have e : ((4503599627370496 : Nat) : Q) * (2 : Q) ^ (-82 : Int) = (2 : Q) ^ (-30 : Int) := by decide +kernel
  rwa [e] at this
/-- The difference of what is near to a whole number and a whole number. -/
theorem Qz.diff {z x : Nat} {w t : Int} (h : Qz z w) (k : Iz x t) (ht : t.natAbs ≤ 1000000) : ∃ r D, fsub z x = some r ∧ Fv r D ∧ Nn r ∧ Md D ∧ (t = w → qabs D ≤ (2 : Q) ^ (-33 : Int)) := by
  obtain ⟨Z, h1, h2, h3, h4, h5⟩ := h
  have g1 := float_grid (g := -90) h1 h2 h4
  have g2 : OnG (-144) (Z - zs t 0) := by
    rw [Rat.sub_eq_add_neg]
    exact OnG.add g1 (OnG.int t (by decide)).neg
  have c43 : (2 : Q) ^ (43 : Int) = 8796093022208 := by decide +kernel
  have c44 : (2 : Q) ^ (44 : Int) = 17592186044416 := by decide +kernel
  have t1 : Ab (zs t 0) 1000000 := Ab_of_qabs (by rw [zi_qabs]; exact nat_q ht)
  have g3 : qabs (Z - zs t 0) ≤ (2 : Q) ^ (44 : Int) := by
    rw [c43] at h5
    rw [c44]
    exact qabs_le (((Ab_of_qabs h5).sub t1).mono (by grind))
  have lo : Z - zs t 0 = 0 ∨ (2 : Q) ^ (-144 : Int) ≤ qabs (Z - zs t 0) := by
    by_cases h0 : Z - zs t 0 = 0
    · exact .inl h0
    · exact .inr (g2.low h0)
  obtain ⟨r, v, d, r1, r2, r3, r4, r5, -⟩ := sub_v h1 k.v (grid_in g2 (by decide) (Rat.le_trans g3 (zp_mono (by decide)))).r
  rw [r4] at r2
  obtain ⟨n1, n2⟩ := near_one (qu3 r5) lo
  refine ⟨r, _, r1, r2, r3, ?_, fun e => ?_⟩
  · rcases n1 with h0 | h0
    · exact .inl h0
    · refine .inr ⟨Rat.le_trans (zp_mono (by decide)) h0, ?_⟩
      have c45 : (2 : Q) ^ (45 : Int) = 2 * (2 : Q) ^ (44 : Int) := by decide +kernel
      refine Rat.le_trans (b := (2 : Q) ^ (45 : Int)) ?_ (zp_mono (by decide))
      rw [c45]
      generalize (2 : Q) ^ (44 : Int) = p at *
      grind
  · rw [e] at n2 ⊢
    have := qabs_le h3
    have c33 : (2 : Q) ^ (-33 : Int) = 2 * (2 : Q) ^ (-34 : Int) := by decide +kernel
    rw [c33]
    generalize (2 : Q) ^ (-34 : Int) = p at *
    grind
theorem near_v {z x : Pl} {w t : Int × Int} (h : Q2 z w) (k : Cz x t) (t1 : t.1.natAbs ≤ 1000000) (t2 : t.2.natAbs ≤ 1000000) : ∃ r, cnear z.1 z.2 x.1 x.2 4472074429978902528 = some r ∧ (t = w → r = true) := by
  obtain ⟨a, A, a1, a2, a3, a4, a5⟩ := h.1.diff k.re t1
  obtain ⟨b, B, b1, b2, b3, b4, b5⟩ := h.2.diff k.im t2
  obtain ⟨l, L, l1, l2, l3⟩ := clen_v a2 a3 b2 b3 a4 b4
  refine ⟨fle l 4472074429978902528, ?_, fun e => ?_⟩
  · unfold cnear csub
    rw [a1]
    simp only [Option.bind_some]
    rw [b1]
    simp only [Option.bind_some]
    rw [l1]
    rfl
  · have := l3 (-33) (a5 (by rw [e])) (b5 (by rw [e]))
    rw [l2.fle c30_v]
    exact decide_eq_true this
theorem nb {x : Int} {n : Nat} (h1 : -(n : Int) ≤ x) (h2 : x ≤ n) : x.natAbs ≤ n := by omega
theorem nl {x : Int} (h1 : -9007199254740991 ≤ x) (h2 : x ≤ 9007199254740991) : x.natAbs < 9007199254740992 := by omega
/-- Between bounds. -/
def Bd (x n : Int) : Prop := -n ≤ x ∧ x ≤ n
theorem Bd.mul {x y n m : Int} (h : Bd x n) (k : Bd y m) : Bd (x * y) (n * m) := by
  obtain ⟨h1, h2⟩ := h
  obtain ⟨k1, k2⟩ := k
  have a1 : 0 ≤ (n - x) * (m + y) := Int.mul_nonneg (by omega) (by omega)
  have a2 : 0 ≤ (n + x) * (m - y) := Int.mul_nonneg (by omega) (by omega)
  have a3 : 0 ≤ (n - x) * (m - y) := Int.mul_nonneg (by omega) (by omega)
  have a4 : 0 ≤ (n + x) * (m + y) := Int.mul_nonneg (by omega) (by omega)
  have e1 : (n - x) * (m + y) = n * m + n * y - x * m - x * y := by grind
  have e2 : (n + x) * (m - y) = n * m - n * y + x * m - x * y := by grind
  have e3 : (n - x) * (m - y) = n * m - n * y - x * m + x * y := by grind
  have e4 : (n + x) * (m + y) = n * m + n * y + x * m + x * y := by grind
  rw [e1] at a1
  rw [e2] at a2
  rw [e3] at a3
  rw [e4] at a4
  generalize n * m = a at *
  generalize n * y = b at *
  generalize x * m = c at *
  generalize x * y = d at *
  exact ⟨by omega, by omega⟩
/-- The root of the discriminant. -/
theorem csqA_v {a b : Pl} {u v : Int × Int} (u1 : Bd u.1 1000) (u2 : Bd u.2 1000) (v1 : Bd v.1 1000) (v2 : Bd v.2 1000) (ha : Cz a (u.1 * v.1 - u.2 * v.2, u.1 * v.2 + u.2 * v.1)) (hb : Cz b (-(u.1 + v.1), -(u.2 + v.2))) :
    ∃ (s : Pl) (t : Nat) (P R : Int), csqA a b (4607182418800017408, 0) = some (s, t) ∧ Cz s (P, R) ∧ ((P = u.1 - v.1 ∧ R = u.2 - v.2) ∨ (P = -(u.1 - v.1) ∧ R = -(u.2 - v.2))) ∧ Iz t (-(u.1 + v.1) * P + -(u.2 + v.2) * R) := by
  obtain ⟨m1, m1'⟩ := u1.mul v1
  obtain ⟨m2, m2'⟩ := u2.mul v2
  obtain ⟨m3, m3'⟩ := u1.mul v2
  obtain ⟨m4, m4'⟩ := u2.mul v1
  obtain ⟨u1, u1'⟩ := u1
  obtain ⟨u2, u2'⟩ := u2
  obtain ⟨v1, v1'⟩ := v1
  obtain ⟨v2, v2'⟩ := v2
  obtain ⟨bb, bb1, bb2⟩ := hb.mul hb (A := 2000) (B := 2000) (nb (by show _ ≤ -(u.1 + v.1); omega) (by show -(u.1 + v.1) ≤ _; omega)) (nb (by show _ ≤ -(u.2 + v.2); omega) (by show -(u.2 + v.2) ≤ _; omega)) (nb (by show _ ≤ -(u.1 + v.1); omega) (by show -(u.1 + v.1) ≤ _; omega)) (nb (by show _ ≤ -(u.2 + v.2); omega) (by show -(u.2 + v.2) ≤ _; omega)) (by decide)
  obtain ⟨c4, c41, c42⟩ := one_c.scale four_i (by decide) (by decide)
  simp only [Int.one_mul, Int.zero_mul] at c42
  obtain ⟨ca, ca1, ca2⟩ := c42.mul ha (A := 4) (B := 2000000) (by decide) (by decide) (nb (by show _ ≤ u.1 * v.1 - u.2 * v.2; omega) (by show u.1 * v.1 - u.2 * v.2 ≤ _; omega)) (nb (by show _ ≤ u.1 * v.2 + u.2 * v.1; omega) (by show u.1 * v.2 + u.2 * v.1 ≤ _; omega)) (by decide)
  simp only [Int.zero_mul, Int.sub_zero, Int.add_zero] at ca2
  obtain ⟨p, hp⟩ : ∃ p, p = u.1 - v.1 := ⟨_, rfl⟩
  obtain ⟨q, hq⟩ : ∃ q, q = u.2 - v.2 := ⟨_, rfl⟩
  have e1 : -(u.1 + v.1) * -(u.1 + v.1) - -(u.2 + v.2) * -(u.2 + v.2) - 4 * (u.1 * v.1 - u.2 * v.2) = p * p - q * q := by rw [hp, hq]; grind
  have e2 : -(u.1 + v.1) * -(u.2 + v.2) + -(u.2 + v.2) * -(u.1 + v.1) - 4 * (u.1 * v.2 + u.2 * v.1) = 2 * (p * q) := by rw [hp, hq]; grind
  have bp : Bd p 2000 := ⟨by omega, by omega⟩
  have bq : Bd q 2000 := ⟨by omega, by omega⟩
  obtain ⟨pp, pp'⟩ := bp.mul bp
  obtain ⟨qq, qq'⟩ := bq.mul bq
  obtain ⟨pq, pq'⟩ := bp.mul bq
  obtain ⟨d, d1, d2⟩ := bb2.sub ca2 (by simp only; rw [e1]; exact nl (by omega) (by omega)) (by simp only; rw [e2]; exact nl (by omega) (by omega))
  simp only at d2
  rw [e1, e2] at d2
  obtain ⟨s, s1, σ, s2, s3⟩ := croot_v (nb bp.1 bp.2) (nb bq.1 bq.2) d2.re d2.im
  obtain ⟨P, hP⟩ : ∃ P, P = sgi σ * p := ⟨_, rfl⟩
  obtain ⟨R, hR⟩ : ∃ R, R = sgi σ * q := ⟨_, rfl⟩
  have hPR : (P = p ∧ R = q) ∨ (P = -p ∧ R = -q) := by
    rw [hP, hR]
    unfold sgi
    cases σ
    · left; simp
    · right; simp
  rw [← hP] at s2
  rw [← hR] at s3
  have bP : Bd P 2000 := by obtain ⟨x, y⟩ := bp; rcases hPR with ⟨h, -⟩ | ⟨h, -⟩ <;> exact ⟨by omega, by omega⟩
  have bR : Bd R 2000 := by obtain ⟨x, y⟩ := bq; rcases hPR with ⟨-, h⟩ | ⟨-, h⟩ <;> exact ⟨by omega, by omega⟩
  obtain ⟨n1, n1'⟩ := Bd.mul (x := -(u.1 + v.1)) (n := 2000) ⟨by omega, by omega⟩ bP
  obtain ⟨n2, n2'⟩ := Bd.mul (x := -(u.2 + v.2)) (n := 2000) ⟨by omega, by omega⟩ bR
  obtain ⟨k1, k11, k12⟩ := hb.re.mul s2 (nl (Int.le_trans (by decide) n1) (Int.le_trans n1' (by decide)))
  obtain ⟨k2, k21, k22⟩ := hb.im.mul s3 (nl (Int.le_trans (by decide) n2) (Int.le_trans n2' (by decide)))
  simp only at k12 k22
  generalize hD1 : -(u.1 + v.1) * P = D1 at *
  generalize hD2 : -(u.2 + v.2) * R = D2 at *
  obtain ⟨t, t1, t2⟩ := k12.add k22 (nl (by omega) (by omega))
  refine ⟨s, t, P, R, ?_, ⟨s2, s3⟩, by rw [← hp, ← hq]; exact hPR, by rw [hD1, hD2]; exact t2⟩
  unfold csqA
  rw [bb1]
  simp only [Option.bind_some]
  rw [c41]
  simp only [Option.bind_some]
  rw [ca1]
  simp only [Option.bind_some]
  rw [d1]
  simp only [Option.bind_some]
  rw [s1]
  simp only [Option.bind_some]
  rw [k11]
  simp only [Option.bind_some]
  rw [k21]
  simp only [Option.bind_some]
  rw [t1]
  rfl
/-- The root's sign: the greater zero w is told first. -/
theorem csqS_v {s : Pl} {t : Nat} {u v : Int × Int} {P R : Int} (hs : Cz s (P, R)) (hPR : (P = u.1 - v.1 ∧ R = u.2 - v.2) ∨ (P = -(u.1 - v.1) ∧ R = -(u.2 - v.2))) (ht : Iz t (-(u.1 + v.1) * P + -(u.2 + v.2) * R)) :
    ∃ (s' : Pl) (w w' : Int × Int), s' = (if flt t 0 = true then (Op.negFloat .f64 s.1, Op.negFloat .f64 s.2) else s) ∧ ((w = u ∧ w' = v) ∨ (w = v ∧ w' = u)) ∧ w'.1 * w'.1 + w'.2 * w'.2 ≤ w.1 * w.1 + w.2 * w.2 ∧ Cz s' (-(w.1 - w'.1), -(w.2 - w'.2)) := by
  have hlt : flt t 0 = decide (-(u.1 + v.1) * P + -(u.2 + v.2) * R < 0) := by
    rw [ht.v.flt Fv_0, show (0 : Q) = zs 0 0 from (zs_z 0).symm]
    by_cases h : -(u.1 + v.1) * P + -(u.2 + v.2) * R < 0
    · rw [decide_eq_true h, decide_eq_true (zs_lt.2 h)]
    · rw [decide_eq_false h, decide_eq_false (fun hh => h (zs_lt.1 hh))]
  have dot : ∀ x : Int, (x = 1 ∨ x = -1) → P = x * (u.1 - v.1) → R = x * (u.2 - v.2) → -(u.1 + v.1) * P + -(u.2 + v.2) * R = x * ((v.1 * v.1 + v.2 * v.2) - (u.1 * u.1 + u.2 * u.2)) := by
    intro x _ h1 h2
    rw [h1, h2]
    grind
  rw [hlt]
  by_cases h : -(u.1 + v.1) * P + -(u.2 + v.2) * R < 0
  · rw [decide_eq_true h, if_pos rfl]
    have cz := hs.neg
    simp only at cz
    rcases hPR with ⟨h1, h2⟩ | ⟨h1, h2⟩
    · have k := dot 1 (.inl rfl) (by rw [h1, Int.one_mul]) (by rw [h2, Int.one_mul])
      rw [k, Int.one_mul] at h
      refine ⟨_, u, v, rfl, .inl ⟨rfl, rfl⟩, by omega, ?_⟩
      rw [h1, h2] at cz
      exact cz
    · have k := dot (-1) (.inr rfl) (by rw [h1]; omega) (by rw [h2]; omega)
      rw [k] at h
      refine ⟨_, v, u, rfl, .inr ⟨rfl, rfl⟩, by omega, ?_⟩
      rw [h1, h2] at cz
      rw [show -(v.1 - u.1) = - -(u.1 - v.1) by omega, show -(v.2 - u.2) = - -(u.2 - v.2) by omega]
      exact cz
  · rw [decide_eq_false h, if_neg (by decide)]
    have cz := hs
    rcases hPR with ⟨h1, h2⟩ | ⟨h1, h2⟩
    · have k := dot 1 (.inl rfl) (by rw [h1, Int.one_mul]) (by rw [h2, Int.one_mul])
      rw [k, Int.one_mul] at h
      refine ⟨_, v, u, rfl, .inr ⟨rfl, rfl⟩, by omega, ?_⟩
      rw [h1, h2] at cz
      rw [show -(v.1 - u.1) = u.1 - v.1 by omega, show -(v.2 - u.2) = u.2 - v.2 by omega]
      exact cz
    · have k := dot (-1) (.inr rfl) (by rw [h1]; omega) (by rw [h2]; omega)
      rw [k] at h
      refine ⟨_, u, v, rfl, .inl ⟨rfl, rfl⟩, by omega, ?_⟩
      rw [h1, h2] at cz
      exact cz
/-- The greater zero. -/
theorem csqB_v {b s s' : Pl} {t : Nat} {w w' : Int × Int} (w1 : Bd w.1 1000) (w2 : Bd w.2 1000) (w3 : Bd w'.1 1000) (w4 : Bd w'.2 1000) (hs' : s' = (if flt t 0 = true then (Op.negFloat .f64 s.1, Op.negFloat .f64 s.2) else s)) (hb : Cz b (-(w.1 + w'.1), -(w.2 + w'.2))) (hsw : Cz s' (-(w.1 - w'.1), -(w.2 - w'.2))) :
    ∃ q, csqB b s t = some q ∧ Cz q w := by
  obtain ⟨w1, w1'⟩ := w1
  obtain ⟨w2, w2'⟩ := w2
  obtain ⟨w3, w3'⟩ := w3
  obtain ⟨w4, w4'⟩ := w4
  have e1 : -(w.1 + w'.1) + -(w.1 - w'.1) = 2 * -w.1 := by omega
  have e2 : -(w.2 + w'.2) + -(w.2 - w'.2) = 2 * -w.2 := by omega
  obtain ⟨o, o1, o2⟩ := hb.add hsw (by simp only; rw [e1]; exact nl (by omega) (by omega)) (by simp only; rw [e2]; exact nl (by omega) (by omega))
  simp only at o2
  rw [e1, e2] at o2
  obtain ⟨qx, qx1, qx2⟩ := half_v (n := -w.1) o2.re (nb (by omega) (by omega))
  obtain ⟨qy, qy1, qy2⟩ := half_v (n := -w.2) o2.im (nb (by omega) (by omega))
  rw [Int.neg_neg] at qx2 qy2
  refine ⟨(qx, qy), ?_, ⟨qx2, qy2⟩⟩
  unfold csqB
  rw [← hs']
  simp only
  rw [o1]
  simp only [Option.bind_some]
  unfold cscale
  rw [qx1]
  simp only [Option.bind_some]
  rw [qy1]
  rfl
/-- Both zeros. -/
theorem csqC_v {a q : Pl} {w w' : Int × Int} (w1 : w.1.natAbs ≤ 1000) (w2 : w.2.natAbs ≤ 1000) (w3 : w'.1.natAbs ≤ 1000) (w4 : w'.2.natAbs ≤ 1000) (hgr : w'.1 * w'.1 + w'.2 * w'.2 ≤ w.1 * w.1 + w.2 * w.2) (hq : Cz q w) (ha : Cz a (w.1 * w'.1 - w.2 * w'.2, w.1 * w'.2 + w.2 * w'.1)) :
    ∃ r : Pl × Pl, csqC a (4607182418800017408, 0) q = some r ∧ ((Q2 r.1 w ∧ Q2 r.2 w') ∨ (Q2 r.1 w' ∧ Q2 r.2 w)) := by
  have hno : nought q = (decide (w.1 = 0) && decide (w.2 = 0)) := by
    unfold nought
    rw [hq.re.v.feq Fv_0, hq.im.v.feq Fv_0]
    have : ∀ n : Int, decide (zs n 0 = 0) = decide (n = 0) := by
      intro n
      by_cases h : n = 0
      · rw [h, zs_z]; rfl
      · rw [decide_eq_false h, decide_eq_false (fun hh => h (zs_inj (e := 0) (by rw [hh, zs_z])))]
    rw [this, this]
  unfold csqC
  rw [hno]
  by_cases hz : w.1 = 0 ∧ w.2 = 0
  · rw [hz.1, hz.2, if_pos (by decide)]
    have z1 := sq_nn w'.1
    have z2 := sq_nn w'.2
    rw [hz.1, hz.2] at hgr
    clear w1 w2 w3 w4
    have y1 : w'.1 * w'.1 = 0 := by omega
    have y2 : w'.2 * w'.2 = 0 := by omega
    have x1 : w'.1 = 0 := by rcases Int.mul_eq_zero.1 y1 with h | h <;> exact h
    have x2 : w'.2 = 0 := by rcases Int.mul_eq_zero.1 y2 with h | h <;> exact h
    have zz : Q2 ((0, 0) : Pl) (0, 0) := (⟨zero_i, zero_i⟩ : Cz (0, 0) (0, 0)).q2 (by decide) (by decide)
    refine ⟨_, rfl, .inl ⟨?_, ?_⟩⟩
    · rw [show w = (0, 0) from Prod.ext hz.1 hz.2]; exact zz
    · rw [show w' = (0, 0) from Prod.ext x1 x2]; exact zz
  · rw [if_neg (by rw [Bool.and_eq_true, decide_eq_true_eq, decide_eq_true_eq]; exact hz)]
    obtain ⟨A, A1, A2, A3⟩ := cdiv_v (P := w.1) (Qi := w.2) (r := 1) (s := 0) (w1 := w.1) (w2 := w.2) hq.re hq.im one_i zero_i (by decide) (by decide) (by decide) w1 w2 (by simp) (by simp)
    obtain ⟨B, B1, B2, B3⟩ := cdiv_v (r := w.1) (s := w.2) (w1 := w'.1) (w2 := w'.2) ha.re ha.im hq.re hq.im hz w1 w2 w3 w4 rfl rfl
    rw [A1]
    simp only [Option.bind_some]
    rw [B1]
    simp only [Option.bind_some]
    obtain ⟨f1, f2⟩ := Q2.fin (z := A) (w := w) ⟨A2, A3⟩
    obtain ⟨f3, f4⟩ := Q2.fin (z := B) (w := w') ⟨B2, B3⟩
    rw [f1, f2, f3, f4, if_pos (by decide)]
    split
    · exact ⟨_, rfl, .inr ⟨⟨B2, B3⟩, ⟨A2, A3⟩⟩⟩
    · exact ⟨_, rfl, .inl ⟨⟨A2, A3⟩, ⟨B2, B3⟩⟩⟩
/-- The zeros of a polynomial by two zeros of whole parts. -/
theorem csquare_v {a b : Pl} {u v : Int × Int} (u1 : Bd u.1 1000) (u2 : Bd u.2 1000) (v1 : Bd v.1 1000) (v2 : Bd v.2 1000) (ha : Cz a (u.1 * v.1 - u.2 * v.2, u.1 * v.2 + u.2 * v.1)) (hb : Cz b (-(u.1 + v.1), -(u.2 + v.2))) :
    ∃ r : Pl × Pl, csquare a b (4607182418800017408, 0) = some r ∧ ((Q2 r.1 u ∧ Q2 r.2 v) ∨ (Q2 r.1 v ∧ Q2 r.2 u)) := by
  obtain ⟨s, t, P, R, hA, hs, hPR, ht⟩ := csqA_v u1 u2 v1 v2 ha hb
  obtain ⟨s', w, w', hs', hw, hgr, hsw⟩ := csqS_v hs hPR ht
  have bw : Bd w.1 1000 ∧ Bd w.2 1000 ∧ Bd w'.1 1000 ∧ Bd w'.2 1000 ∧ -(u.1 + v.1) = -(w.1 + w'.1) ∧ -(u.2 + v.2) = -(w.2 + w'.2) ∧ (u.1 * v.1 - u.2 * v.2 = w.1 * w'.1 - w.2 * w'.2) ∧ (u.1 * v.2 + u.2 * v.1 = w.1 * w'.2 + w.2 * w'.1) := by
    rcases hw with ⟨rfl, rfl⟩ | ⟨rfl, rfl⟩
    · exact ⟨u1, u2, v1, v2, rfl, rfl, rfl, rfl⟩
    · exact ⟨v1, v2, u1, u2, by rw [Int.add_comm], by rw [Int.add_comm], by grind, by grind⟩
  obtain ⟨w1, w2, w3, w4, w5, w6, w7, w8⟩ := bw
  rw [w5, w6] at hb
  rw [w7, w8] at ha
  obtain ⟨q, hB, hq⟩ := csqB_v w1 w2 w3 w4 hs' hb hsw
  obtain ⟨r, hC, hr⟩ := csqC_v (nb w1.1 w1.2) (nb w2.1 w2.2) (nb w3.1 w3.2) (nb w4.1 w4.2) hgr hq ha
  refine ⟨r, ?_, ?_⟩
  · unfold csquare
    rw [hA]
    simp only [Option.bind_some]
    rw [hB]
    simp only [Option.bind_some]
    exact hC
  · rcases hw with ⟨rfl, rfl⟩ | ⟨rfl, rfl⟩
    · exact hr
    · exact hr.symm
end
section
open Go.RowKit
theorem int_i {n : Int} (h : n.natAbs ≤ 1000) : Iz (floatOfInt .f64 n) n := by
  have e0 : floatOfInt .f64 n = Ieee.double.write (.number (decide (n < 0)) n.natAbs 0) := by
    rfl
  have e1 : zs n 0 = nv (decide (n < 0)) n.natAbs 0 := by
    rw [nv_int n _ 0 (fun _ => rfl)]
    rfl
  obtain ⟨z, d, h1, h2, h3, -, h5⟩ := write_v e1 (zs_inR (by omega) (by decide) (by decide))
  have hd := h5 (zs_rep (by omega))
  rw [hd] at h3
  have : z = zs n 0 := by rw [h3]; grind
  rw [e0]
  exact ⟨this ▸ h1, h2⟩
set_option synthInstance.maxHeartbeats 2000000 in
set_option synthInstance.maxSize 100000 in
set_option maxRecDepth 100000 in
set_option maxHeartbeats 16000000 in
theorem of_any {w : World} (X Y : Int) : Calls Tryz.prog 6 #[.agg #[.int .i16 X, .int .i16 Y]] w fun e w' => e = .returned (.complex .f64 (floatOfInt .f64 X) (floatOfInt .f64 Y)) ∧ Kp0 w w' := by
  go_enter Tryz.func6, Tryz.ntmps6
  go_wp2_with fail
  go_ret
  exact ⟨rfl, ⟨Gr.out⟩⟩
set_option synthInstance.maxHeartbeats 2000000 in
set_option synthInstance.maxSize 100000 in
set_option maxRecDepth 100000 in
set_option maxHeartbeats 16000000 in
theorem small_any {w : World} (X Y : Int) : Calls Tryz.prog 5 #[.agg #[.int .i16 X, .int .i16 Y]] w fun e w' => e = .returned (.bool (decide (-1000 ≤ X) && decide (X ≤ 1000) && decide (-1000 ≤ Y) && decide (Y ≤ 1000))) ∧ Kp0 w w' := by
  obtain ⟨b1, h1⟩ : ∃ b, decide (-1000 ≤ X) = b := ⟨_, rfl⟩
  obtain ⟨b2, h2⟩ : ∃ b, decide (X ≤ 1000) = b := ⟨_, rfl⟩
  obtain ⟨b3, h3⟩ : ∃ b, decide (-1000 ≤ Y) = b := ⟨_, rfl⟩
  obtain ⟨b4, h4⟩ : ∃ b, decide (Y ≤ 1000) = b := ⟨_, rfl⟩
  rw [h1, h2, h3, h4]
  cases b1 <;> cases b2 <;> cases b3 <;> cases b4
  all_goals
    go_enter Tryz.func5, Tryz.ntmps5
    go_wp2_with fail
    go_ret
    exact ⟨rfl, ⟨Gr.out⟩⟩
def smB (u : Int × Int) : Bool := decide (-1000 ≤ u.1) && decide (u.1 ≤ 1000) && decide (-1000 ≤ u.2) && decide (u.2 ≤ 1000)
def flt2 (u : Int × Int) : Pl := (floatOfInt .f64 u.1, floatOfInt .f64 u.2)
theorem smB_bd {u : Int × Int} (h : smB u = true) : Bd u.1 1000 ∧ Bd u.2 1000 := by
  unfold smB at h
  simp only [Bool.and_eq_true, decide_eq_true_eq] at h
  exact ⟨⟨h.1.1.1, h.1.1.2⟩, ⟨h.1.2, h.2⟩⟩
/-- What the whole comes to. -/
theorem law_v {u v : Int × Int} (hu : smB u = true) (hv : smB v = true) : ∃ (p : Pl × Pl × Pl) (r : Pl × Pl) (n1 n2 n3 n4 : Bool), pof2 (flt2 u) (flt2 v) = some p ∧ okP (flt2 u) = true ∧ okP (flt2 v) = true ∧ okP p.1 = true ∧ okP p.2.1 = true ∧ polyOk [p.1, p.2.1, p.2.2] = true ∧
    csquare p.1 p.2.1 p.2.2 = some r ∧ cnear r.1.1 r.1.2 (flt2 u).1 (flt2 u).2 4472074429978902528 = some n1 ∧ cnear r.2.1 r.2.2 (flt2 v).1 (flt2 v).2 4472074429978902528 = some n2 ∧
    cnear r.1.1 r.1.2 (flt2 v).1 (flt2 v).2 4472074429978902528 = some n3 ∧ cnear r.2.1 r.2.2 (flt2 u).1 (flt2 u).2 4472074429978902528 = some n4 ∧ ((n1 = true ∧ n2 = true) ∨ (n3 = true ∧ n4 = true)) := by
  obtain ⟨u1, u2⟩ := smB_bd hu
  obtain ⟨v1, v2⟩ := smB_bd hv
  have hx : Cz (flt2 u) u := ⟨int_i (nb u1.1 u1.2), int_i (nb u2.1 u2.2)⟩
  have hy : Cz (flt2 v) v := ⟨int_i (nb v1.1 v1.2), int_i (nb v2.1 v2.2)⟩
  obtain ⟨p, p1, p2, p3, p4⟩ := pof2_v hx hy (nb u1.1 u1.2) (nb u2.1 u2.2) (nb v1.1 v1.2) (nb v2.1 v2.2)
  obtain ⟨r, r1, r2⟩ := csquare_v u1 u2 v1 v2 p3 p4
  rw [← p2] at r1
  have big : ∀ {x : Int}, Bd x 1000 → x.natAbs ≤ 1000000 := fun h => Nat.le_trans (nb (n := 1000) h.1 h.2) (by decide)
  have ok1 : okP p.1 = true := by
    obtain ⟨m1, m1'⟩ := u1.mul v1
    obtain ⟨m2, m2'⟩ := u2.mul v2
    obtain ⟨m3, m3'⟩ := u1.mul v2
    obtain ⟨m4, m4'⟩ := u2.mul v1
    refine p3.ok ?_ ?_
    · show (u.1 * v.1 - u.2 * v.2).natAbs ≤ _
      exact nb (by omega) (by omega)
    · show (u.1 * v.2 + u.2 * v.1).natAbs ≤ _
      exact nb (by omega) (by omega)
  have ok2 : okP p.2.1 = true := by
    obtain ⟨u1, u1'⟩ := u1
    obtain ⟨u2, u2'⟩ := u2
    obtain ⟨v1, v1'⟩ := v1
    obtain ⟨v2, v2'⟩ := v2
    refine p4.ok ?_ ?_
    · show (-(u.1 + v.1)).natAbs ≤ _
      exact nb (by omega) (by omega)
    · show (-(u.2 + v.2)).natAbs ≤ _
      exact nb (by omega) (by omega)
  have okx : okP (flt2 u) = true := hx.ok (Nat.le_trans (big u1) (by decide)) (Nat.le_trans (big u2) (by decide))
  have oky : okP (flt2 v) = true := hy.ok (Nat.le_trans (big v1) (by decide)) (Nat.le_trans (big v2) (by decide))
  have pk : polyOk [p.1, p.2.1, p.2.2] = true := by
    have one0 : nought (4607182418800017408, 0) = false := by decide +kernel
    have one1 : okP (4607182418800017408, 0) = true := by decide +kernel
    unfold polyOk
    rw [p2]
    simp only [List.length_cons, List.length_nil, List.all_cons, List.all_nil, ok1, ok2, one1, Bool.and_true, Bool.true_and]
    show (decide (0 < 3) && decide (3 ≤ 65) && (decide (3 = 1) || !nought (4607182418800017408, 0))) = true
    rw [one0]
    rfl
  rcases r2 with ⟨h1, h2⟩ | ⟨h1, h2⟩
  · obtain ⟨n1, a1, b1⟩ := near_v h1 hx (big u1) (big u2)
    obtain ⟨n2, a2, b2⟩ := near_v h2 hy (big v1) (big v2)
    obtain ⟨n3, a3, -⟩ := near_v h1 hy (big v1) (big v2)
    obtain ⟨n4, a4, -⟩ := near_v h2 hx (big u1) (big u2)
    exact ⟨p, r, n1, n2, n3, n4, p1, okx, oky, ok1, ok2, pk, r1, a1, a2, a3, a4, .inl ⟨b1 rfl, b2 rfl⟩⟩
  · obtain ⟨n1, a1, -⟩ := near_v h1 hx (big u1) (big u2)
    obtain ⟨n2, a2, -⟩ := near_v h2 hy (big v1) (big v2)
    obtain ⟨n3, a3, b3⟩ := near_v h1 hy (big v1) (big v2)
    obtain ⟨n4, a4, b4⟩ := near_v h2 hx (big u1) (big u2)
    exact ⟨p, r, n1, n2, n3, n4, p1, okx, oky, ok1, ok2, pk, r1, a1, a2, a3, a4, .inr ⟨b3 rfl, b4 rfl⟩⟩
end
section
open Go.RowKit
set_option synthInstance.maxHeartbeats 2000000 in
set_option synthInstance.maxSize 100000 in
set_option maxRecDepth 100000 in
set_option maxHeartbeats 16000000 in
theorem hZS {w : World} (u v : Int × Int) (hA : ∀ W, Below w.heap.size w W → Calls Tryz.prog 4 #[] W fun e w' => e = .returned (.bool true) ∧ Kp0 W w') : Calls Tryz.prog 3 #[.agg #[.int .i16 u.1, .int .i16 u.2], .agg #[.int .i16 v.1, .int .i16 v.2]] w fun e w' => e = .returned (.bool true) ∧ Kp0 w w' := by
  have A := hid hA
  clear hA
  have hnot := run_not
  have SU := fun (W : World) => small_any (w := W) u.1 u.2
  have SV := fun (W : World) => small_any (w := W) v.1 v.2
  by_cases hs : smB u = true ∧ smB v = true
  · obtain ⟨p, r, n1, n2, n3, n4, l1, l2, l3, l4, l5, l6, l7, l8, l9, l10, l11, l12⟩ := law_v hs.1 hs.2
    have su : ∀ W : World, Calls Tryz.prog 5 #[.agg #[.int .i16 u.1, .int .i16 u.2]] W fun e w' => e = .returned (.bool true) ∧ Kp0 W w' := fun W => by
      have := SU W
      rwa [show (decide (-1000 ≤ u.1) && decide (u.1 ≤ 1000) && decide (-1000 ≤ u.2) && decide (u.2 ≤ 1000)) = true from hs.1] at this
    have sv : ∀ W : World, Calls Tryz.prog 5 #[.agg #[.int .i16 v.1, .int .i16 v.2]] W fun e w' => e = .returned (.bool true) ∧ Kp0 W w' := fun W => by
      have := SV W
      rwa [show (decide (-1000 ≤ v.1) && decide (v.1 ≤ 1000) && decide (-1000 ≤ v.2) && decide (v.2 ≤ 1000)) = true from hs.2] at this
    have L := hid (show _ ∧ _ from ⟨l2, l3⟩)
    have L1 := hid l1
    have L4 := hid l4
    have L5 := hid l5
    have L6 := hid l6
    have L7 := hid l7
    have k8 := fun w => cnear_any _ _ _ _ _ w l8
    have k9 := fun w => cnear_any _ _ _ _ _ w l9
    have k10 := fun w => cnear_any _ _ _ _ _ w l10
    have k11 := fun w => cnear_any _ _ _ _ _ w l11
    have H12 := hid l12
    clear l1 l2 l3 l4 l5 l6 l7 l8 l9 l10 l11 l12 SU SV hs
    obtain ⟨x1, hx1⟩ : ∃ x : Pl, x = flt2 u := ⟨_, rfl⟩
    obtain ⟨y1, hy1⟩ : ∃ y : Pl, y = flt2 v := ⟨_, rfl⟩
    have ou : ∀ W : World, Calls Tryz.prog 6 #[.agg #[.int .i16 u.1, .int .i16 u.2]] W fun e w' => e = .returned (.complex .f64 x1.1 x1.2) ∧ Kp0 W w' := fun W => by rw [hx1]; exact of_any u.1 u.2
    have ov : ∀ W : World, Calls Tryz.prog 6 #[.agg #[.int .i16 v.1, .int .i16 v.2]] W fun e w' => e = .returned (.complex .f64 y1.1 y1.2) ∧ Kp0 W w' := fun W => by rw [hy1]; exact of_any v.1 v.2
    rw [← hx1, ← hy1] at L L1
    rw [← hx1] at k8 k11
    rw [← hy1] at k9 k10
    clear hx1 hy1
    go_enter Tryz.func3, Tryz.ntmps3
    go_wp2_with (first | (go_at_call 4; (with_reducible refine Calls.mono (A.out _ Gr.out) ?_); rintro e wa ⟨rfl, _⟩) | (go_at_call 5; (with_reducible refine Calls.mono (su _) ?_); rintro e w1 ⟨rfl, _⟩) | (go_at_call 5; (with_reducible refine Calls.mono (sv _) ?_); rintro e w2 ⟨rfl, _⟩) | (go_at_call 6; (with_reducible refine Calls.mono (ou _) ?_); rintro e w3 ⟨rfl, _⟩) | (go_at_call 6; (with_reducible refine Calls.mono (ov _) ?_); rintro e w4 ⟨rfl, _⟩) | (go_at_call 7; (with_reducible refine Calls.mono (pof2_any x1 y1 L.out.1 L.out.2 L1.out L4.out L5.out) ?_); rintro e w5 ⟨b, rfl, hb1, hb2⟩) | (go_at_call 8; (with_reducible refine Calls.mono (csquare_any _ _ _ L6.out L7.out) ?_); rintro e w6 ⟨rfl, _⟩))
    rcases H12.out with ⟨rfl, rfl⟩ | ⟨rfl, rfl⟩
    · clear H12
      cases n3 <;> cases n4
      all_goals
        go_wp2_with (first | (go_at_call 9; (with_reducible refine Calls.mono (k8 _) ?_); rintro e wc ⟨rfl, rfl⟩) | (go_at_call 9; (with_reducible refine Calls.mono (k9 _) ?_); rintro e wc ⟨rfl, rfl⟩) | (go_at_call 9; (with_reducible refine Calls.mono (k10 _) ?_); rintro e wc ⟨rfl, rfl⟩) | (go_at_call 9; (with_reducible refine Calls.mono (k11 _) ?_); rintro e wc ⟨rfl, rfl⟩))
        go_ret
        exact ⟨rfl, ⟨Gr.out⟩⟩
    · clear H12
      cases n1 <;> cases n2
      all_goals
        go_wp2_with (first | (go_at_call 9; (with_reducible refine Calls.mono (k8 _) ?_); rintro e wc ⟨rfl, rfl⟩) | (go_at_call 9; (with_reducible refine Calls.mono (k9 _) ?_); rintro e wc ⟨rfl, rfl⟩) | (go_at_call 9; (with_reducible refine Calls.mono (k10 _) ?_); rintro e wc ⟨rfl, rfl⟩) | (go_at_call 9; (with_reducible refine Calls.mono (k11 _) ?_); rintro e wc ⟨rfl, rfl⟩))
        go_ret
        exact ⟨rfl, ⟨Gr.out⟩⟩
  · have EU : ∀ W : World, Calls Tryz.prog 5 #[.agg #[.int .i16 u.1, .int .i16 u.2]] W fun e w' => e = .returned (.bool (smB u)) ∧ Kp0 W w' := SU
    have EV : ∀ W : World, Calls Tryz.prog 5 #[.agg #[.int .i16 v.1, .int .i16 v.2]] W fun e w' => e = .returned (.bool (smB v)) ∧ Kp0 W w' := SV
    clear SU SV
    generalize smB u = b1 at *
    generalize smB v = b2 at *
    cases b1
    · clear hs
      go_enter Tryz.func3, Tryz.ntmps3
      go_wp2_with (first | (go_at_call 4; (with_reducible refine Calls.mono (A.out _ Gr.out) ?_); rintro e wa ⟨rfl, _⟩) | (go_at_call 5; (with_reducible refine Calls.mono (EU _) ?_); rintro e w1 ⟨rfl, _⟩))
      go_ret
      exact ⟨rfl, ⟨Gr.out⟩⟩
    · cases b2
      · clear hs
        go_enter Tryz.func3, Tryz.ntmps3
        go_wp2_with (first | (go_at_call 4; (with_reducible refine Calls.mono (A.out _ Gr.out) ?_); rintro e wa ⟨rfl, _⟩) | (go_at_call 5; (with_reducible refine Calls.mono (EU _) ?_); rintro e w1 ⟨rfl, _⟩) | (go_at_call 5; (with_reducible refine Calls.mono (EV _) ?_); rintro e w1 ⟨rfl, _⟩))
        go_ret
        exact ⟨rfl, ⟨Gr.out⟩⟩
      · exact absurd ⟨rfl, rfl⟩ hs
end
section
open Go.RowKit
open Go.ChangeShapes Go.WideShapes Go.ChangeAt Go.RowKit
set_option maxRecDepth 100000 in
theorem zerosSquare_lifted (os : Os) (started : os.Started) (H : Type) (enc : TypeId × Value → H) :
    ReturnsInHanded {} Tryz.checked os 3 .any (fun w args => (Rows.zerosSquareSpec.pre enc Tryz.prog Tryz.f3 [] false w args ∧ laidMetH Tryz.prog Rows.zerosSquareRow.laid w) ∧ sizedMet enc Tryz.prog Tryz.f3 (OpenSpec.ofChange Rows.zerosSquareSpec) false w args)
      (Rows.zerosSquareSpec.post enc Tryz.prog Tryz.f3 false true false false) := by
  refine returnsInHanded_of_change_and (C := Tryz.checked) (X := fun w _ => laidMetH Tryz.prog Rows.zerosSquareRow.laid w) (fun _ _ _ hh h => h.of_heap hh) own started (by kernel_rfl) Tryz.func3
    (ChangeSpec.witness_at (enc := enc) (C := Tryz.checked) (os := os) (X := fun w _ => laidMetH Tryz.prog Rows.zerosSquareRow.laid w) false (laidWorld os) #[.agg #[.int .i16 0, .int .i16 0], .agg #[.int .i16 0, .int .i16 0]] 8 rfl (by kernel_rfl) (by kernel_rfl) (by kernel_rfl) (by kernel_rfl) (by kernel_rfl) (laidWorld_met os _)) ?_
  intro W base args ds gs before hval0 hW _ _ hL _
  have hval : ∀ (j : Nat) t v, Tryz.f3.params[j]? = some t → args[j]? = some v → Value.okWide Tryz.prog W .any base t v := hval0
  have hW' := hW
  obtain ⟨p, q, hA0, hV0, rfl, hfz, hnd⟩ := hW
  have hA : DataW.TrodAll enc Tryz.prog W 0 (fun _ => true) true Tryz.f3.params.toList args.toList ds p := hA0
  have hV : DataW.TrodVars enc Tryz.prog W (fun _ => true) [] gs q := hV0
  rw [Tryz.params3] at hA hval
  obtain ⟨v0, v1, d0, d1, p0, p1, rfl, rfl, rfl, h0, h1⟩ := trodAll_two hA
  obtain ⟨x0, y0, rfl, rfl, rfl, bx0, by0⟩ := open_g (hval 0 24 v0 rfl rfl) h0
  obtain ⟨x1, y1, rfl, rfl, rfl, bx1, by1⟩ := open_g (hval 1 24 v1 rfl rfl) h1
  have hVars := vr_of_laid hL
  obtain ⟨rfl, rfl⟩ := trodVars_none hV
  refine (hZS (w := W) (x0, y0) (x1, y1) (fun W2 hb => awake_any (hVars.below hb))).mono fun e W' ⟨he, hb⟩ => ?_
  subst he
  have hfn0 : Rows.zerosSquareSpec.fn H ([dG x0 y0, dG x1 y1] ++ []) = { results := [.lit (.bool true)], args := [dG x0 y0, dG x1 y1] } := by simp [Rows.zerosSquareSpec]
  have hres : ∀ (b : Nat) (sp : Nat → Bool) (hd : Bool), DataW.TrodAll enc Tryz.prog W' b sp hd Tryz.f3.resultTypes.toList ((Value.bool true).resultList Tryz.f3.resultTypes.size) [.lit (.bool true)] [] := fun _ _ _ => trodAll_mk1 (shut_bool Tryz.underlying4 true)
  have harg : ∀ (b : Nat) (sp : Nat → Bool) (hd : Bool), DataW.TrodAll enc Tryz.prog W' b sp hd Tryz.f3.params.toList (#[.agg #[.int .i16 x0, .int .i16 y0], .agg #[.int .i16 x1, .int .i16 y1]] : Array Value).toList [dG x0 y0, dG x1 y1] ([] ++ []) := fun _ _ _ => trodAll_mk2 (shut_g bx0 by0) (shut_g bx1 by1)
  refine ⟨_, rfl, _, _, _, [], [] ++ [], [], hW', ?_, ?_, ?_, World.keptBut_mono (fun p hp => by cases hp) (hb.out.frame (· ∈ ([] : List MemPlace))), ?_⟩
  · rw [hfn0]; exact hres _ _ _
  · rw [hfn0]; exact harg _ _ _
  · rw [hfn0]; rfl
  · exact fun h => by cases h
theorem zerosSquare_over : Rows.ZerosSquareSaid :=
  OpenClaim.holds_of_wide 3 Tryz.f3 rfl rfl rfl rfl rfl rfl rfl ⟨rfl, rfl, rfl, rfl, rfl⟩ rfl rfl rfl rfl rfl (by kernel_rfl) Tryz.func3 (by kernel_rfl)
    (of_decide_eq_true (by kernel_rfl)) (by unfold Func.isWrapper; first | (rw [if_pos (by decide +kernel)]; kernel_rfl) | (rw [if_neg (by decide +kernel)]; exact ⟨rfl, rfl⟩))
    (fun os started H enc _ => zerosSquare_lifted os started H enc)
theorem zerosSquare_holds : Rows.ZerosSquareCardSaid :=
  Claim7.holds_tied_plain_at .later [] [.data] true (true, "eda3427f6f739160a87f29e5d40769a8b664877ed8062fde07f1190da7256880") false
    zerosSquare_over (fun _ h => by cases h) (by kernel_rfl) (fun _ h => by cases h) zerosSquare_row_tie rfl ⟨rfl, rfl⟩ (by kernel_rfl) rfl
    (fun f fn hf hfn => by
      obtain rfl : f = 3 := Option.some.inj ((show Tryz.prog.funcNamed "eddy/eddylaw09.ZerosSquare" = some 3 by kernel_rfl).symm.trans hf) |>.symm
      obtain rfl : fn = Tryz.f3 := (Option.some.inj (Tryz.func3.symm.trans hfn)).symm
      exact ⟨by kernel_rfl, fun j t ht => by
        rw [Tryz.params3] at ht
        rcases j with _ | j
        · obtain rfl : t = 24 := by simpa using ht.symm
          exact (show Tryz.prog.wantsStandIn 24 = false by kernel_rfl)
        · rcases j with _ | j
          · obtain rfl : t = 24 := by simpa using ht.symm
            exact (show Tryz.prog.wantsStandIn 24 = false by kernel_rfl)
          · simp at ht⟩)
    (by kernel_rfl)
end
end Go.Proofs.YtcoillcppmibgaaGreatDoor
