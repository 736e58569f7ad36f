/- Lehmer's steps, a figure of a quotient, plainly. A figure of a quotient. -/
import Derived.Test.YtcoillcppmibgaaGreatDoorD07
set_option linter.unusedSimpArgs false
set_option linter.unusedVariables false
namespace Go.Proofs.YtcoillcppmibgaaGreatDoor
section
open Go.RowKit
namespace Big
/-! Lehmer's way to the greatest common divisor. -/
/-- The steps told by the first bits: what stands, and what it is of. -/
structure Lh (X Y x y u1 u2 v1 v2 : Nat) (ev : Bool) : Prop where
  hX : X = v2 * x + v1 * y
  hY : Y = u2 * x + u1 * y
  det : if ev then v1 * u2 = v2 * u1 + 1 else u1 * v2 = u2 * v1 + 1
  xy : y ≤ x
  st : (ev = false ∧ u1 = 1 ∧ u2 = 0 ∧ v1 = 0 ∧ v2 = 1) ∨ (u1 ≤ v1 ∧ u2 ≤ v2 ∧ 1 ≤ u2)
  v12 : v1 ≤ v2
  v2p : 1 ≤ v2
theorem Lh.start {X Y : Nat} (h : Y ≤ X) : Lh X Y X Y 1 0 0 1 false := ⟨by omega, by omega, by simp, h, .inl ⟨rfl, rfl, rfl, rfl, rfl⟩, by omega, by omega⟩
theorem Lh.step {X Y x y u1 u2 v1 v2 : Nat} {ev : Bool} (L : Lh X Y x y u1 u2 v1 v2 ev) (hy : 0 < y) : Lh X Y y (x - x / y * y) u2 (u1 + x / y * u2) v2 (v1 + x / y * v2) (!ev) := by
  obtain ⟨h1, h2, h3, h4, h5, h6, h7⟩ := L
  obtain ⟨q, hq⟩ : ∃ q, q = x / y := ⟨_, rfl⟩
  obtain ⟨r, hr⟩ : ∃ r, r = x - x / y * y := ⟨_, rfl⟩
  have hle : x / y * y ≤ x := Nat.div_mul_le_self x y
  have hx : x = q * y + r := by rw [hq, hr]; omega
  have hlt : r < y := by
    have := Nat.mod_lt x hy
    have e := Nat.div_add_mod' x y
    omega
  have hq1 : 1 ≤ q := by
    rw [hq]
    exact (Nat.one_le_div_iff hy).2 h4
  rw [← hr, ← hq]
  refine ⟨?_, ?_, ?_, by omega, .inr ?_, ?_, ?_⟩
  · rw [h1, hx, Nat.mul_add, Nat.add_mul]
    rw [show v2 * (q * y) = q * v2 * y by rw [← Nat.mul_assoc, Nat.mul_comm v2 q]]
    omega
  · rw [h2, hx, Nat.mul_add, Nat.add_mul]
    rw [show u2 * (q * y) = q * u2 * y by rw [← Nat.mul_assoc, Nat.mul_comm u2 q]]
    omega
  · cases ev
    · simp only [Bool.not_false, if_true, Bool.false_eq_true, if_false] at h3 ⊢
      rw [Nat.mul_add, Nat.add_mul, Nat.mul_comm v2 u1, h3]
      rw [show v2 * (q * u2) = q * v2 * u2 by rw [← Nat.mul_assoc, Nat.mul_comm v2 q], Nat.mul_comm v1 u2]
      omega
    · simp only [Bool.not_true, if_true, Bool.false_eq_true, if_false] at h3 ⊢
      rw [Nat.mul_add, Nat.add_mul, Nat.mul_comm u2 v1, h3]
      rw [show u2 * (q * v2) = q * u2 * v2 by rw [← Nat.mul_assoc, Nat.mul_comm u2 q], Nat.mul_comm u1 v2]
      omega
  · rcases h5 with ⟨-, rfl, rfl, rfl, rfl⟩ | ⟨h8, h9, h10⟩
    · omega
    · have := Nat.mul_le_mul_left q h9
      have := Nat.mul_le_mul hq1 h10
      omega
  · have := Nat.mul_le_mul hq1 (Nat.le_refl v2)
    omega
  · have := Nat.mul_le_mul hq1 h7
    omega
/-- The steps, taken of the numbers themselves. -/
theorem lehmer_core {A B X Y N α β x y p1 p2 q1 q2 : Nat} (hA : A = X * N + α) (hB : B = Y * N + β) (hα : α < N) (hβ : β < N) (hX : X = q2 * x + q1 * y) (hY : Y = p2 * x + p1 * y) (det : p1 * q2 = p2 * q1 + 1) (hp : p2 ≤ y) (hd : q1 + q2 ≤ x - y) (hxy : y ≤ x) (hq : 1 ≤ q1 + q2) :
    q1 * B ≤ p1 * A ∧ p2 * A ≤ q2 * B ∧ q2 * B - p2 * A < p1 * A - q1 * B ∧ A = q2 * (p1 * A - q1 * B) + q1 * (q2 * B - p2 * A) ∧ B = p2 * (p1 * A - q1 * B) + p1 * (q2 * B - p2 * A) := by
  have e1 : p1 * X = q1 * Y + x := by
    have a1 : p1 * X = p1 * q2 * x + p1 * q1 * y := by rw [hX, Nat.mul_add, Nat.mul_assoc, Nat.mul_assoc]
    have a2 : q1 * Y = p2 * q1 * x + p1 * q1 * y := by rw [hY, Nat.mul_add, ← Nat.mul_assoc, ← Nat.mul_assoc, Nat.mul_comm q1 p2, Nat.mul_comm q1 p1]
    rw [a1, a2, det, Nat.add_mul]; omega
  have e2 : q2 * Y = p2 * X + y := by
    have a1 : q2 * Y = p2 * q2 * x + p1 * q2 * y := by rw [hY, Nat.mul_add, ← Nat.mul_assoc, ← Nat.mul_assoc, Nat.mul_comm q2 p2, Nat.mul_comm q2 p1]
    have a2 : p2 * X = p2 * q2 * x + p2 * q1 * y := by rw [hX, Nat.mul_add, Nat.mul_assoc, Nat.mul_assoc]
    rw [a1, a2, det, Nat.add_mul]; omega
  have f1 : p1 * A + q1 * β = q1 * B + x * N + p1 * α := by
    rw [hA, hB, Nat.mul_add, Nat.mul_add, ← Nat.mul_assoc, ← Nat.mul_assoc, e1, Nat.add_mul]; omega
  have f2 : q2 * B + p2 * α = p2 * A + y * N + q2 * β := by
    rw [hA, hB, Nat.mul_add, Nat.mul_add, ← Nat.mul_assoc, ← Nat.mul_assoc, e2, Nat.add_mul]; omega
  have g1 : q1 * β ≤ x * N := Nat.mul_le_mul (by omega) (Nat.le_of_lt hβ)
  have g2 : p2 * α ≤ y * N := Nat.mul_le_mul hp (Nat.le_of_lt hα)
  have g3 : (q1 + q2) * β < (x - y) * N := by
    have h1 : (q1 + q2) * β < (q1 + q2) * N := Nat.mul_lt_mul_of_pos_left hβ (by omega)
    exact Nat.lt_of_lt_of_le h1 (Nat.mul_le_mul_right _ hd)
  rw [Nat.add_mul, Nat.sub_mul] at g3
  have g4 : y * N ≤ x * N := Nat.mul_le_mul_right _ hxy
  have k1 : q1 * B ≤ p1 * A := by omega
  have k2 : p2 * A ≤ q2 * B := by omega
  refine ⟨k1, k2, by omega, ?_, ?_⟩
  · rw [Nat.mul_sub, Nat.mul_sub, ← Nat.mul_assoc, ← Nat.mul_assoc, ← Nat.mul_assoc, ← Nat.mul_assoc, Nat.mul_comm q2 p1, det, Nat.mul_comm q1 q2, Nat.mul_comm q1 p2, Nat.add_mul, Nat.one_mul]
    have m1 : q2 * q1 * B ≤ p2 * q1 * A + A := by
      have := Nat.mul_le_mul_left q2 k1
      rw [← Nat.mul_assoc, ← Nat.mul_assoc, Nat.mul_comm q2 p1, det, Nat.add_mul, Nat.one_mul] at this
      exact this
    have m2 : p2 * q1 * A ≤ q2 * q1 * B := by
      have := Nat.mul_le_mul_left q1 k2
      rw [← Nat.mul_assoc, ← Nat.mul_assoc, Nat.mul_comm q1 p2, Nat.mul_comm q1 q2] at this
      exact this
    omega
  · rw [Nat.mul_sub, Nat.mul_sub, ← Nat.mul_assoc, ← Nat.mul_assoc, ← Nat.mul_assoc, ← Nat.mul_assoc, det, Nat.mul_comm p1 p2, Nat.add_mul, Nat.one_mul]
    have m1 : p2 * q1 * B ≤ p2 * p1 * A := by
      have := Nat.mul_le_mul_left p2 k1
      rw [← Nat.mul_assoc, ← Nat.mul_assoc] at this
      exact this
    have m2 : p2 * p1 * A ≤ p2 * q1 * B + B := by
      have := Nat.mul_le_mul_left p1 k2
      rw [← Nat.mul_assoc, ← Nat.mul_assoc, det, Nat.mul_comm p1 p2, Nat.add_mul, Nat.one_mul] at this
      exact this
    omega
theorem gcd_turn {A B a b p1 p2 q1 q2 : Nat} (ha : a = p1 * A - q1 * B) (hb : b = q2 * B - p2 * A) (hA : A = q2 * a + q1 * b) (hB : B = p2 * a + p1 * b) : Nat.gcd a b = Nat.gcd A B := by
  refine Nat.dvd_antisymm (Nat.dvd_gcd ?_ ?_) (Nat.dvd_gcd ?_ ?_)
  · rw [hA]; exact Nat.dvd_add (Nat.dvd_mul_left_of_dvd (Nat.gcd_dvd_left a b) _) (Nat.dvd_mul_left_of_dvd (Nat.gcd_dvd_right a b) _)
  · rw [hB]; exact Nat.dvd_add (Nat.dvd_mul_left_of_dvd (Nat.gcd_dvd_left a b) _) (Nat.dvd_mul_left_of_dvd (Nat.gcd_dvd_right a b) _)
  · rw [ha]; exact Nat.dvd_sub (Nat.dvd_mul_left_of_dvd (Nat.gcd_dvd_left A B) _) (Nat.dvd_mul_left_of_dvd (Nat.gcd_dvd_right A B) _)
  · rw [hb]; exact Nat.dvd_sub (Nat.dvd_mul_left_of_dvd (Nat.gcd_dvd_right A B) _) (Nat.dvd_mul_left_of_dvd (Nat.gcd_dvd_left A B) _)
/-- A round of several steps at once: at the last step's beginning the test was passed. -/
theorem lehmer_round {A B N x y u1 u2 v1 v2 : Nat} {ev : Bool} (hN : 0 < N) (L : Lh (A / N) (B / N) x y u1 u2 v1 v2 ev) (hy : v2 ≤ y) (hd : v1 + v2 ≤ x - y) (hv : v1 ≠ 0) :
    (ev = false → v1 * B ≤ u1 * A ∧ u2 * A ≤ v2 * B ∧ v2 * B - u2 * A < u1 * A - v1 * B ∧ u1 * A - v1 * B ≤ B ∧ Nat.gcd (u1 * A - v1 * B) (v2 * B - u2 * A) = Nat.gcd A B) ∧
    (ev = true → u1 * A ≤ v1 * B ∧ v2 * B ≤ u2 * A ∧ u2 * A - v2 * B < v1 * B - u1 * A ∧ v1 * B - u1 * A ≤ B ∧ Nat.gcd (v1 * B - u1 * A) (u2 * A - v2 * B) = Nat.gcd A B) := by
  obtain ⟨h1, h2, h3, h4, h5, h6, h7⟩ := L
  rcases h5 with ⟨-, -, -, h, -⟩ | ⟨h8, h9, h10⟩
  · exact absurd h hv
  have hA : A = A / N * N + A % N := (Nat.div_add_mod' A N).symm
  have hB : B = B / N * N + B % N := (Nat.div_add_mod' B N).symm
  have hα := Nat.mod_lt A hN
  have hβ := Nat.mod_lt B hN
  refine ⟨fun e => ?_, fun e => ?_⟩
  · subst e
    simp only [Bool.false_eq_true, if_false] at h3
    obtain ⟨c1, c2, c3, c4, c5⟩ := lehmer_core hA hB hα hβ h1 h2 h3 (by omega) hd h4 (by omega)
    refine ⟨c1, c2, c3, ?_, gcd_turn rfl rfl c4 c5⟩
    have := Nat.mul_le_mul_right (u1 * A - v1 * B) h10
    omega
  · subst e
    simp only [if_true] at h3
    obtain ⟨c1, c2, c3, c4, c5⟩ := lehmer_core hB hA hβ hα h2 h1 h3 hy (by omega) h4 (by omega)
    refine ⟨c1, c2, c3, ?_, ?_⟩
    · have := Nat.mul_le_mul_right (v1 * B - u1 * A) h10
      omega
    · rw [gcd_turn rfl rfl c4 c5, Nat.gcd_comm]
/-- How great the steps' numbers become. -/
theorem Lh.small {X Y x y u1 u2 v1 v2 : Nat} {ev : Bool} (L : Lh X Y x y u1 u2 v1 v2 ev) (hX : X < 2 ^ 60) (hy : v2 ≤ y) : v2 < 2 ^ 30 ∧ v1 < 2 ^ 30 ∧ u1 < 2 ^ 30 ∧ u2 < 2 ^ 30 := by
  obtain ⟨h1, h2, h3, h4, h5, h6, h7⟩ := L
  have a1 : v2 * v2 ≤ v2 * x := Nat.mul_le_mul_left _ (by omega)
  have a2 : v2 < 2 ^ 30 := by
    rcases Nat.lt_or_ge v2 (2 ^ 30) with h | h
    · exact h
    · have := Nat.mul_le_mul h h
      have e : (2 : Nat) ^ 30 * 2 ^ 30 = 2 ^ 60 := by decide
      omega
  refine ⟨a2, by omega, ?_, ?_⟩
  · rcases h5 with ⟨-, rfl, -⟩ | ⟨h8, h9, h10⟩
    · decide
    · omega
  · rcases h5 with ⟨-, -, rfl, -⟩ | ⟨h8, h9, h10⟩
    · decide
    · omega
/-! A figure of a quotient. -/
/-- The first words of what is divided, and of what it is divided by. -/
structure Fg (U V K num vt vs u2 : Nat) : Prop where
  hV : ∃ v', V = (vt * 4294967296 + vs) * K + v' ∧ v' < K
  hU : ∃ u', U = (num * 4294967296 + u2) * K + u' ∧ u' < K
  lt : U < V * 4294967296
  top : 2147483648 ≤ vt
  vt : vt < 4294967296
  vs : vs < 4294967296
  u2 : u2 < 4294967296
theorem Fg.pos {U V K num vt vs u2 : Nat} (F : Fg U V K num vt vs u2) : 0 < V ∧ 0 < K := by
  obtain ⟨v', hv, hv'⟩ := F.hV
  have hK : 0 < K := by omega
  have h1 : 1 * K ≤ (vt * 4294967296 + vs) * K := Nat.mul_le_mul_right _ (by have := F.top; omega)
  exact ⟨by omega, hK⟩
theorem Fg.num_le {U V K num vt vs u2 : Nat} (F : Fg U V K num vt vs u2) : num ≤ vt * 4294967296 + vs := by
  obtain ⟨v', hv, hv'⟩ := F.hV
  obtain ⟨u', hu, hu'⟩ := F.hU
  rcases Nat.lt_or_ge (vt * 4294967296 + vs) num with h | h
  · exfalso
    have h1 : (vt * 4294967296 + vs + 1) * K ≤ num * K := Nat.mul_le_mul_right _ h
    rw [Nat.add_mul, Nat.one_mul] at h1
    have h2 := F.lt
    have h3 : num * 4294967296 * K ≤ (num * 4294967296 + u2) * K := Nat.mul_le_mul_right _ (by omega)
    rw [show num * 4294967296 * K = num * K * 4294967296 by rw [Nat.mul_assoc, Nat.mul_comm 4294967296 K, ← Nat.mul_assoc]] at h3
    have h4 : V < num * K := by omega
    have h5 : V * 4294967296 < num * K * 4294967296 := Nat.mul_lt_mul_of_pos_right h4 (by decide)
    rw [hu] at h2
    omega
  · exact h
theorem Fg.start {U V K num vt vs u2 : Nat} (F : Fg U V K num vt vs u2) : U / V ≤ num / vt ∧ num / vt ≤ 4294967297 := by
  obtain ⟨v', hv, hv'⟩ := F.hV
  obtain ⟨u', hu, hu'⟩ := F.hU
  have hn := F.num_le
  have ht := F.top
  have hs := F.vs
  have h0 := F.u2
  refine ⟨?_, ?_⟩
  · rw [Nat.le_div_iff_mul_le (by omega)]
    obtain ⟨q, hq⟩ : ∃ q, q = U / V := ⟨_, rfl⟩
    rw [← hq]
    have h1 : q * V ≤ U := by rw [hq]; exact Nat.div_mul_le_self U V
    rcases Nat.lt_or_ge num (q * vt) with h | h
    · exfalso
      have h2 : q * (vt * 4294967296 * K) ≤ q * V := Nat.mul_le_mul_left _ (by rw [hv]; exact Nat.le_trans (Nat.mul_le_mul_right K (Nat.le_add_right (vt * 4294967296) vs)) (Nat.le_add_right _ _))
      have h3 : (num + 1) * (4294967296 * K) ≤ q * vt * (4294967296 * K) := Nat.mul_le_mul_right _ h
      rw [show q * (vt * 4294967296 * K) = q * vt * (4294967296 * K) by rw [Nat.mul_assoc vt, Nat.mul_assoc]] at h2
      have h4 : (num * 4294967296 + u2) * K + K ≤ (num + 1) * (4294967296 * K) := by
        rw [show (num + 1) * (4294967296 * K) = (num * 4294967296 + 4294967296) * K by rw [← Nat.mul_assoc, Nat.add_mul num 1, Nat.one_mul]]
        rw [← Nat.succ_mul]
        exact Nat.mul_le_mul_right _ (by omega)
      omega
    · exact h
  · have h1 : num / vt < 4294967298 := by
      rw [Nat.div_lt_iff_lt_mul (by omega)]
      omega
    omega
theorem Fg.down {U V K num vt vs u2 g r : Nat} (F : Fg U V K num vt vs u2) (hg : g * vt + r = num) (hq : U / V ≤ g) (hc : 4294967296 ≤ g ∨ r * 4294967296 + u2 < g * vs) : 1 ≤ g ∧ (g - 1) * vt + (r + vt) = num ∧ U / V ≤ g - 1 := by
  obtain ⟨v', hv, hv'⟩ := F.hV
  obtain ⟨u', hu, hu'⟩ := F.hU
  obtain ⟨hVp, hKp⟩ := F.pos
  have g1 : 1 ≤ g := by
    rcases hc with h | h
    · omega
    · rcases Nat.eq_zero_or_pos g with h0 | h0
      · subst h0; simp at h
      · exact h0
  have e : (g - 1) * vt + (r + vt) = num := by
    obtain ⟨j, rfl⟩ : ∃ j, g = j + 1 := ⟨g - 1, by omega⟩
    rw [Nat.add_sub_cancel]
    rw [Nat.add_mul, Nat.one_mul] at hg
    omega
  refine ⟨g1, e, ?_⟩
  have hlt : U / V < g := by
    rcases hc with h | h
    · have : U / V < 4294967296 := by rw [Nat.div_lt_iff_lt_mul hVp, Nat.mul_comm]; exact F.lt
      omega
    · rw [Nat.div_lt_iff_lt_mul hVp]
      have h1 : (num * 4294967296 + u2 + 1) ≤ g * (vt * 4294967296 + vs) := by
        rw [Nat.mul_add, ← hg, Nat.add_mul]
        rw [show g * (vt * 4294967296) = g * vt * 4294967296 by rw [Nat.mul_assoc]]
        omega
      have h2 := Nat.mul_le_mul_right K h1
      rw [Nat.add_mul, Nat.one_mul] at h2
      have h3 : g * (vt * 4294967296 + vs) * K ≤ g * V := by rw [Nat.mul_assoc]; exact Nat.mul_le_mul_left _ (by omega)
      omega
  omega
theorem Fg.stop {U V K num vt vs u2 g r : Nat} (F : Fg U V K num vt vs u2) (hg : g * vt + r = num) (hr : r < 4294967296) (hb : 4294967296 ≤ r + vt) (g1 : 1 ≤ g) : g - 1 < 4294967296 := by
  have hn := F.num_le
  have ht := F.top
  have hs := F.vs
  rcases Nat.lt_or_ge (g - 1) 4294967296 with h | h
  · exact h
  · exfalso
    have h1 : 4294967297 * vt ≤ g * vt := Nat.mul_le_mul_right _ (by omega)
    omega
theorem Fg.fin {U V K num vt vs u2 g r : Nat} (F : Fg U V K num vt vs u2) (hg : g * vt + r = num) (hB : g < 4294967296) (hc : g * vs ≤ r * 4294967296 + u2 ∨ 4294967296 ≤ r) : g ≤ U / V + 1 := by
  obtain ⟨v', hv, hv'⟩ := F.hV
  obtain ⟨u', hu, hu'⟩ := F.hU
  obtain ⟨hVp, hKp⟩ := F.pos
  have hs := F.vs
  have ht := F.top
  have hc' : g * vs ≤ r * 4294967296 + u2 := by
    rcases hc with h | h
    · exact h
    · have h1 : g * vs ≤ 4294967296 * 4294967296 := Nat.mul_le_mul (by omega) (by omega)
      omega
  rcases Nat.eq_zero_or_pos g with h0 | h0
  · rw [h0]; exact Nat.zero_le _
  have h1 : g * (vt * 4294967296 + vs) ≤ num * 4294967296 + u2 := by
    have a1 : g * (vt * 4294967296 + vs) = g * vt * 4294967296 + g * vs := by rw [Nat.mul_add, ← Nat.mul_assoc]
    have a2 : num * 4294967296 = g * vt * 4294967296 + r * 4294967296 := by rw [← hg, Nat.add_mul]
    omega
  have h2 := Nat.mul_le_mul_right K h1
  have h3 : g * v' ≤ g * K := Nat.mul_le_mul_left _ (by omega)
  have h4 : g * K ≤ 4294967296 * K := Nat.mul_le_mul_right _ (by omega)
  have h5 : 4294967296 * K ≤ vt * 4294967296 * K := Nat.mul_le_mul_right _ (by omega)
  have h6 : g * V ≤ U + V := by
    rw [hv, Nat.mul_add, ← Nat.mul_assoc, hu, Nat.add_mul (vt * 4294967296)]
    omega
  have h7 : g - 1 ≤ U / V := by
    rw [Nat.le_div_iff_mul_le hVp, Nat.sub_mul, Nat.one_mul]
    omega
  exact Nat.sub_le_iff_le_add.1 h7
/-- What is taken off tells which of two the figure is. -/
theorem figure_exact {U V g : Nat} (hV : 0 < V) (h1 : U / V ≤ g) (h2 : g ≤ U / V + 1) : (g * V ≤ U → g = U / V) ∧ (U < g * V → g = U / V + 1 ∧ U + V - g * V = U % V ∧ g * V ≤ U + V) := by
  have e := Nat.div_add_mod' U V
  have m := Nat.mod_lt U hV
  refine ⟨fun h => ?_, fun h => ?_⟩
  · have : g ≤ U / V := (Nat.le_div_iff_mul_le hV).2 h
    omega
  · have hg : g = U / V + 1 := by
      rcases Nat.lt_or_ge g (U / V + 1) with h3 | h3
      · exfalso
        have : g = U / V := by omega
        rw [this] at h
        have := Nat.div_mul_le_self U V
        omega
      · omega
    refine ⟨hg, ?_, ?_⟩
    · rw [hg, Nat.add_mul, Nat.one_mul]; omega
    · rw [hg, Nat.add_mul, Nat.one_mul]; omega

end Big
end
section
open Go.RowKit
namespace Big
/-- A word of what is taken off. -/
theorem fig_step {o : List Nat} {i c b u v G SU SV : Nat} (hi : o.length = i) (h : val o + G * SV = SU + 4294967296 ^ i * (c + b)) (hu : u < 4294967296) (hb : b ≤ 1) (p t : Nat) (hp : p = G * v + c)
    (ht : t = (u + 18446744073709551616 - p % 4294967296 - b) % 18446744073709551616) :
    val (o ++ [t % 4294967296]) + G * (SV + 4294967296 ^ i * v) = (SU + 4294967296 ^ i * u) + 4294967296 ^ (i + 1) * (p / 4294967296 + t / 9223372036854775808) ∧ t / 9223372036854775808 ≤ 1 := by
  have e : val [t % 4294967296] = t % 4294967296 := by simp [val]
  obtain ⟨tl, htl⟩ : ∃ tl, tl = t % 4294967296 := ⟨_, rfl⟩
  obtain ⟨tb, htb⟩ : ∃ tb, tb = t / 9223372036854775808 := ⟨_, rfl⟩
  obtain ⟨pl, hpl⟩ : ∃ pl, pl = p % 4294967296 := ⟨_, rfl⟩
  obtain ⟨ph, hph⟩ : ∃ ph, ph = p / 4294967296 := ⟨_, rfl⟩
  obtain ⟨q, hq⟩ : ∃ q, q = 4294967296 ^ i := ⟨_, rfl⟩
  have k : tl + pl + b = u + 4294967296 * tb ∧ tb ≤ 1 := by omega
  have k2 : pl + 4294967296 * ph = G * v + c := by omega
  rw [val_append, hi, pow_succ_mul, e, ← htl, ← htb, ← hph, ← hq]
  rw [← hq] at h
  refine ⟨?_, k.2⟩
  have k3 : c + b + tl + G * v = u + 4294967296 * (ph + tb) := by omega
  have k4 : q * (c + b) + q * tl + q * (G * v) = q * u + q * (4294967296 * (ph + tb)) := by rw [← Nat.mul_add, ← Nat.mul_add, ← Nat.mul_add, k3]
  rw [Nat.mul_add G, show G * (q * v) = q * (G * v) by rw [← Nat.mul_assoc, Nat.mul_comm G q, Nat.mul_assoc]]
  omega
/-- A word of what is given back. -/
theorem add_back {o : List Nat} {i c u v SU SV : Nat} (hi : o.length = i) (h : val o + 4294967296 ^ i * c = SU + SV) (t : Nat) (ht : t = u + v + c) :
    val (o ++ [t % 4294967296]) + 4294967296 ^ (i + 1) * (t / 4294967296) = (SU + 4294967296 ^ i * u) + (SV + 4294967296 ^ i * v) := by
  rw [carry_step (x := u + v) hi h t (by omega), Nat.mul_add]
  omega
/-- What was taken off does not go below nought. -/
theorem fig_fin {o : List Nat} {n c b un U UL V G : Nat} (hi : o.length = n) (h : val o + G * V = UL + 4294967296 ^ n * (c + b)) (hU : U = UL + 4294967296 ^ n * un) (h1 : c + b ≤ un) (hV : 0 < V) (g1 : U / V ≤ G) (g2 : G ≤ U / V + 1) :
    G = U / V ∧ val (o ++ [un - (c + b)]) = U % V := by
  have e : val [un - (c + b)] = un - (c + b) := by simp [val]
  have k : 4294967296 ^ n * (un - (c + b)) + 4294967296 ^ n * (c + b) = 4294967296 ^ n * un := by rw [← Nat.mul_add]; congr 1; omega
  have k2 : val (o ++ [un - (c + b)]) + G * V = U := by rw [val_append, hi, e]; omega
  have k3 := (figure_exact hV g1 g2).1 (by omega)
  refine ⟨k3, ?_⟩
  have := Nat.div_add_mod' U V
  rw [← k3] at this
  omega
/-- .. or it does: then one is given back. -/
theorem fig_neg {o : List Nat} {n c b un U UL V G : Nat} (hi : o.length = n) (hok : Wok o) (h : val o + G * V = UL + 4294967296 ^ n * (c + b)) (hU : U = UL + 4294967296 ^ n * un) (h1 : un < c + b) (hV : 0 < V) (hVn : V < 4294967296 ^ n) (g1 : U / V ≤ G) (g2 : G ≤ U / V + 1) :
    G = U / V + 1 ∧ c + b = un + 1 ∧ val o + V = U % V + 4294967296 ^ n := by
  have ho := val_lt hok
  rw [hi] at ho
  obtain ⟨d, hd⟩ : ∃ d, c + b = un + (d + 1) := ⟨c + b - un - 1, by omega⟩
  obtain ⟨q, hq⟩ : ∃ q, q = 4294967296 ^ n := ⟨_, rfl⟩
  rw [← hq] at h hU hVn ho ⊢
  rw [hd, Nat.mul_add, Nat.mul_add, Nat.mul_one] at h
  have k0 : U < G * V := by omega
  obtain ⟨k1, k2, k3⟩ := (figure_exact hV g1 g2).2 k0
  have hd0 : d = 0 := by
    rcases Nat.eq_zero_or_pos d with h0 | h0
    · exact h0
    · exfalso
      have : q * 1 ≤ q * d := Nat.mul_le_mul_left _ h0
      omega
  subst hd0
  refine ⟨k1, by omega, ?_⟩
  rw [Nat.mul_zero] at h
  omega
theorem fig_back {o : List Nat} {n c S M : Nat} (hi : o.length = n) (hok : Wok o) (h : val o + 4294967296 ^ n * c = S) (hS : S = M + 4294967296 ^ n) (hM : M < 4294967296 ^ n) : c = 1 ∧ val o = M ∧ val (o ++ [0]) = M := by
  have ho := val_lt hok
  rw [hi] at ho
  obtain ⟨q, hq⟩ : ∃ q, q = 4294967296 ^ n := ⟨_, rfl⟩
  rw [← hq] at h hS hM ho
  have e : val [0] = 0 := by simp [val]
  have hc : c = 1 := by
    rcases Nat.lt_trichotomy c 1 with h1 | h1 | h1
    · have : c = 0 := by omega
      rw [this, Nat.mul_zero] at h
      omega
    · exact h1
    · have : q * 2 ≤ q * c := Nat.mul_le_mul_left _ h1
      omega
  rw [hc, Nat.mul_one] at h
  have hv : val o = M := by omega
  exact ⟨hc, hv, by rw [val_append, e, Nat.mul_zero, Nat.add_zero, hv]⟩

theorem sub64c (x p : Nat) (hx : x < 4294967296) (hp : p < 4294967296) : IntKind.u64.wrap ((x : Int) - (p : Int)) = (((x + 18446744073709551616 - p) % 18446744073709551616 : Nat) : Int) := by rw [IntKind.wrap_u64]; omega
theorem sub64d (x p b : Nat) (hx : x < 4294967296) (hp : p < 4294967296) (hb : b ≤ 1) : IntKind.u64.wrap ((((x + 18446744073709551616 - p) % 18446744073709551616 : Nat) : Int) - (b : Int)) = (((x + 18446744073709551616 - p - b) % 18446744073709551616 : Nat) : Int) := by rw [IntKind.wrap_u64]; omega
theorem mask32 (p : Nat) (hp : p < 18446744073709551616) : bits BinOp.and IntKind.u64 (p : Int) 4294967295 = ((p % 4294967296 : Nat) : Int) := by
  have h := u64_and_nat p 4294967295 hp (by decide)
  rw [show (4294967295 : Nat) = 2 ^ 32 - 1 by decide, Nat.and_two_pow_sub_one_eq_mod] at h
  exact h
theorem cell_keeps {w wr : World} {g i B : Nat} {S : List Nat} {v : Value} (h : w.cell? ⟨g, i, none⟩ = some v) (hg : g < w.heap.size) (k : Keeps w.heap.size S w wr) (hS : g ∉ S) : wr.cell? ⟨g, i, none⟩ = some v := (k.cell (q := ⟨g, i, none⟩) hg hS).trans h
theorem ro_at {A U C : List Nat} {i x : Nat} (h : U[i]? = some x) : (A ++ (U ++ C))[A.length + i]? = some x := by
  rw [List.getElem?_append_right (by omega), show A.length + i - A.length = i by omega]
  have hi : i < U.length := by
    rcases Nat.lt_or_ge i U.length with h1 | h1
    · exact h1
    · rw [List.getElem?_eq_none h1] at h; cases h
  rw [List.getElem?_append_left hi, h]
theorem fig_num2 {V : List Nat} {n1 n2 v1 v0 : Nat} (hok : Wok V) (hl : V.length = n2 + 2) (h1 : n1 = n2 + 1) (x1 : V[n1]? = some v1) (x0 : V[n2]? = some v0) : ∃ v', val V = (v1 * 4294967296 + v0) * 4294967296 ^ n2 + v' ∧ v' < 4294967296 ^ n2 := by
  subst h1
  have a1 := val_take x1
  have a0 := val_take x0
  rw [show n2 + 1 + 1 = V.length by omega, List.take_length, a0, pow_succ_mul] at a1
  refine ⟨val (V.take n2), ?_, ?_⟩
  · rw [a1, Nat.add_mul, Nat.mul_comm (v1 * 4294967296), Nat.mul_comm v0, Nat.mul_comm v1]; omega
  · have := val_lt (hok.take n2)
    rw [List.length_take, Nat.min_eq_left (by omega)] at this
    exact this
theorem fig_num3 {U : List Nat} {n n1 n2 un u1 u0 : Nat} (hok : Wok U) (hl : U.length = n + 1) (h1 : n1 + 1 = n) (h2 : n2 + 2 = n) (xn : U[n]? = some un) (x1 : U[n1]? = some u1) (x0 : U[n2]? = some u0) : ∃ u', val U = ((un * 4294967296 + u1) * 4294967296 + u0) * 4294967296 ^ n2 + u' ∧ u' < 4294967296 ^ n2 := by
  obtain rfl : n1 = n2 + 1 := by omega
  obtain rfl : n = n2 + 1 + 1 := by omega
  have an := val_take xn
  have a1 := val_take x1
  have a0 := val_take x0
  rw [show n2 + 1 + 1 + 1 = U.length by omega, List.take_length, a1, a0, pow_succ_mul, pow_succ_mul] at an
  refine ⟨val (U.take n2), ?_, ?_⟩
  · rw [pow_succ_mul] at an
    rw [an]
    grind
  · have := val_lt (hok.take n2)
    rw [List.length_take, Nat.min_eq_left (by omega)] at this
    exact this
theorem fig_top {un c b : Nat} (hu : un < 4294967296) (h : c + b ≤ un) (t : Nat) (ht : t = (un + 18446744073709551616 - c - b) % 18446744073709551616) : t % 4294967296 = un - (c + b) ∧ t / 9223372036854775808 = 0 := by omega
theorem fig_top2 {un c b : Nat} (hu : un < 4294967296) (h : c + b = un + 1) (t : Nat) (ht : t = (un + 18446744073709551616 - c - b) % 18446744073709551616) : t % 4294967296 = 4294967295 ∧ t / 9223372036854775808 = 1 := by omega
theorem drop_at {U : List Nat} {i x : Nat} (h : U[i]? = some x) : U.drop i = x :: U.drop (i + 1) := by
  have hi : i < U.length := by
    rcases Nat.lt_or_ge i U.length with h1 | h1
    · exact h1
    · rw [List.getElem?_eq_none h1] at h; cases h
  rw [List.drop_eq_getElem_cons hi]
  rw [List.getElem?_eq_getElem hi] at h
  rw [Option.some.inj h]
set_option maxRecDepth 100000 in
set_option maxHeartbeats 32000000 in
theorem bfigure (g off n n1 n2 cap : Nat) (A U C : List Nat) (vv : Value) (V un u1 u0 v1 v0 : Nat) (w : World) (hR : Ro w g (A ++ (U ++ C))) (hA : A.length = off) (hU : U.length = n + 1) (hok : Wok U) (hv : Wd w vv (words V)) (hvl : (words V).length = n) (h1 : n1 + 1 = n) (h2 : n2 + 2 = n) (hn : n ≤ 549755813888) (hoff : off ≤ 549755813888) (hne : ∀ k, vv.ownBlock = some k → k ≠ g) (hlt : val U < V * 4294967296) (xun : U[n]? = some un) (xu1 : U[n1]? = some u1) (xu0 : U[n2]? = some u0) (xv1 : (words V)[n1]? = some v1) (xv0 : (words V)[n2]? = some v0) (htop : 2147483648 ≤ v1) (hcap : n + 1 ≤ cap) :
    Calls Tryz.prog 144 #[.slice (some ⟨g, off, none⟩) (n + 1) cap, vv] w fun e w' => ∃ U', e = .returned (.int .u32 ((val U / V : Nat) : Int)) ∧ U'.length = n + 1 ∧ Wok U' ∧ val U' = val U % V ∧ Ro w' g (A ++ (U' ++ C)) ∧ Keeps w.heap.size [g] w w' := by
  have okv := words_ok V
  have vval := val_words V
  have vlt := words_lt V
  rw [hvl] at vlt
  obtain ⟨a, cv, rfl, hcv, hce⟩ := hv.form
  clear hv
  generalize words V = l at okv vval hvl hcv hce hne xv1 xv0 ⊢
  obtain ⟨gv, ov, rfl, hgv, hxv⟩ := hce (by omega)
  have hgne : gv ≠ g := hne gv rfl
  clear hce hne
  rw [hvl] at hcv ⊢
  obtain ⟨Q, hQ⟩ : ∃ Q, Q = val U / V := ⟨_, rfl⟩
  obtain ⟨M, hM⟩ : ∃ M, M = val U % V := ⟨_, rfl⟩
  rw [← hQ, ← hM]
  have hunB := hok.get xun
  have hu1B := hok.get xu1
  have hu0B := hok.get xu0
  have hv1B := okv.get xv1
  have hv0B := okv.get xv0
  obtain ⟨v', f1, f2⟩ := fig_num2 okv (by omega) (by omega) xv1 xv0
  obtain ⟨u', f3, f4⟩ := fig_num3 hok hU h1 h2 xun xu1 xu0
  rw [vval] at f1
  obtain ⟨N, hN⟩ : ∃ N, N = un * 4294967296 + u1 := ⟨_, rfl⟩
  rw [← hN] at f3
  have F : Hid (Fg (val U) V (4294967296 ^ n2) N v1 v0 u0) := hid ⟨⟨v', f1, f2⟩, ⟨u', f3, f4⟩, hlt, htop, hv1B, hv0B, hu0B⟩
  have VP := hid F.out.pos.1
  have hst := F.out.start
  have hun2 : val U = val (U.take n) + 4294967296 ^ n * un := by
    have := val_take xun
    rw [← hU, List.take_length] at this
    rw [this]
  have hMlt : M < 4294967296 ^ n := by rw [hM]; exact Nat.lt_trans (Nat.mod_lt _ VP.out) vlt
  have cn := hR.cell (ro_at xun)
  have c1 := hR.cell (ro_at xu1)
  have c0 := hR.cell (ro_at xu0)
  rw [hA] at cn c1 c0
  have d1 := hxv n1 v1 xv1
  have d0 := hxv n2 v0 xv0
  have HR := hid hR
  have HA := hid hA
  have HU := hid hU
  have HL := hid hvl
  have OKU := hid hok
  have OKV := hid okv
  have VV := hid vval
  have VB := hid vlt
  have UN := hid hun2
  have MB := hid hMlt
  have HQ := hid hQ
  have HM := hid hM
  have NE := hid hgne
  have HXV := hid hxv
  have XUN := hid xun
  haveI : Has w g := ⟨hR.lt⟩
  haveI : Has w gv := ⟨hgv⟩
  clear hR hA hU hvl hok okv vval vlt hun2 hMlt hQ hM hgne hxv f1 f2 f3 f4 xun xu1 xu0 xv1 xv0 hlt
  have i1 : (n : Int) - 1 = (n1 : Int) := by omega
  have i2 : (n : Int) - 2 = (n2 : Int) := by omega
  have j1 : (0 : Int) ≤ (n1 : Int) := by omega
  have j2 : (0 : Int) ≤ (n2 : Int) := by omega
  have j3 : (0 : Int) ≤ (n : Int) := by omega
  have j4 : (n1 : Int) < (n : Int) := by omega
  have j5 : (n2 : Int) < (n : Int) := by omega
  have j6 : (n1 : Int) < (n : Int) + 1 := by omega
  have j7 : (n2 : Int) < (n : Int) + 1 := by omega
  have H1 := hid h1
  have H2 := hid h2
  clear h1 h2
  have k1 : IntKind.u64.wrap (v1 : Int) = (v1 : Int) := by rw [IntKind.wrap_u64]; omega
  have k2 : IntKind.u64.wrap (un : Int) = (un : Int) := by rw [IntKind.wrap_u64]; omega
  have k3 : IntKind.u64.wrap (u1 : Int) = (u1 : Int) := by rw [IntKind.wrap_u64]; omega
  have k4 : IntKind.u64.wrap (u0 : Int) = (u0 : Int) := by rw [IntKind.wrap_u64]; omega
  have k5 : IntKind.u64.wrap (v0 : Int) = (v0 : Int) := by rw [IntKind.wrap_u64]; omega
  have k6 : IntKind.u64.wrap ((un : Int) * 4294967296) = (un : Int) * 4294967296 := by rw [IntKind.wrap_u64]; omega
  have k7 := or_words un u1 hunB hu1B
  rw [← hN] at k7
  have hNB : N < 18446744073709551616 := by omega
  clear hN
  have ed0 : ¬ (v1 : Int) = 0 := by omega
  have ed1 : ((v1 : Int) == 0) = false := beq_eq_false_iff_ne.2 ed0
  obtain ⟨G0, hG0⟩ : ∃ G0, G0 = N / v1 := ⟨_, rfl⟩
  obtain ⟨r0, hr0⟩ : ∃ r0, r0 = N % v1 := ⟨_, rfl⟩
  have q1 : (N : Int).tdiv (v1 : Int) = (G0 : Int) := by rw [Int.tdiv_eq_ediv_of_nonneg (by omega), hG0]; simp
  have q2 : (N : Int) / (v1 : Int) = (G0 : Int) := by rw [hG0]; simp
  have q3 : (N : Int).tmod (v1 : Int) = (r0 : Int) := by rw [Int.tmod_eq_emod_of_nonneg (by omega), hr0]; simp
  have q4 : (N : Int) % (v1 : Int) = (r0 : Int) := by rw [hr0]; simp
  rw [← hG0] at hst
  have hE0 : Hid (G0 * v1 + r0 = N) := hid (by rw [hG0, hr0]; exact Nat.div_add_mod' N v1)
  have hr0B : r0 < 4294967296 := by rw [hr0]; exact Nat.lt_trans (Nat.mod_lt _ (by omega)) hv1B
  have hQ0 := hid hst.1
  have hG0B := hst.2
  have q5 : IntKind.u64.wrap (G0 : Int) = (G0 : Int) := by rw [IntKind.wrap_u64]; omega
  have q6 : IntKind.u64.wrap (r0 : Int) = (r0 : Int) := by rw [IntKind.wrap_u64]; omega
  clear hst hG0 hr0
  go_enter Tryz.func144, Tryz.ntmps144
  go_wp2_with fail
  go_quiet (fail)
  go_wp2_with fail
  go_loopw [8, 9] (fun s8 s9 wr => ∃ G r : Nat, s8 = .int .u64 G ∧ s9 = .int .u64 r ∧ G ≤ 4294967297 ∧ r < 4294967296 ∧ Hid (G * v1 + r = N) ∧ Hid (val U / V ≤ G) ∧ Hid (Drawn w wr)) (fun s8 s9 _ => (intOf s8).toNat)
  case atStart => exact ⟨G0, r0, rfl, rfl, hG0B, hr0B, hE0, hQ0, hid (by first | exact ⟨_, rfl⟩ | (repeat' (first | exact Drawn.refl _ | (refine Drawn.more ?_ _))))⟩
  case round =>
    obtain ⟨G, r, rfl, rfl, hG, hr, hE, hQ, hdr⟩ := hrel
    obtain ⟨qd, rfl⟩ := hdr.out
    clear q1 q2 q3 q4 q5 q6 hE0 hQ0 k7 k6 cn c1 d1 ed0 ed1
    rcases Nat.lt_or_ge G 4294967296 with hGB | hGB
    case' inr =>
      obtain ⟨d1, d2, d3⟩ := F.out.down hE.out hQ.out (.inl hGB)
      have eg0 : decide ((G : Int) ≥ 4294967296) = true := decide_eq_true (by omega)
      have eg1 : decide ((4294967296 : Int) ≤ (G : Int)) = true := decide_eq_true (by omega)
      obtain ⟨GG, hGGe⟩ : ∃ GG, GG = G - 1 := ⟨_, rfl⟩
      rw [← hGGe] at d2 d3
      have HG : Hid (G = GG + 1) := hid (by omega)
      have d1' := hid d1
      obtain ⟨r', hr'⟩ : ∃ r', r' = r + v1 := ⟨_, rfl⟩
      have er : IntKind.u64.wrap ((r : Int) + (v1 : Int)) = (r' : Int) := by rw [IntKind.wrap_u64]; omega
      have er2 : (r : Int) + (v1 : Int) = (r' : Int) := by omega
      have eg : IntKind.u64.wrap ((G : Int) - 1) = (GG : Int) := by rw [IntKind.wrap_u64]; omega
      have eg2 : (G : Int) - 1 = (GG : Int) := by omega
      have E2 := hid d2
      have Q2 := hid d3
      rcases Nat.lt_or_ge r' 4294967296 with hrB | hrB
      case inl =>
        have E3 : Hid (GG * v1 + r' = N) := hid (by rw [hr']; exact E2.out)
        have ec : decide ((4294967296 : Int) ≤ (r' : Int)) = false := decide_eq_false (by omega)
        have hG2 : GG ≤ 4294967297 := by omega
        have ec2 : decide ((r' : Int) ≥ 4294967296) = false := decide_eq_false (by omega)
        clear d1 d2 d3 hr' hGGe E2 hE hQ
        go_wp2_with fail
        go_quiet (fail)
        go_wp2_with fail
        go_roundw
        case rel => exact ⟨GG, r', by rfl, by rfl, hG2, hrB, E3, Q2, hid (by first | exact ⟨_, rfl⟩ | (repeat' (first | exact hdr.out | (refine Drawn.more ?_ _))))⟩
        case measure => simp [intOf]; have := HG.out; omega
      case' inr =>
        have hGG : GG < 4294967296 := by have := F.out.stop hE.out hr (by omega) (by omega); omega
        have G1 : Hid (val U / V ≤ GG) := Q2
        have G2 : Hid (GG ≤ val U / V + 1) := hid (F.out.fin E2.out hGG (.inr (by omega)))
        have ec : decide ((4294967296 : Int) ≤ (r' : Int)) = true := decide_eq_true (by omega)
        have ec2 : decide ((r' : Int) ≥ 4294967296) = true := decide_eq_true (by omega)
        clear d1 d2 d3 hr' hGGe E2 hE hQ
        go_wp2_with fail
        go_quiet (fail)
        go_wp2_with fail
    case' inl =>
      obtain ⟨gp, hgp⟩ : ∃ gp, gp = G * v0 := ⟨_, rfl⟩
      have gpI : (G : Int) * (v0 : Int) = (gp : Int) := by rw [hgp]; simp
      have gpB := mul_words_lt hGB hv0B
      rw [← hgp] at gpB
      have gpW : IntKind.u64.wrap ((G : Int) * (v0 : Int)) = (gp : Int) := by rw [gpI, IntKind.wrap_u64]; omega
      have eo := or_words r u0 hr hu0B
      have esh : IntKind.u64.wrap ((r : Int) * 4294967296) = (r : Int) * 4294967296 := by rw [IntKind.wrap_u64]; omega
      obtain ⟨ru, hru⟩ : ∃ ru, ru = r * 4294967296 + u0 := ⟨_, rfl⟩
      rw [← hru] at eo
      have eg0 : decide ((G : Int) ≥ 4294967296) = false := decide_eq_false (by omega)
      have eg1 : decide ((4294967296 : Int) ≤ (G : Int)) = false := decide_eq_false (by omega)
      rcases Nat.lt_or_ge ru gp with hc | hc
      case' inr =>
        have hGG : G < 4294967296 := hGB
        have G1 : Hid (val U / V ≤ G) := hQ
        have G2 : Hid (G ≤ val U / V + 1) := hid (F.out.fin hE.out hGG (.inl (by omega)))
        obtain ⟨GG, hGGe⟩ : ∃ GG, GG = G := ⟨_, rfl⟩
        subst hGGe
        have ec0 : decide ((gp : Int) > (ru : Int)) = false := decide_eq_false (by omega)
        have ec1 : decide ((ru : Int) < (gp : Int)) = false := decide_eq_false (by omega)
        clear hgp hru hE hQ
        go_wp2_with fail
        go_quiet (fail)
        go_wp2_with fail
      case' inl =>
        obtain ⟨d1, d2, d3⟩ := F.out.down hE.out hQ.out (.inr (by omega))
        have ec0 : decide ((gp : Int) > (ru : Int)) = true := decide_eq_true (by omega)
        have ec1 : decide ((ru : Int) < (gp : Int)) = true := decide_eq_true (by omega)
        clear hgp hru
        obtain ⟨GG, hGGe⟩ : ∃ GG, GG = G - 1 := ⟨_, rfl⟩
        rw [← hGGe] at d2 d3
        have HG : Hid (G = GG + 1) := hid (by omega)
        have d1' := hid d1
        obtain ⟨r', hr'⟩ : ∃ r', r' = r + v1 := ⟨_, rfl⟩
        have er : IntKind.u64.wrap ((r : Int) + (v1 : Int)) = (r' : Int) := by rw [IntKind.wrap_u64]; omega
        have er2 : (r : Int) + (v1 : Int) = (r' : Int) := by omega
        have eg : IntKind.u64.wrap ((G : Int) - 1) = (GG : Int) := by rw [IntKind.wrap_u64]; omega
        have eg2 : (G : Int) - 1 = (GG : Int) := by omega
        have E2 := hid d2
        have Q2 := hid d3
        rcases Nat.lt_or_ge r' 4294967296 with hrB | hrB
        case inl =>
          have E3 : Hid (GG * v1 + r' = N) := hid (by rw [hr']; exact E2.out)
          have ec : decide ((4294967296 : Int) ≤ (r' : Int)) = false := decide_eq_false (by omega)
          have hG2 : GG ≤ 4294967297 := by omega
          have ec2 : decide ((r' : Int) ≥ 4294967296) = false := decide_eq_false (by omega)
          clear d1 d2 d3 hr' hGGe E2 hE hQ
          go_wp2_with fail
          go_quiet (fail)
          go_wp2_with fail
          go_roundw
          case rel => exact ⟨GG, r', by rfl, by rfl, hG2, hrB, E3, Q2, hid (by first | exact ⟨_, rfl⟩ | (repeat' (first | exact hdr.out | (refine Drawn.more ?_ _))))⟩
          case measure => simp [intOf]; have := HG.out; omega
        case' inr =>
          have hGG : GG < 4294967296 := by have := F.out.stop hE.out hr (by omega) (by omega); omega
          have G1 : Hid (val U / V ≤ GG) := Q2
          have G2 : Hid (GG ≤ val U / V + 1) := hid (F.out.fin E2.out hGG (.inr (by omega)))
          have ec : decide ((4294967296 : Int) ≤ (r' : Int)) = true := decide_eq_true (by omega)
          have ec2 : decide ((r' : Int) ≥ 4294967296) = true := decide_eq_true (by omega)
          clear d1 d2 d3 hr' hGGe E2 hE hQ
          go_wp2_with fail
          go_quiet (fail)
          go_wp2_with fail
    all_goals
      go_loopw [10, 11, 12, 13, 14] (fun s10 s11 s12 s13 s14 wr => ∃ (i c b : Nat) (o : List Nat), s10 = .int .u64 c ∧ s11 = .int .u64 b ∧ s12 = .int .i64 i ∧ i ≤ n ∧ c < 4294967296 ∧ b ≤ 1 ∧ o.length = i ∧ Hid (Wok o) ∧ Hid (Ro wr g (A ++ (o ++ (U.drop i ++ C)))) ∧ Hid (val o + GG * val (l.take i) = val (U.take i) + 4294967296 ^ i * (c + b)) ∧ Hid (Keeps w.heap.size [g] w wr)) (fun s10 s11 s12 s13 s14 _ => n - (intOf s12).toNat)
      case atStart => exact ⟨0, 0, 0, [], rfl, rfl, rfl, Nat.zero_le _, by omega, by omega, rfl, hid Wok.nil, HR, hid (by simp [val]), hid (by repeat' (first | exact Keeps.refl _ _ _ | (refine Keeps.drewN ?_ _) | (refine Keeps.drew ?_)))⟩
      case round =>
        obtain ⟨i, c, b, o, rfl, rfl, rfl, hi, hc, hb, hol, hoo, hRR, hS, hK⟩ := hrel
        haveI : Has wr g := ⟨hRR.out.lt⟩
        by_cases hin : i < n
        · obtain ⟨x, hx⟩ : ∃ x, U[i]? = some x := ⟨_, List.getElem?_eq_getElem (by have := HU.out; omega)⟩
          obtain ⟨y, hy⟩ : ∃ y, l[i]? = some y := ⟨_, List.getElem?_eq_getElem (by have := HL.out; omega)⟩
          have hxB := OKU.out.get hx
          have hyB := OKV.out.get hy
          have hR2 := hRR.out
          rw [drop_at hx, List.cons_append] at hR2
          have cx := hR2.cell (get_mid A o (U.drop (i + 1) ++ C) x)
          have fx := hR2.free (A.length + o.length)
          have cy := cell_keeps (B := 0) (HXV.out i y hy) hgv hK.out (by simpa using NE.out)
          haveI : Has wr gv := ⟨Nat.lt_of_lt_of_le hgv hK.out.size⟩
          obtain ⟨gy, hgy⟩ : ∃ gy, gy = GG * y := ⟨_, rfl⟩
          have gyI : (GG : Int) * (y : Int) = (gy : Int) := by rw [hgy]; simp
          have gyB := mul_words_lt hGG hyB
          rw [← hgy] at gyB
          obtain ⟨p, hp⟩ : ∃ p, p = gy + c := ⟨_, rfl⟩
          obtain ⟨t, ht⟩ : ∃ t, t = (x + 18446744073709551616 - p % 4294967296 - b) % 18446744073709551616 := ⟨_, rfl⟩
          obtain ⟨s1, s2⟩ := fig_step hol hS.out hxB hb p t (by rw [hp, hgy]) ht
          rw [← val_take hy, ← val_take hx] at s1
          have hR3 := hR2.set (A.length + o.length) (t % 4294967296)
          rw [set_mid] at hR3
          rw [HA.out, hol] at cx fx hR3
          have hi0 : (0 : Int) ≤ (i : Int) := by omega
          have hin1 : (i : Int) < (n : Int) := by omega
          have hin2 : (i : Int) < (n : Int) + 1 := by omega
          have hpB : p < 18446744073709551616 := by omega
          have e1 : IntKind.u64.wrap (x : Int) = (x : Int) := by rw [IntKind.wrap_u64]; omega
          have e2 : IntKind.u64.wrap (y : Int) = (y : Int) := by rw [IntKind.wrap_u64]; omega
          have e3 : IntKind.u64.wrap ((GG : Int) * (y : Int)) = (gy : Int) := by rw [gyI, IntKind.wrap_u64]; omega
          have e4 : IntKind.u64.wrap ((gy : Int) + (c : Int)) = (p : Int) := by rw [IntKind.wrap_u64]; omega
          have e4b : (gy : Int) + (c : Int) = (p : Int) := by omega
          have e5 : (p : Int) / 4294967296 = ((p / 4294967296 : Nat) : Int) := by omega
          have e6 := mask32 p hpB
          have hpl : p % 4294967296 < 4294967296 := Nat.mod_lt _ (by decide)
          have e7 := sub64c x (p % 4294967296) hxB hpl
          have e8 := sub64d x (p % 4294967296) b hxB hpl hb
          rw [← ht] at e8
          have hph : p / 4294967296 < 4294967296 := by omega
          obtain ⟨tq, htq⟩ : ∃ tq, tq = (x + 18446744073709551616 - p % 4294967296) % 18446744073709551616 := ⟨_, rfl⟩
          rw [← htq] at e7 e8
          have e9 : IntKind.u32.wrap (t : Int) = ((t % 4294967296 : Nat) : Int) := by rw [IntKind.wrap_u32]; omega
          have e10 : (t : Int) / 9223372036854775808 = ((t / 9223372036854775808 : Nat) : Int) := by omega
          have RN : Hid (Ro (wr.setCell ⟨g, off + i, none⟩ (.int .u32 ((t % 4294967296 : Nat) : Int))) g (A ++ ((o ++ [t % 4294967296]) ++ (U.drop (i + 1) ++ C)))) := hid hR3
          have ON : Hid (Wok (o ++ [t % 4294967296])) := hid (hoo.out.append (Wok.cons (Nat.mod_lt _ (by decide)) Wok.nil))
          have KN : Hid (Keeps w.heap.size [g] w (wr.setCell ⟨g, off + i, none⟩ (.int .u32 ((t % 4294967296 : Nat) : Int)))) := hid (hK.out.set (Or.inl (by simp)) _ _)
          have SN := hid s1
          have hon : (o ++ [t % 4294967296]).length = i + 1 := by simp [hol]
          clear hx hy hR2 hR3 s1 ht htq hp hgy gyI hRR hS
          generalize t % 4294967296 = tl at e9 RN ON KN SN hon ⊢
          generalize t / 9223372036854775808 = tb at e10 s2 SN ⊢
          generalize p % 4294967296 = pl at e6 e7 hpl ⊢
          generalize p / 4294967296 = ph at e5 hph SN ⊢
          go_wp2_with fail
          go_roundw
          case rel => exact ⟨i + 1, ph, tb, o ++ [tl], by rfl, by rfl, by rfl, by omega, hph, s2, hon, ON, RN, SN, KN⟩
          case measure => simp [intOf]; omega
        · have hieq : n = i := by omega
          subst hieq
          have hR2 := hRR.out
          rw [drop_at XUN.out, List.drop_eq_nil_of_le (show U.length ≤ n + 1 by have := HU.out; omega), List.cons_append, List.nil_append] at hR2
          have hS2 := hS.out
          rw [List.take_of_length_le (show l.length ≤ n by have := HL.out; omega), VV.out] at hS2
          have cx := hR2.cell (get_mid A o C un)
          have fx := hR2.free (A.length + o.length)
          obtain ⟨t, ht⟩ : ∃ t, t = (un + 18446744073709551616 - c - b) % 18446744073709551616 := ⟨_, rfl⟩
          have hR3 : ∀ z : Nat, Ro (wr.setCell ⟨g, A.length + o.length, none⟩ (.int .u32 z)) g (A ++ ((o ++ [z]) ++ C)) := fun z => by
            have := hR2.set (A.length + o.length) z
            rw [set_mid] at this
            exact this
          rw [HA.out, hol] at cx fx
          have e1 : IntKind.u64.wrap (un : Int) = (un : Int) := by rw [IntKind.wrap_u64]; omega
          have e7 := sub64c un c hunB hc
          have e8 := sub64d un c b hunB hc hb
          rw [← ht] at e8
          obtain ⟨tq, htq⟩ : ∃ tq, tq = (un + 18446744073709551616 - c) % 18446744073709551616 := ⟨_, rfl⟩
          rw [← htq] at e7 e8
          have eg2 : IntKind.u32.wrap (GG : Int) = (GG : Int) := by rw [IntKind.wrap_u32]; omega
          rcases Nat.lt_or_ge un (c + b) with hcb | hcb
          · obtain ⟨f1, f2, f3⟩ := fig_neg hol hoo.out hS2 UN.out hcb VP.out VB.out G1.out G2.out
            obtain ⟨t1, t2⟩ := fig_top2 hunB f2 t ht
            have e9 : IntKind.u32.wrap (t : Int) = 4294967295 := by rw [IntKind.wrap_u32]; omega
            have e10 : (t : Int) / 9223372036854775808 = 1 := by omega
            have hR4 := hR3 4294967295
            rw [HA.out, hol] at hR4
            have GQ : Hid (GG = Q + 1) := hid (by rw [HQ.out]; exact f1)
            have BK : Hid (val o + V = M + 4294967296 ^ n) := hid (by rw [HM.out]; exact f3)
            have OL := hid hol
            have R3 : Hid (Ro (wr.setCell ⟨g, off + n, none⟩ (.int .u32 4294967295)) g (A ++ ([] ++ (o.drop 0 ++ (4294967295 :: C))))) := hid (by have := hR4; rw [List.append_assoc] at this; exact this)
            have K3 : Hid (Keeps w.heap.size [g] w (wr.setCell ⟨g, off + n, none⟩ (.int .u32 4294967295))) := hid (hK.out.set (Or.inl (by simp)) _ _)
            clear f1 f2 f3 t1 t2 hR2 hR3 hR4 hS2 hS ht htq hcb hol
            go_wp2_with fail
            go_loopw [16, 17, 18] (fun s16 s17 s18 wr => ∃ (i c : Nat) (o2 : List Nat), s16 = .int .u64 c ∧ s17 = .int .i64 i ∧ i ≤ n ∧ c ≤ 1 ∧ o2.length = i ∧ Hid (Wok o2) ∧ Hid (Ro wr g (A ++ (o2 ++ (o.drop i ++ (4294967295 :: C))))) ∧ Hid (val o2 + 4294967296 ^ i * c = val (o.take i) + val (l.take i)) ∧ Hid (Keeps w.heap.size [g] w wr)) (fun s16 s17 s18 _ => n - (intOf s17).toNat)
            case atStart => exact ⟨0, 0, [], rfl, rfl, Nat.zero_le _, by omega, rfl, hid Wok.nil, R3, hid rfl, K3⟩
            case round =>
              obtain ⟨i, c, o2, rfl, rfl, hi, hc, hol2, hoo2, hRR, hS, hK⟩ := hrel
              haveI : Has wr g := ⟨hRR.out.lt⟩
              by_cases hin : i < n
              · obtain ⟨x, hx⟩ : ∃ x, o[i]? = some x := ⟨_, List.getElem?_eq_getElem (by have := OL.out; omega)⟩
                obtain ⟨y, hy⟩ : ∃ y, l[i]? = some y := ⟨_, List.getElem?_eq_getElem (by have := HL.out; omega)⟩
                have hxB := hoo.out.get hx
                have hyB := OKV.out.get hy
                have hR2 := hRR.out
                rw [drop_at hx, List.cons_append] at hR2
                have cx := hR2.cell (get_mid A o2 (o.drop (i + 1) ++ (4294967295 :: C)) x)
                have fx := hR2.free (A.length + o2.length)
                have cy := cell_keeps (B := 0) (HXV.out i y hy) hgv hK.out (by simpa using NE.out)
                haveI : Has wr gv := ⟨Nat.lt_of_lt_of_le hgv hK.out.size⟩
                obtain ⟨t, ht⟩ : ∃ t, t = x + y + c := ⟨_, rfl⟩
                have s1 := add_back hol2 hS.out t ht
                rw [← val_take hx, ← val_take hy] at s1
                have hR3 := hR2.set (A.length + o2.length) (t % 4294967296)
                rw [set_mid] at hR3
                rw [HA.out, hol2] at cx fx hR3
                have hi0 : (0 : Int) ≤ (i : Int) := by omega
                have hin1 : (i : Int) < (n : Int) := by omega
                have hin2 : (i : Int) < (n : Int) + 1 := by omega
                have htB : t / 4294967296 ≤ 1 := by omega
                have e1 : IntKind.u64.wrap (x : Int) = (x : Int) := by rw [IntKind.wrap_u64]; omega
                have e2 : IntKind.u64.wrap (y : Int) = (y : Int) := by rw [IntKind.wrap_u64]; omega
                obtain ⟨xy, hxy⟩ : ∃ xy, xy = x + y := ⟨_, rfl⟩
                have e3 : IntKind.u64.wrap ((x : Int) + (y : Int)) = (xy : Int) := by rw [IntKind.wrap_u64]; omega
                have e3b : (x : Int) + (y : Int) = (xy : Int) := by omega
                have e4 : IntKind.u64.wrap ((xy : Int) + (c : Int)) = (t : Int) := by rw [IntKind.wrap_u64]; omega
                have e4b : (xy : Int) + (c : Int) = (t : Int) := by omega
                have e5 : IntKind.u32.wrap (t : Int) = ((t % 4294967296 : Nat) : Int) := by rw [IntKind.wrap_u32]; omega
                have e6 : (t : Int) / 4294967296 = ((t / 4294967296 : Nat) : Int) := by omega
                have RN : Hid (Ro (wr.setCell ⟨g, off + i, none⟩ (.int .u32 ((t % 4294967296 : Nat) : Int))) g (A ++ ((o2 ++ [t % 4294967296]) ++ (o.drop (i + 1) ++ (4294967295 :: C))))) := hid hR3
                have ON : Hid (Wok (o2 ++ [t % 4294967296])) := hid (hoo2.out.append (Wok.cons (Nat.mod_lt _ (by decide)) Wok.nil))
                have KN : ∀ k, Hid (Keeps w.heap.size [g] w ((wr.drewN k).setCell ⟨g, off + i, none⟩ (.int .u32 ((t % 4294967296 : Nat) : Int)))) := fun k => hid ((hK.out.drewN k).set (Or.inl (by simp)) _ _)
                have SN := hid s1
                have hon : (o2 ++ [t % 4294967296]).length = i + 1 := by simp [hol2]
                clear hx hy hR2 hR3 s1 ht hxy
                generalize t % 4294967296 = tl at e5 RN ON KN SN hon ⊢
                generalize t / 4294967296 = th at e6 htB SN ⊢
                go_wp2_with fail
                go_quiet (fail)
                go_wp2_with fail
                go_roundw
                case rel => exact ⟨i + 1, th, o2 ++ [tl], by rfl, by rfl, by omega, htB, hon, ON, RN, SN, KN _⟩
                case measure => simp [intOf]; omega
              · have hieq : n = i := by omega
                subst hieq
                have hR2 := hRR.out
                rw [List.drop_eq_nil_of_le (show o.length ≤ n by have := OL.out; omega), List.nil_append] at hR2
                have hS2 := hS.out
                rw [List.take_of_length_le (show o.length ≤ n by have := OL.out; omega), List.take_of_length_le (show l.length ≤ n by have := HL.out; omega), VV.out] at hS2
                have b := fig_back (M := M) hol2 hoo2.out hS2 BK.out MB.out
                obtain ⟨b1, b2, b3⟩ := b
                have cx := hR2.cell (get_mid A o2 C 4294967295)
                have fx := hR2.free (A.length + o2.length)
                have hR3 := hR2.set (A.length + o2.length) 0
                rw [set_mid] at hR3
                rw [HA.out, hol2] at cx fx hR3
                subst b1
                have RN := hid hR3
                have ON : Hid (Wok (o2 ++ [0])) := hid (hoo2.out.append (Wok.cons (by decide) Wok.nil))
                have KN : Hid (Keeps w.heap.size [g] w (wr.setCell ⟨g, off + n, none⟩ (.int .u32 ((0 : Nat) : Int)))) := hid (hK.out.set (Or.inl (by simp)) _ _)
                have VN := hid b3
                have hon : Hid ((o2 ++ [0]).length = n + 1) := hid (by simp [hol2])
                have eg : IntKind.u64.wrap ((GG : Int) - 1) = (Q : Int) := by rw [IntKind.wrap_u64]; have := GQ.out; omega
                have eg2 : IntKind.u32.wrap (Q : Int) = (Q : Int) := by rw [IntKind.wrap_u32]; have := GQ.out; omega
                clear hR2 hR3 hS2 b2 b3 hS hol2
                go_wp2_with fail
                go_ret
                exact ⟨o2 ++ [0], rfl, hon.out, ON.out, VN.out, RN.out, KN.out⟩
          · obtain ⟨f1, f2⟩ := fig_fin hol hS2 UN.out hcb VP.out G1.out G2.out
            obtain ⟨t1, t2⟩ := fig_top hunB hcb t ht
            have f3 : Hid (val (o ++ [t % 4294967296]) = M) := hid (by rw [t1, HM.out]; exact f2)
            have e9 : IntKind.u32.wrap (t : Int) = ((t % 4294967296 : Nat) : Int) := by rw [IntKind.wrap_u32]; omega
            have e10 : (t : Int) / 9223372036854775808 = 0 := by omega
            have hR4 := hR3 (t % 4294967296)
            rw [HA.out, hol] at hR4
            have RN := hid hR4
            have GQ : Hid (GG = Q) := hid (by rw [HQ.out]; exact f1)
            have ON : Hid (Wok (o ++ [t % 4294967296])) := hid (hoo.out.append (Wok.cons (Nat.mod_lt _ (by decide)) Wok.nil))
            have KN : Hid (Keeps w.heap.size [g] w (wr.setCell ⟨g, off + n, none⟩ (.int .u32 ((t % 4294967296 : Nat) : Int)))) := hid (hK.out.set (Or.inl (by simp)) _ _)
            have hon : Hid ((o ++ [t % 4294967296]).length = n + 1) := hid (by simp [hol])
            clear f1 f2 t1 t2 hR2 hR3 hR4 hS2 hS ht htq hcb hol
            generalize t % 4294967296 = tl at e9 RN ON KN f3 hon ⊢
            go_wp2_with fail
            go_ret
            exact ⟨o ++ [tl], by rw [← GQ.out]; rfl, hon.out, ON.out, f3.out, RN.out, KN.out⟩
end Big
end
end Go.Proofs.YtcoillcppmibgaaGreatDoor
