/- What floats are worth: sums, products, quotients. What floats are worth: square roots. What floats are worth: how they stand, signs. Complex numbers by their parts. -/
import Derived.Test.YtcoillcppmibgaaGreatDoorD00
set_option linter.unusedSimpArgs false
set_option linter.unusedVariables false
namespace Go.Proofs.YtcoillcppmibgaaGreatDoor
section
open Go.RowKit
theorem fadd_eq (a b : Nat) : fadd a b = ((Ieee.double.read a).sum (Ieee.double.read b)).map Ieee.double.write := rfl
theorem fsub_eq (a b : Nat) : fsub a b = ((Ieee.double.read a).sum (Ieee.double.read b).opposite).map Ieee.double.write := rfl
theorem fmul_eq (a b : Nat) : fmul a b = ((Ieee.double.read a).product (Ieee.double.read b)).map Ieee.double.write := rfl
theorem fdiv_eq (a b : Nat) : fdiv a b = ((Ieee.double.read a).quotient 54 (Ieee.double.read b)).map Ieee.double.write := rfl
theorem fsqrt_eq (a : Nat) : fsqrt a = ((Ieee.double.read a).root 54).map Ieee.double.write := rfl
theorem signed_v (s : Bool) (m c : Nat) : ((Ieee.signed s m c : Int) : Q) = sgr s * ((m : Q) * ((2 ^ c : Nat) : Q)) := by
  unfold Ieee.signed sgr
  rw [Nat.shiftLeft_eq]
  cases s
  · simp only [Bool.false_eq_true, if_false]
    rw [Rat.intCast_natCast, Rat.natCast_mul]
    grind
  · simp only [if_true]
    rw [Rat.intCast_neg, Rat.intCast_natCast, Rat.natCast_mul]
    grind
theorem nv_int (T : Int) (b : Bool) (p : Int) (hb : T ≠ 0 → b = decide (T < 0)) : nv b T.natAbs p = (T : Q) * (2 : Q) ^ p := by
  rcases Int.lt_trichotomy T 0 with h | h | h
  · have e : (T : Q) = -((T.natAbs : Nat) : Q) := by
      rw [← Rat.intCast_natCast, ← Rat.intCast_neg]
      congr 1
      omega
    rw [hb (by omega), decide_eq_true h, e]
    unfold nv sgr
    simp only [if_true]
    grind
  · subst h
    rw [Int.natAbs_zero, nv_0]
    simp
  · have e : (T : Q) = ((T.natAbs : Nat) : Q) := by
      rw [← Rat.intCast_natCast]
      congr 1
      omega
    rw [hb (by omega), decide_eq_false (by omega), e]
    unfold nv sgr
    simp only [Bool.false_eq_true, if_false]
    grind
theorem nv_base (s : Bool) (m : Nat) {i base : Int} (h : base ≤ i) : nv s m i = ((Ieee.signed s m (i - base).toNat : Int) : Q) * (2 : Q) ^ base := by
  rw [signed_v, nv_mag, ← zp_nat]
  have e : (2 : Q) ^ i = (2 : Q) ^ (((i - base).toNat : Nat) : Int) * (2 : Q) ^ base := by
    rw [← zp_add]
    congr 1
    omega
  rw [e]
  grind
theorem sum_v (s t : Bool) (m n : Nat) (i j : Int) : ∃ u r v, Ieee.Datum.sum (.number s m i) (.number t n j) = some (.number u r v) ∧ nv u r v = nv s m i + nv t n j := by
  refine ⟨_, _, _, rfl, ?_⟩
  rw [nv_int _ _ _ (fun h => by rw [if_neg h]), nv_base s m (Int.min_le_left i j), nv_base t n (Int.min_le_right i j), Rat.intCast_add]
  grind
theorem nv_opp (s : Bool) (m : Nat) (p : Int) : nv (!s) m p = -nv s m p := by
  unfold nv sgr
  cases s
  · simp
    grind
  · simp
    grind
theorem add_v {a b : Nat} {x y : Q} (ha : Fv a x) (hb : Fv b y) (h : InR (x + y)) : ∃ r z d, fadd a b = some r ∧ Fv r z ∧ Nn r ∧ z = (x + y) * (1 + d) ∧ Ab d qu ∧ (Rep (x + y) → d = 0) := by
  obtain ⟨-, s, m, i, ra, rfl⟩ := ha
  obtain ⟨-, t, n, j, rb, rfl⟩ := hb
  obtain ⟨u, r, v, e1, e2⟩ := sum_v s t m n i j
  obtain ⟨z, d, h1, h2, h3, h4, h5⟩ := write_v e2.symm h
  exact ⟨_, z, d, by rw [fadd_eq, ra, rb, e1]; rfl, h1, h2, h3, h4, h5⟩
theorem sub_v {a b : Nat} {x y : Q} (ha : Fv a x) (hb : Fv b y) (h : InR (x - y)) : ∃ r z d, fsub a b = some r ∧ Fv r z ∧ Nn r ∧ z = (x - y) * (1 + d) ∧ Ab d qu ∧ (Rep (x - y) → d = 0) := by
  obtain ⟨-, s, m, i, ra, rfl⟩ := ha
  obtain ⟨-, t, n, j, rb, rfl⟩ := hb
  obtain ⟨u, r, v, e1, e2⟩ := sum_v s (!t) m n i j
  have e3 : nv s m i + nv (!t) n j = nv s m i - nv t n j := by rw [nv_opp]; grind
  rw [e3] at e2
  obtain ⟨z, d, h1, h2, h3, h4, h5⟩ := write_v e2.symm h
  exact ⟨_, z, d, by rw [fsub_eq, ra, rb]; show ((Ieee.Datum.sum (.number s m i) (.number (!t) n j)).map _) = _; rw [e1]; rfl, h1, h2, h3, h4, h5⟩
theorem sgr_xor (s t : Bool) : sgr (s ^^ t) = sgr s * sgr t := by cases s <;> cases t <;> (unfold sgr; simp) <;> grind
theorem mul_v {a b : Nat} {x y : Q} (ha : Fv a x) (hb : Fv b y) (h : InR (x * y)) : ∃ r z d, fmul a b = some r ∧ Fv r z ∧ Nn r ∧ z = (x * y) * (1 + d) ∧ Ab d qu ∧ (Rep (x * y) → d = 0) := by
  obtain ⟨-, s, m, i, ra, rfl⟩ := ha
  obtain ⟨-, t, n, j, rb, rfl⟩ := hb
  have e2 : nv s m i * nv t n j = nv (s ^^ t) (m * n) (i + j) := by
    unfold nv
    rw [sgr_xor, zp_add, Rat.natCast_mul]
    grind
  obtain ⟨z, d, h1, h2, h3, h4, h5⟩ := write_v e2 h
  exact ⟨_, z, d, by rw [fmul_eq, ra, rb]; rfl, h1, h2, h3, h4, h5⟩
/-- .. well inside. -/
def InS (x : Q) : Prop := x = 0 ∨ ((2 : Q) ^ (-900 : Int) ≤ x ∧ x ≤ (2 : Q) ^ (900 : Int)) ∨ ((2 : Q) ^ (-900 : Int) ≤ -x ∧ -x ≤ (2 : Q) ^ (900 : Int))
theorem two_ge1 (n : Nat) : (1 : Q) ≤ ((2 ^ n : Nat) : Q) := by
  have : 1 ≤ 2 ^ n := Nat.pow_pos (by decide)
  have h := Rat.natCast_le_natCast.2 this
  have e : ((1 : Nat) : Q) = 1 := rfl
  grind
theorem zp_two (a b : Int) (h : a < b) : 2 * (2 : Q) ^ a ≤ (2 : Q) ^ b := by
  obtain ⟨n, hn⟩ : ∃ n : Nat, b = a + 1 + (n : Int) := ⟨(b - a - 1).toNat, by omega⟩
  rw [hn, zp_add, zp_add, zp_nat, Rat.zpow_one]
  have h1 := two_ge1 n
  have h2 := two_pos a
  have h3 := Rat.mul_le_mul_of_nonneg_left h1 (show (0 : Q) ≤ (2 : Q) ^ a * 2 by grind)
  grind
theorem InS.near {x d : Q} (h : InS x) (hd : Ab d (1 / 2)) : InR (x * (1 + d)) := by
  have a1 := zp_two (-1000) (-900) (by decide)
  have a2 := zp_two 900 1000 (by decide)
  have p1 := two_pos (-1000)
  have p2 := two_pos 900
  have d1 := hd.1
  have d2 := hd.2
  unfold InR
  rcases h with h | ⟨h1, h2⟩ | ⟨h1, h2⟩
  · left; rw [h]; grind
  · right; left
    have m1 : 0 ≤ x * (d + 1 / 2) := Rat.mul_nonneg (by grind) (by grind)
    have m2 : 0 ≤ x * (1 / 2 - d) := Rat.mul_nonneg (by grind) (by grind)
    constructor <;> grind
  · right; right
    have m1 : 0 ≤ (-x) * (d + 1 / 2) := Rat.mul_nonneg (by grind) (by grind)
    have m2 : 0 ≤ (-x) * (1 / 2 - d) := Rat.mul_nonneg (by grind) (by grind)
    constructor <;> grind
theorem InS.r {x : Q} (h : InS x) : InR x := by
  have := h.near (d := 0) ⟨by grind, by grind⟩
  have e : x * (1 + 0) = x := by grind
  rwa [e] at this
/-- The quotient's datum. -/
theorem quo_v (s t : Bool) {m n : Nat} (i j : Int) (hn : 0 < n) : ∃ r v d, Ieee.Datum.quotient 54 (.number s m i) (.number t n j) = some (.number (s ^^ t) r v) ∧ nv (s ^^ t) r v = (nv s m i / nv t n j) * (1 + d) ∧ Ab d qu ∧ (Rep (nv s m i / nv t n j) → d = 0) := by
  obtain ⟨more, hmo⟩ : ∃ more, more = 54 + n.log2 - m.log2 := ⟨_, rfl⟩
  obtain ⟨D, hD⟩ : ∃ D, D = m <<< more := ⟨_, rfl⟩
  have hq : Ieee.Datum.quotient 54 (.number s m i) (.number t n j) = some (.number (s ^^ t) (2 * (D / n) + (D % n != 0).toNat) (i - j - more - 1)) := by
    unfold Ieee.Datum.quotient
    simp only
    rw [if_neg (by omega), ← hmo, ← hD]
  rw [hq]
  have hnq : (0 : Q) < (n : Q) := Rat.natCast_pos.2 hn
  have hyp := mag_pos hn j
  have hdiv : nv s m i / nv t n j = sgr (s ^^ t) * ((m : Q) * (2 : Q) ^ (i - j) / (n : Q)) := by
    have h1 : nv t n j ≠ 0 := by
      rw [nv_mag]
      rcases sgr_cases t with e | e <;> rw [e] <;> grind
    have h2 : sgr (s ^^ t) * ((m : Q) * (2 : Q) ^ (i - j) / (n : Q)) * nv t n j = nv s m i := by
      have h3 : (m : Q) * (2 : Q) ^ (i - j) / (n : Q) * (n : Q) = (m : Q) * (2 : Q) ^ (i - j) := Rat.div_mul_cancel (by grind)
      have h4 : (2 : Q) ^ (i - j) * (2 : Q) ^ j = (2 : Q) ^ i := by rw [← zp_add]; congr 1; omega
      rw [nv_mag, nv_mag, sgr_xor, ← h4]
      have h5 : sgr t * sgr t = 1 := by rcases sgr_cases t with e | e <;> rw [e] <;> grind
      generalize (m : Q) * (2 : Q) ^ (i - j) / (n : Q) = X at *
      have h6 : sgr s * sgr t * X * (sgr t * ((n : Q) * (2 : Q) ^ j)) = sgr s * (sgr t * sgr t) * ((X * (n : Q)) * (2 : Q) ^ j) := by grind
      rw [h6, h5, h3]
      grind
    rw [← h2, Rat.mul_div_cancel h1]
  obtain ⟨P, hP⟩ : ∃ P, P = (2 : Q) ^ (i - j - more) := ⟨_, rfl⟩
  have hPp : 0 < P := by rw [hP]; exact two_pos _
  have hDq : ((D : Nat) : Q) = (m : Q) * ((2 ^ more : Nat) : Q) := by rw [hD, Nat.shiftLeft_eq, Rat.natCast_mul]
  have hX : (m : Q) * (2 : Q) ^ (i - j) / (n : Q) = (D : Q) * P / (n : Q) := by
    rw [hDq, hP, ← zp_nat]
    have : (2 : Q) ^ (i - j) = (2 : Q) ^ ((more : Nat) : Int) * (2 : Q) ^ (i - j - more) := by rw [← zp_add]; congr 1; omega
    rw [this]
    congr 1
    grind
  rw [hdiv, hX]
  have hV : ∀ k : Nat, nv (s ^^ t) k (i - j - more - 1) = sgr (s ^^ t) * ((k : Q) / 2 * P) := by
    intro k
    rw [nv_mag, hP, show i - j - (more : Int) - 1 = -1 + (i - j - more) by omega, zp_add, Rat.zpow_neg, Rat.zpow_one]
    have : (2 : Q)⁻¹ = 1 / 2 := by grind
    rw [this]
    grind
  have hdm := Nat.div_add_mod D n
  have hml := Nat.mod_lt D hn
  obtain ⟨q, hqq⟩ : ∃ q, q = D / n := ⟨_, rfl⟩
  obtain ⟨r, hrr⟩ : ∃ r, r = D % n := ⟨_, rfl⟩
  rw [← hqq, ← hrr] at hdm ⊢
  rw [← hrr] at hml
  have hbig : 0 < m → 9007199254740992 * n ≤ D := by
    intro hm
    have hlo : 2 ^ m.log2 ≤ m := Nat.log2_self_le (by omega)
    have hhi : n < 2 ^ (n.log2 + 1) := Nat.lt_log2_self
    have h1 : 2 ^ (m.log2 + more) ≤ D := by
      rw [hD, Nat.shiftLeft_eq, Nat.pow_add]
      exact Nat.mul_le_mul_right _ hlo
    have h2 : (2 : Nat) ^ (53 + (n.log2 + 1)) ≤ 2 ^ (m.log2 + more) := Nat.pow_le_pow_right (by decide) (by omega)
    rw [Nat.pow_add] at h2
    have h3 : 2 ^ 53 * n ≤ 2 ^ 53 * 2 ^ (n.log2 + 1) := Nat.mul_le_mul_left _ (Nat.le_of_lt hhi)
    exact Nat.le_trans h3 (Nat.le_trans h2 h1)
  have hqc : (n : Q) * (q : Q) + (r : Q) = (D : Q) := by
    rw [← Rat.natCast_mul, ← Rat.natCast_add, hdm]
  have qu0 : qu * 9007199254740992 = 1 := by unfold qu; grind
  by_cases hr0 : r = 0
  · refine ⟨_, _, 0, rfl, ?_, ⟨by unfold qu; grind, by unfold qu; grind⟩, fun _ => rfl⟩
    have e1 : (r != 0).toNat = 0 := by rw [hr0]; rfl
    rw [hV, e1, Nat.add_zero, Rat.natCast_mul]
    have e2 : (D : Q) * P / (n : Q) = (q : Q) * P := by
      have : (q : Q) * P * (n : Q) = (D : Q) * P := by
        rw [hr0] at hqc
        have : ((0 : Nat) : Q) = 0 := rfl
        grind
      rw [← this, Rat.mul_div_cancel (by grind)]
    rw [e2]
    have : ((2 : Nat) : Q) = 2 := rfl
    rw [this]
    grind
  · have e1 : (r != 0).toNat = 1 := by simp [hr0]
    have hm : 0 < m := by
      rcases Nat.eq_zero_or_pos m with h | h
      · exfalso
        rw [hD, h, Nat.zero_shiftLeft, Nat.zero_mod] at hrr
        exact hr0 hrr
      · exact h
    have hb := hbig hm
    have hbq : ((9007199254740992 * n : Nat) : Q) ≤ ((D : Nat) : Q) := Rat.natCast_le_natCast.2 hb
    rw [Rat.natCast_mul, show ((9007199254740992 : Nat) : Q) = 9007199254740992 from rfl] at hbq
    have hDp : (0 : Q) < (D : Q) := by grind
    have hrq : (r : Q) < (n : Q) := Rat.natCast_lt_natCast.2 hml
    have hr1 : (0 : Q) ≤ (r : Q) := Rat.natCast_nonneg
    -- (q + 1/2) n against D
    refine ⟨_, _, ((2 * (q : Q) + 1) * (n : Q) / 2 - (D : Q)) / (D : Q), rfl, ?_, ?_, fun hrep => ?_⟩
    · rw [hV, e1, Rat.natCast_add, Rat.natCast_mul, show ((2 : Nat) : Q) = 2 from rfl, show ((1 : Nat) : Q) = 1 from rfl]
      obtain ⟨d, hd⟩ : ∃ d, d = ((2 * (q : Q) + 1) * (n : Q) / 2 - (D : Q)) / (D : Q) := ⟨_, rfl⟩
      have hd2 : d * (D : Q) = (2 * (q : Q) + 1) * (n : Q) / 2 - (D : Q) := by rw [hd]; exact Rat.div_mul_cancel (by grind)
      rw [← hd]
      obtain ⟨X, hXX⟩ : ∃ X, X = (D : Q) * P / (n : Q) := ⟨_, rfl⟩
      have hX2 : X * (n : Q) = (D : Q) * P := by rw [hXX]; exact Rat.div_mul_cancel (by grind)
      rw [← hXX]
      have key : ((2 * (q : Q) + 1) / 2 * P - X * (1 + d)) * (n : Q) = 0 := by
        have : ((2 * (q : Q) + 1) / 2 * P - X * (1 + d)) * (n : Q) = (2 * (q : Q) + 1) / 2 * (n : Q) * P - (X * (n : Q)) * (1 + d) := by grind
        rw [this, hX2]
        have : (D : Q) * P * (1 + d) = P * ((D : Q) + d * (D : Q)) := by grind
        rw [this, hd2]
        grind
      rcases Rat.mul_eq_zero.1 key with h | h
      · have : (2 * (q : Q) + 1) / 2 * P = X * (1 + d) := by grind
        rw [this]
        grind
      · grind
    · obtain ⟨d, hd⟩ : ∃ d, d = ((2 * (q : Q) + 1) * (n : Q) / 2 - (D : Q)) / (D : Q) := ⟨_, rfl⟩
      have hd2 : d * (D : Q) = (2 * (q : Q) + 1) * (n : Q) / 2 - (D : Q) := by rw [hd]; exact Rat.div_mul_cancel (by grind)
      rw [← hd]
      have hd3 : d * (D : Q) = (n : Q) / 2 - (r : Q) := by rw [hd2]; grind
      obtain ⟨t2, ht⟩ : ∃ t2, t2 = qu * (D : Q) := ⟨_, rfl⟩
      have ht2 : t2 * 9007199254740992 = (D : Q) := by rw [ht]; grind
      constructor
      · refine Rat.le_of_mul_le_mul_right (c := (D : Q)) ?_ hDp
        rw [hd3, Rat.neg_mul, ← ht]
        clear hd hd2 hd3 ht qu0 hX hdiv hV hqc
        grind
      · refine Rat.le_of_mul_le_mul_right (c := (D : Q)) ?_ hDp
        rw [hd3, ← ht]
        clear hd hd2 hd3 ht qu0 hX hdiv hV hqc
        grind
    · exfalso
      obtain ⟨N, e, hN, hx⟩ := hrep
      obtain ⟨u, hu⟩ := sgn_mul N
      have hx2 : (D : Q) * P = ((N.natAbs : Nat) : Q) * (2 : Q) ^ e * (n : Q) := by
        obtain ⟨X, hXX⟩ : ∃ X, X = (D : Q) * P / (n : Q) := ⟨_, rfl⟩
        have hX2 : X * (n : Q) = (D : Q) * P := by rw [hXX]; exact Rat.div_mul_cancel (by grind)
        rw [← hXX, hu] at hx
        have hXp : 0 < X := by
          have : 0 < (D : Q) * P := Rat.mul_pos hDp hPp
          rw [← hX2] at this
          exact (Rat.mul_pos_iff_of_pos_right hnq).1 this
        have a2 := mag_nonneg N.natAbs e
        rw [← hX2]
        rcases sgr_cases (s ^^ t) with h1 | h1 <;> rcases sgr_cases u with h2 | h2 <;> rw [h1, h2] at hx
        · have : X = ((N.natAbs : Nat) : Q) * (2 : Q) ^ e := by grind
          rw [this]
        · exfalso; grind
        · exfalso; grind
        · have : X = ((N.natAbs : Nat) : Q) * (2 : Q) ^ e := by grind
          rw [this]
      generalize N.natAbs = M at hN hx2
      rw [hP] at hx2
      rcases Int.le_total (i - j - more) e with h | h
      · obtain ⟨c, hc⟩ : ∃ c : Nat, e = (i - j - more) + (c : Int) := ⟨(e - (i - j - more)).toNat, by omega⟩
        have hDe : D = M * 2 ^ c * n := by
          rw [hc, zp_add, zp_nat] at hx2
          have t1 := two_pos (i - j - more)
          have h4 : ((D : Q) - ((M * 2 ^ c * n : Nat) : Q)) * (2 : Q) ^ (i - j - more) = 0 := by
            rw [Rat.natCast_mul, Rat.natCast_mul]
            grind
          rcases Rat.mul_eq_zero.1 h4 with h5 | h5
          · exact Rat.natCast_inj.1 (by grind)
          · grind
        apply hr0
        rw [hrr, hDe]
        exact Nat.mul_mod_left _ _
      · obtain ⟨c, hc⟩ : ∃ c : Nat, (i - j - more) = e + (c : Int) := ⟨((i - j - more) - e).toNat, by omega⟩
        have hDe : D * 2 ^ c = M * n := by
          rw [hc, zp_add, zp_nat] at hx2
          have t1 := two_pos e
          have h4 : (((D * 2 ^ c : Nat) : Q) - ((M * n : Nat) : Q)) * (2 : Q) ^ e = 0 := by
            rw [Rat.natCast_mul, Rat.natCast_mul]
            grind
          rcases Rat.mul_eq_zero.1 h4 with h5 | h5
          · exact Rat.natCast_inj.1 (by grind)
          · grind
        have h7 : 1 ≤ 2 ^ c := Nat.pow_pos (by decide)
        have h8 : D * 1 ≤ D * 2 ^ c := Nat.mul_le_mul_left _ h7
        have h9 : M * n < 9007199254740992 * n := Nat.mul_lt_mul_of_pos_right hN hn
        omega
theorem qu_small : qu ≤ 1 / 2 ∧ 0 ≤ qu ∧ qu * qu ≤ qu := by unfold qu; grind
theorem div_v {a b : Nat} {x y : Q} (ha : Fv a x) (hb : Fv b y) (hy : y ≠ 0) (h : InS (x / y)) : ∃ r z d, fdiv a b = some r ∧ Fv r z ∧ Nn r ∧ z = (x / y) * (1 + d) ∧ Ab d (3 * qu) ∧ (Rep (x / y) → d = 0) := by
  obtain ⟨-, s, m, i, ra, rfl⟩ := ha
  obtain ⟨-, t, n, j, rb, rfl⟩ := hb
  have hn : 0 < n := by
    rcases Nat.eq_zero_or_pos n with h | h
    · subst h
      exact absurd (nv_0 t j) hy
    · exact h
  obtain ⟨r, v, d0, e1, e2, e3, e4⟩ := quo_v s t (m := m) i j hn
  obtain ⟨q1, q2, q3⟩ := qu_small
  obtain ⟨z, d, h1, h2, h3, h4, h5⟩ := write_v e2.symm (h.near (e3.mono q1))
  refine ⟨_, z, d0 + d + d0 * d, by rw [fdiv_eq, ra, rb, e1]; rfl, h1, h2, by rw [h3]; grind, ((e3.add h4).add (e3.mul h4)).mono (by grind), fun hr => ?_⟩
  have z0 := e4 hr
  have z1 := h5 (by rw [z0]; have : nv s m i / nv t n j * (1 + 0) = nv s m i / nv t n j := by grind
                    rw [this]; exact hr)
  rw [z0, z1]
  grind
end
section
open Go.RowKit
theorem sq_le {a b : Q} (hb : 0 ≤ b) (h : a * a ≤ b * b) : a ≤ b := by
  rcases Rat.le_total (a := a) (b := b) with k | k
  · exact k
  · rcases Rat.le_iff_lt_or_eq.1 k with k2 | k2
    · exfalso
      have h1 : 0 < (a - b) * (a + b) := Rat.mul_pos (by grind) (by grind)
      grind
    · rw [k2]; grind
theorem rootFrom_v (n : Nat) : ∀ (todo root : Nat), root * root ≤ n → n < (root + 2 ^ todo) * (root + 2 ^ todo) →
    Ieee.Datum.rootFrom n todo root * Ieee.Datum.rootFrom n todo root ≤ n ∧ n < (Ieee.Datum.rootFrom n todo root + 1) * (Ieee.Datum.rootFrom n todo root + 1)
  | 0, root, h1, h2 => by
    unfold Ieee.Datum.rootFrom
    exact ⟨h1, by simpa using h2⟩
  | todo + 1, root, h1, h2 => by
    unfold Ieee.Datum.rootFrom
    simp only
    rw [Nat.shiftLeft_eq, Nat.one_mul]
    split
    · rename_i h
      refine rootFrom_v n todo _ h ?_
      rw [Nat.pow_succ] at h2
      rw [show root + 2 ^ todo + 2 ^ todo = root + 2 ^ todo * 2 by omega]
      exact h2
    · rename_i h
      exact rootFrom_v n todo _ h1 (by omega)
theorem sqrt_in {x A V : Q} (hAp : 0 < A) (h1 : (2 : Q) ^ (-800 : Int) ≤ x) (h2 : x ≤ (2 : Q) ^ (800 : Int)) (hA1 : A * A ≤ x) (hA2 : x ≤ 4 * (A * A)) (hV3 : A ≤ V) (hV5 : V ≤ 2 * A) : InR V := by
  right; left
  have m1 : (2 : Q) ^ (-1000 : Int) * (2 : Q) ^ (-1000 : Int) = (2 : Q) ^ (-2000 : Int) := by rw [← zp_add]; rfl
  have m2 : (2 : Q) ^ (1000 : Int) * (2 : Q) ^ (1000 : Int) = (2 : Q) ^ (2000 : Int) := by rw [← zp_add]; rfl
  have e2 := zp_two (-2000) (-900) (by decide)
  have e3 := zp_two (-900) (-800) (by decide)
  have e4 := two_pos (-2000)
  have e5 := zp_two 800 900 (by decide)
  have e6 := zp_two 900 2000 (by decide)
  have e7 := two_pos 1000
  generalize (2 : Q) ^ (-1000 : Int) = a1 at *
  generalize (2 : Q) ^ (-2000 : Int) = a2 at *
  generalize (2 : Q) ^ (-900 : Int) = a3 at *
  generalize (2 : Q) ^ (-800 : Int) = a4 at *
  generalize (2 : Q) ^ (800 : Int) = b1 at *
  generalize (2 : Q) ^ (900 : Int) = b2 at *
  generalize (2 : Q) ^ (2000 : Int) = b3 at *
  generalize (2 : Q) ^ (1000 : Int) = b4 at *
  constructor
  · refine Rat.le_trans ?_ hV3
    refine sq_le (Rat.le_of_lt hAp) ?_
    rw [m1]
    grind
  · refine sq_le (Rat.le_of_lt e7) ?_
    rw [m2]
    have t1 : V * V ≤ (2 * A) * (2 * A) := by
      have : 0 ≤ (2 * A - V) * (2 * A + V) := Rat.mul_nonneg (by grind) (by grind)
      grind
    grind
theorem sqrt_v {a : Nat} {x : Q} (ha : Fv a x) (h1 : (2 : Q) ^ (-800 : Int) ≤ x) (h2 : x ≤ (2 : Q) ^ (800 : Int)) :
    ∃ r z, fsqrt a = some r ∧ Fv r z ∧ Nn r ∧ 0 < z ∧ (∀ B, 0 < B → x ≤ B * B → z ≤ B * (1 + 3 * qu)) ∧ (∀ t, 0 < t → x = t * t → Rep t → z = t) ∧ (∀ B, 0 < B → B * B ≤ x → B ≤ 4 * z) := by
  obtain ⟨-, s, m, i, ra, hx⟩ := ha
  have hxp : 0 < x := by have := two_pos (-800); grind
  have hm : 0 < m := by
    rcases Nat.eq_zero_or_pos m with h | h
    · subst h
      rw [nv_0] at hx
      grind
    · exact h
  have hs : s = false := by
    cases s
    · rfl
    · exfalso
      have := mag_pos hm i
      rw [nv_mag] at hx
      unfold sgr at hx
      simp only [if_true] at hx
      grind
  subst hs
  have hxm : x = (m : Q) * (2 : Q) ^ i := by
    rw [hx, nv_mag]
    unfold sgr
    simp only [Bool.false_eq_true, if_false]
    grind
  obtain ⟨mo, hmo⟩ : ∃ mo, mo = 2 * 54 - m.log2 := ⟨_, rfl⟩
  obtain ⟨more, hmore⟩ : ∃ more, more = mo + ((i - (mo : Int)) % 2).toNat := ⟨_, rfl⟩
  obtain ⟨n, hn⟩ : ∃ n, n = m <<< more := ⟨_, rfl⟩
  obtain ⟨w, hw⟩ : ∃ w, w = Ieee.Datum.rootFrom n (n.log2 / 2 + 1) 0 := ⟨_, rfl⟩
  obtain ⟨h, hh⟩ : ∃ h, h = (i - (more : Int)) / 2 := ⟨_, rfl⟩
  have hih : i = 2 * h + more := by omega
  have hroot : Ieee.Datum.root 54 (.number false m i) = some (.number false (2 * w + (w * w != n).toNat) (h - 1)) := by
    unfold Ieee.Datum.root
    simp only
    rw [if_neg (by omega), if_neg (by decide), ← hmo, ← hmore, ← hn, ← hw, ← hh]
  have hn0 : n < 2 ^ (n.log2 + 1) := Nat.lt_log2_self
  have hnl : (2 : Nat) ^ 108 ≤ n := by
    have hlo : 2 ^ m.log2 ≤ m := Nat.log2_self_le (by omega)
    have t1 : 2 ^ (m.log2 + more) ≤ n := by
      rw [hn, Nat.shiftLeft_eq, Nat.pow_add]
      exact Nat.mul_le_mul_right _ hlo
    exact Nat.le_trans (Nat.pow_le_pow_right (by decide) (by omega)) t1
  obtain ⟨w1, w2⟩ := rootFrom_v n (n.log2 / 2 + 1) 0 (Nat.zero_le _) (by
    rw [Nat.zero_add, ← Nat.pow_add]
    exact Nat.lt_of_lt_of_le hn0 (Nat.pow_le_pow_right (by decide) (by omega)))
  rw [← hw] at w1 w2
  have hw54 : 18014398509481984 ≤ w := by
    rcases Nat.lt_or_ge w 18014398509481984 with k | k
    · exfalso
      have t1 : (w + 1) * (w + 1) ≤ 18014398509481984 * 18014398509481984 := Nat.mul_le_mul (by omega) (by omega)
      have t2 : (2 : Nat) ^ 108 = 18014398509481984 * 18014398509481984 := by decide
      omega
    · exact k
  obtain ⟨T, hT⟩ : ∃ T, T = (2 : Q) ^ h := ⟨_, rfl⟩
  have hTp : 0 < T := by rw [hT]; exact two_pos _
  have hxn : x = (n : Q) * (T * T) := by
    rw [hxm, hn, Nat.shiftLeft_eq, Rat.natCast_mul, ← zp_nat, hT, hih, zp_add, show 2 * h = h + h by omega, zp_add]
    grind
  have c1 : ((w * w : Nat) : Q) ≤ (n : Q) := Rat.natCast_le_natCast.2 w1
  have c2 : ((n : Nat) : Q) < (((w + 1) * (w + 1) : Nat) : Q) := Rat.natCast_lt_natCast.2 w2
  rw [Rat.natCast_mul] at c1
  rw [Rat.natCast_mul, Rat.natCast_add, show ((1 : Nat) : Q) = 1 from rfl] at c2
  have c3 : ((18014398509481984 : Nat) : Q) ≤ (w : Q) := Rat.natCast_le_natCast.2 hw54
  rw [show ((18014398509481984 : Nat) : Q) = 18014398509481984 from rfl] at c3
  have TT : 0 < T * T := Rat.mul_pos hTp hTp
  obtain ⟨A, hA⟩ : ∃ A, A = (w : Q) * T := ⟨_, rfl⟩
  have hAp : 0 < A := by rw [hA]; exact Rat.mul_pos (by grind) hTp
  have hA1 : A * A ≤ x := by
    have := Rat.mul_le_mul_of_nonneg_right c1 (Rat.le_of_lt TT)
    rw [hA, hxn]
    grind
  have hA2 : x ≤ 4 * (A * A) := by
    have t1 : (n : Q) ≤ 4 * ((w : Q) * (w : Q)) := by
      have t2 : 0 ≤ ((w : Q) - 1) * ((w : Q) - 1) := Rat.mul_nonneg (by grind) (by grind)
      have t3 : 0 ≤ (w : Q) * ((w : Q) - 18014398509481984) := Rat.mul_nonneg (by grind) (by grind)
      grind
    have := Rat.mul_le_mul_of_nonneg_right t1 (Rat.le_of_lt TT)
    rw [hA, hxn]
    grind
  obtain ⟨st, hst⟩ : ∃ st : Bool, st = (w * w != n) := ⟨_, rfl⟩
  rw [← hst] at hroot
  obtain ⟨V, hV⟩ : ∃ V, V = nv false (2 * w + st.toNat) (h - 1) := ⟨_, rfl⟩
  have hV2 : V = A + (if st = true then T / 2 else 0) := by
    rw [hV, nv_mag, show h - 1 = -1 + h by omega, zp_add, Rat.zpow_neg, Rat.zpow_one, ← hT, Rat.natCast_add, Rat.natCast_mul, hA]
    unfold sgr
    have e2 : (2 : Q)⁻¹ = 1 / 2 := by grind
    rw [e2]
    cases st
    · simp only [Bool.false_eq_true, if_false, Bool.toNat_false, show ((2 : Nat) : Q) = 2 from rfl, show ((0 : Nat) : Q) = 0 from rfl]
      grind
    · simp only [Bool.false_eq_true, if_false, if_true, Bool.toNat_true, show ((2 : Nat) : Q) = 2 from rfl, show ((1 : Nat) : Q) = 1 from rfl]
      grind
  have hTA : T * 36028797018963968 ≤ 2 * A := by
    have := Rat.mul_le_mul_of_nonneg_right c3 (Rat.le_of_lt hTp)
    rw [← hA] at this
    grind
  have hV3 : A ≤ V := by
    rw [hV2]
    split <;> grind
  have hV4 : V ≤ A * (1 + qu) := by
    clear h1 h2 ra hx hxm hmo hmore hn hw hh hih hn0 hnl w1 w2 hw54 hT hxn c1 c2 c3 hroot hA hA1 hA2 hV hxp TT
    have qq : qu * 9007199254740992 = 1 := by unfold qu; grind
    have t1 : T / 2 ≤ A * qu := by
      have t0 : (T / 2) * 9007199254740992 ≤ A := by clear hV2 qq; grind
      refine Rat.le_of_mul_le_mul_right (c := 9007199254740992) ?_ (by decide)
      have e0 : A * qu * 9007199254740992 = A * (qu * 9007199254740992) := Rat.mul_assoc _ _ _
      rw [e0, qq]
      clear hV2 qq e0
      grind
    have t2 : 0 ≤ A * qu := Rat.mul_nonneg (Rat.le_of_lt hAp) qu_small.2.1
    have t3 : A * (1 + qu) = A + A * qu := by rw [Rat.mul_add, Rat.mul_one]
    rw [hV2, t3]
    generalize A * qu = G at *
    clear hV2 qq t3 hTA
    split <;> grind
  have hV5 : V ≤ 2 * A := by
    have t2 : A * qu ≤ A * (1 / 2) := Rat.mul_le_mul_of_nonneg_left qu_small.1 (Rat.le_of_lt hAp)
    grind
  have hin : InR V := sqrt_in hAp h1 h2 hA1 hA2 hV3 hV5
  clear h1 h2
  obtain ⟨z, d, f1, f2, f3, f4, f5⟩ := write_v hV hin
  refine ⟨_, z, by rw [fsqrt_eq, ra, hroot]; rfl, f1, f2, ?_, fun B hB hxB => ?_, fun t ht hxt hrep => ?_, fun B hB hxB => ?_⟩
  · rw [f3]
    have q1 := qu_small.1
    have := f4.1
    exact Rat.mul_pos (by grind) (by grind)
  · have hAB : A ≤ B := sq_le (Rat.le_of_lt hB) (Rat.le_trans hA1 hxB)
    obtain ⟨q1, q2, q3⟩ := qu_small
    have t1 : A * (1 + qu) ≤ B * (1 + qu) := Rat.mul_le_mul_of_nonneg_right hAB (by grind)
    have t2 : V ≤ B * (1 + qu) := by grind
    have t3 : V * (1 + d) ≤ V * (1 + qu) := Rat.mul_le_mul_of_nonneg_left (by have := f4.2; grind) (by grind)
    have t4 : V * (1 + qu) ≤ B * (1 + qu) * (1 + qu) := Rat.mul_le_mul_of_nonneg_right t2 (by grind)
    have t5 : B * (qu * qu) ≤ B * qu := Rat.mul_le_mul_of_nonneg_left q3 (Rat.le_of_lt hB)
    rw [f3]
    grind
  · obtain ⟨N, e, hN, hte⟩ := hrep
    have hNp : 0 < N := by
      rcases Int.lt_or_le 0 N with k | k
      · exact k
      · exfalso
        have k2 : (N : Q) ≤ 0 := by
          have := Rat.intCast_le_intCast.2 k
          simpa using this
        have k3 := two_pos e
        have k4 : 0 ≤ (-(N : Q)) * (2 : Q) ^ e := Rat.mul_nonneg (by grind) (by grind)
        grind
    have hNa : (N : Q) = ((N.natAbs : Nat) : Q) := by
      rw [← Rat.intCast_natCast]
      congr 1
      omega
    rw [hNa] at hte
    have hM0 : 0 < N.natAbs := by omega
    generalize N.natAbs = M at hN hte hM0
    have hh1 : h < e := by
      rcases Int.lt_or_le h e with k | k
      · exact k
      · exfalso
        obtain ⟨c, hc⟩ : ∃ c : Nat, h = e + (c : Int) := ⟨(h - e).toNat, by omega⟩
        have hTe : T = (2 : Q) ^ e * ((2 ^ c : Nat) : Q) := by rw [hT, hc, zp_add, zp_nat]
        have hMA : A ≤ t := sq_le (Rat.le_of_lt ht) (by rw [← hxt]; exact hA1)
        have k1 := two_pos e
        have k2 := two_ge1 c
        have k3 : ((M : Nat) : Q) < ((9007199254740992 : Nat) : Q) := Rat.natCast_lt_natCast.2 hN
        rw [show ((9007199254740992 : Nat) : Q) = 9007199254740992 from rfl] at k3
        have k4 : (2 : Q) ^ e * 1 ≤ (2 : Q) ^ e * ((2 ^ c : Nat) : Q) := Rat.mul_le_mul_of_nonneg_left k2 (Rat.le_of_lt k1)
        rw [← hTe] at k4
        have k5 : (2 : Q) ^ e * 36028797018963968 ≤ 2 * t := by grind
        have k6 : (M : Q) * (2 : Q) ^ e ≤ 9007199254740992 * (2 : Q) ^ e := Rat.mul_le_mul_of_nonneg_right (Rat.le_of_lt k3) (Rat.le_of_lt k1)
        grind
    obtain ⟨c, hc⟩ : ∃ c : Nat, e = h + (c : Int) := ⟨(e - h).toNat, by omega⟩
    have hte2 : t = ((M * 2 ^ c : Nat) : Q) * T := by
      rw [hte, hc, zp_add, zp_nat, hT, Rat.natCast_mul]
      grind
    obtain ⟨R, hR⟩ : ∃ R, R = M * 2 ^ c := ⟨_, rfl⟩
    rw [← hR] at hte2
    have hnR : n = R * R := by
      have k1 : ((n : Q) - (R : Q) * (R : Q)) * (T * T) = 0 := by
        have : (n : Q) * (T * T) = ((R : Q) * T) * ((R : Q) * T) := by rw [← hxn, ← hte2, hxt]
        grind
      rcases Rat.mul_eq_zero.1 k1 with k2 | k2
      · refine Rat.natCast_inj.1 ?_
        rw [Rat.natCast_mul]
        grind
      · grind
    have hwR : w = R := by
      rw [hnR] at w1 w2
      have a1 : w ≤ R := by
        rcases Nat.lt_or_ge R w with k | k
        · exfalso
          have : (R + 1) * (R + 1) ≤ w * w := Nat.mul_le_mul k k
          have e3 : (R + 1) * (R + 1) = R * R + R + R + 1 := by rw [Nat.add_mul, Nat.mul_add]; omega
          omega
        · exact k
      have a2 : R ≤ w := by
        rcases Nat.lt_or_ge w R with k | k
        · exfalso
          have : (w + 1) * (w + 1) ≤ R * R := Nat.mul_le_mul k k
          omega
        · exact k
      omega
    have hst0 : st = false := by
      rw [hst, hwR, hnR]
      simp
    have hVt : V = t := by
      rw [hV2, hst0, hte2, hA, hwR]
      simp only [Bool.false_eq_true, if_false]
      grind
    have hd := f5 (by
      rw [hVt]
      exact ⟨(M : Int), e, by omega, by rw [hte, Rat.intCast_natCast]⟩)
    rw [f3, hd, hVt]
    grind
  · have h1 : B ≤ 2 * A := sq_le (by clear hV2 hV4 hV3 hV5; grind) (by clear hV2 hV4 hV3 hV5 hA1; grind)
    have h2 : V * (1 + d) ≥ V * (1 / 2) := by
      refine Rat.mul_le_mul_of_nonneg_left ?_ (by clear hV2 hV4 hV5; grind)
      have := f4.1
      have := qu_small.1
      grind
    rw [f3]
    clear hV2 hV4 hV5
    grind
end
section
open Go.RowKit
def cmpQ (x y : Q) : Ordering := if x < y then .lt else if y < x then .gt else .eq
theorem icmp (a b : Int) : compare a b = if a < b then .lt else if b < a then .gt else .eq := by
  simp only [compare, compareOfLessAndEq]
  by_cases h : a < b
  · rw [if_pos h, if_pos h]
  · rw [if_neg h, if_neg h]
    by_cases h2 : b < a
    · rw [if_neg (by omega), if_pos h2]
    · rw [if_pos (by omega), if_neg h2]
/-- Floats stand as what they are worth. -/
theorem forderV {a b : Nat} {x y : Q} (ha : Fv a x) (hb : Fv b y) : FloatKind.f64.format.order a b = some (cmpQ x y) := by
  obtain ⟨-, s, m, i, ra, rfl⟩ := ha
  obtain ⟨-, t, n, j, rb, rfl⟩ := hb
  show (Ieee.double.read a).order (Ieee.double.read b) = _
  rw [ra, rb]
  show some (compare (Ieee.signed s m (i - min i j).toNat) (Ieee.signed t n (j - min i j).toNat)) = _
  rw [nv_base s m (Int.min_le_left i j), nv_base t n (Int.min_le_right i j), icmp]
  generalize Ieee.signed s m (i - min i j).toNat = A
  generalize Ieee.signed t n (j - min i j).toNat = B
  have hp := two_pos (min i j)
  generalize (2 : Q) ^ (min i j) = P at hp
  unfold cmpQ
  simp only [Rat.mul_lt_mul_right hp, Rat.intCast_lt_intCast]
theorem Fv.flt {a b : Nat} {x y : Q} (ha : Fv a x) (hb : Fv b y) : flt a b = decide (x < y) := by
  unfold Proofs.YtcoillcppmibgaaGreatDoor.flt
  rw [forderV ha hb]
  unfold cmpQ
  by_cases h : x < y
  · rw [if_pos h, decide_eq_true h]; rfl
  · rw [if_neg h, decide_eq_false h]; split <;> rfl
theorem Fv.fgt {a b : Nat} {x y : Q} (ha : Fv a x) (hb : Fv b y) : fgt a b = decide (y < x) := by
  unfold Proofs.YtcoillcppmibgaaGreatDoor.fgt
  rw [forderV ha hb]
  unfold cmpQ
  by_cases h : x < y
  · rw [if_pos h, decide_eq_false (by grind)]; rfl
  · rw [if_neg h]
    by_cases h2 : y < x
    · rw [if_pos h2, decide_eq_true h2]; rfl
    · rw [if_neg h2, decide_eq_false h2]; rfl
theorem Fv.feq {a b : Nat} {x y : Q} (ha : Fv a x) (hb : Fv b y) : feq a b = decide (x = y) := by
  unfold Proofs.YtcoillcppmibgaaGreatDoor.feq
  rw [forderV ha hb]
  unfold cmpQ
  by_cases h : x < y
  · rw [if_pos h, decide_eq_false (by grind)]; rfl
  · rw [if_neg h]
    by_cases h2 : y < x
    · rw [if_pos h2, decide_eq_false (by grind)]; rfl
    · rw [if_neg h2, decide_eq_true (by grind)]; rfl
theorem Fv.fle {a b : Nat} {x y : Q} (ha : Fv a x) (hb : Fv b y) : fle a b = decide (x ≤ y) := by
  unfold Proofs.YtcoillcppmibgaaGreatDoor.fle
  rw [forderV ha hb]
  unfold cmpQ
  by_cases h : x < y
  · rw [if_pos h, decide_eq_true (by grind)]; rfl
  · rw [if_neg h]
    by_cases h2 : y < x
    · rw [if_pos h2, decide_eq_false (by grind)]; rfl
    · rw [if_neg h2, decide_eq_true (by grind)]; rfl
theorem Fv.fge {a b : Nat} {x y : Q} (ha : Fv a x) (hb : Fv b y) : fge a b = decide (y ≤ x) := by
  unfold Proofs.YtcoillcppmibgaaGreatDoor.fge
  rw [forderV ha hb]
  unfold cmpQ
  by_cases h : x < y
  · rw [if_pos h, decide_eq_false (by grind)]; rfl
  · rw [if_neg h]
    by_cases h2 : y < x
    · rw [if_pos h2, decide_eq_true (by grind)]; rfl
    · rw [if_neg h2, decide_eq_true (by grind)]; rfl
theorem andNot63 (p : Nat) (hp : p < 18446744073709551616) : bits BinOp.andNot IntKind.u64 (p : Int) 9223372036854775808 = ((p % 9223372036854775808 : Nat) : Int) := by
  have h := u64_andNot_nat p 9223372036854775808 hp (by decide)
  rw [show 18446744073709551615 - 9223372036854775808 = 2 ^ 63 - 1 by decide, Nat.and_two_pow_sub_one_eq_mod] at h
  exact h
theorem fabs_eq {a : Nat} (h : a < 18446744073709551616) : fabs a = a % 9223372036854775808 := by
  unfold fabs
  rw [andNot63 a h]
  omega
/-- A number's size is told by the bits below the sign. -/
theorem read_abs {b : Nat} {s : Bool} {m : Nat} {p : Int} (hb : b < 18446744073709551616) (h : Ieee.double.read b = .number s m p) :
    s = decide (9223372036854775808 ≤ b) ∧ ∀ c, c < 18446744073709551616 → c % 9223372036854775808 = b % 9223372036854775808 → Ieee.double.read c = .number (decide (9223372036854775808 ≤ c)) m p := by
  have key : ∀ c : Nat, c < 18446744073709551616 → (c / 9223372036854775808 % 2 == 1) = decide (9223372036854775808 ≤ c) := by
    intro c hc
    by_cases h : 9223372036854775808 ≤ c
    · rw [decide_eq_true h, show c / 9223372036854775808 = 1 by omega]; rfl
    · rw [decide_eq_false h, show c / 9223372036854775808 = 0 by omega]; rfl
  unfold Ieee.Format.read at h ⊢
  simp only [D_sw, D_bin, D_inf, D_least] at h ⊢
  rw [key b hb] at h
  have h2 : ∀ c, c < 18446744073709551616 → c % 9223372036854775808 = b % 9223372036854775808 → _ := fun c hc e => (show (if c % 9223372036854775808 < 4503599627370496 then Ieee.Datum.number (c / 9223372036854775808 % 2 == 1) (c % 9223372036854775808) (-1074) else if c % 9223372036854775808 < 9218868437227405312 then Ieee.Datum.number (c / 9223372036854775808 % 2 == 1) (4503599627370496 + c % 9223372036854775808 % 4503599627370496) (-1074 + ((c % 9223372036854775808 / 4503599627370496 - 1 : Nat) : Int)) else if c % 9223372036854775808 = 9218868437227405312 then Ieee.Datum.infinity (c / 9223372036854775808 % 2 == 1) else Ieee.Datum.nan (c / 9223372036854775808 % 2 == 1) (c % 9223372036854775808 - 9218868437227405312)) = _ by rw [e, key c hc])
  generalize b % 9223372036854775808 = r at h h2
  split at h
  · rename_i h1
    cases h
    refine ⟨rfl, fun c hc e => ?_⟩
    rw [e, key c hc, if_pos h1]
  · rename_i h1
    split at h
    · rename_i h3
      cases h
      refine ⟨rfl, fun c hc e => ?_⟩
      rw [e, key c hc, if_neg h1, if_pos h3]
    · split at h <;> cases h
def qabs (x : Q) : Q := if x < 0 then -x else x
theorem qabs_nn (x : Q) : 0 ≤ qabs x := by unfold qabs; split <;> grind
theorem qabs_of (x : Q) (h : 0 ≤ x) : qabs x = x := by unfold qabs; rw [if_neg (by grind)]
theorem qabs_nv (s : Bool) (m : Nat) (p : Int) : qabs (nv s m p) = nv false m p := by
  have h := mag_nonneg m p
  rw [nv_mag, nv_mag]
  generalize (m : Q) * (2 : Q) ^ p = X at h
  have e0 : sgr false = 1 := rfl
  rw [e0]
  unfold qabs
  rcases sgr_cases s with e | e <;> rw [e] <;> split <;> grind
theorem Fv.abs {b : Nat} {x : Q} (h : Fv b x) : Fv (fabs b) (qabs x) := by
  obtain ⟨hb, s, m, p, hr, rfl⟩ := h
  rw [fabs_eq hb, qabs_nv]
  refine ⟨by omega, false, m, p, ?_, rfl⟩
  have := (read_abs hb hr).2 (b % 9223372036854775808) (by omega) (Nat.mod_mod _ _)
  rw [this, decide_eq_false (by omega)]
theorem neg_lo {F : Nat} (h : F < 9223372036854775808) : Op.negFloat .f64 F = F + 9223372036854775808 := by
  show F ^^^ 2 ^ 63 = _
  have e := Nat.two_pow_add_eq_or_of_lt (i := 63) (show F < 2 ^ 63 from h) 1
  rw [Nat.mul_one] at e
  rw [show F + 9223372036854775808 = 2 ^ 63 + F by omega, e]
  refine Nat.eq_of_testBit_eq fun i => ?_
  rw [Nat.testBit_xor, Nat.testBit_or]
  by_cases hi : i = 63
  · subst hi
    rw [Nat.testBit_lt_two_pow (show F < 2 ^ 63 from h)]
    simp
  · rw [Nat.testBit_two_pow_of_ne (Ne.symm hi)]
    simp
theorem neg_hi {F : Nat} (h : F < 9223372036854775808) : Op.negFloat .f64 (F + 9223372036854775808) = F := by
  rw [← neg_lo h]
  show (F ^^^ 2 ^ 63) ^^^ 2 ^ 63 = F
  rw [Nat.xor_assoc, Nat.xor_self, Nat.xor_zero]
theorem Fv.neg {b : Nat} {x : Q} (h : Fv b x) : Fv (Op.negFloat .f64 b) (-x) := by
  obtain ⟨hb, s, m, p, hr, rfl⟩ := h
  obtain ⟨h1, h2⟩ := read_abs hb hr
  rcases Nat.lt_or_ge b 9223372036854775808 with h | h
  · rw [neg_lo h]
    refine ⟨by omega, _, m, p, h2 _ (by omega) (by omega), ?_⟩
    rw [h1, decide_eq_false (by omega), decide_eq_true (by omega)]
    exact (nv_opp false m p).symm
  · obtain ⟨F, rfl⟩ : ∃ F, b = F + 9223372036854775808 := ⟨b - 9223372036854775808, by omega⟩
    rw [neg_hi (by omega)]
    refine ⟨by omega, _, m, p, h2 _ (by omega) (by omega), ?_⟩
    rw [h1, decide_eq_true (by omega), decide_eq_false (by omega)]
    have := nv_opp true m p
    exact this.symm
theorem and63' (p : Nat) (hp : p < 18446744073709551616) : bits BinOp.and IntKind.u64 (p : Int) 9223372036854775808 = ((p / 9223372036854775808 * 9223372036854775808 : Nat) : Int) := by
  have h := u64_and_nat p 9223372036854775808 hp (by decide)
  have e : p &&& 9223372036854775808 = p / 9223372036854775808 * 9223372036854775808 := by
    have : p = p / 9223372036854775808 * 9223372036854775808 + p % 9223372036854775808 := by omega
    rcases Nat.lt_or_ge p 9223372036854775808 with k | k
    · rw [Nat.div_eq_of_lt k, Nat.zero_mul]
      refine Nat.eq_of_testBit_eq fun i => ?_
      rw [Nat.testBit_and, Nat.zero_testBit, show (9223372036854775808 : Nat) = 2 ^ 63 from rfl, Nat.testBit_two_pow]
      by_cases e : 63 = i
      · subst e; rw [Nat.testBit_lt_two_pow (show p < 2 ^ 63 from k)]; rfl
      · simp [e]
    · obtain ⟨F, rfl⟩ : ∃ F, p = F + 9223372036854775808 := ⟨p - 9223372036854775808, by omega⟩
      have hF : F < 2 ^ 63 := by omega
      rw [show (F + 9223372036854775808) / 9223372036854775808 = 1 by omega, Nat.one_mul]
      have e := Nat.two_pow_add_eq_or_of_lt (i := 63) hF 1
      rw [Nat.mul_one] at e
      rw [show F + 9223372036854775808 = 2 ^ 63 + F by omega, e, show (9223372036854775808 : Nat) = 2 ^ 63 from rfl]
      refine Nat.eq_of_testBit_eq fun i => ?_
      rw [Nat.testBit_and, Nat.testBit_or, Nat.testBit_two_pow]
      by_cases e : 63 = i <;> simp [e]
  rw [e] at h
  exact h
theorem or63 (f e : Nat) (hf : f < 9223372036854775808) (he : e < 2) : bits BinOp.or IntKind.u64 (f : Int) ((e * 9223372036854775808 : Nat) : Int) = ((e * 9223372036854775808 + f : Nat) : Int) := by
  have h := u64_or_nat f (e * 9223372036854775808) (by omega) (by omega)
  have k := Nat.two_pow_add_eq_or_of_lt (i := 63) (show f < 2 ^ 63 from hf) e
  rw [Nat.or_comm] at h
  rw [show (2 : Nat) ^ 63 = 9223372036854775808 from rfl, Nat.mul_comm] at k
  rw [← k] at h
  exact h
theorem fcopy_eq {a b : Nat} (ha : a < 18446744073709551616) (hb : b < 18446744073709551616) : fcopy a b = b / 9223372036854775808 * 9223372036854775808 + a % 9223372036854775808 := by
  unfold fcopy
  rw [andNot63 a ha, and63' b hb, or63 _ _ (by omega) (by omega)]
  omega
theorem Fv.copy {a b : Nat} {x y : Q} (ha : Fv a x) (hb : Fv b y) : ∃ s : Bool, Fv (fcopy a b) (sgr s * qabs x) ∧ (0 < y → s = false) ∧ (y < 0 → s = true) := by
  obtain ⟨hb1, t, n, q, hr2, rfl⟩ := hb
  obtain ⟨ha1, s, m, p, hr, rfl⟩ := ha
  obtain ⟨k1, -⟩ := read_abs hb1 hr2
  obtain ⟨-, k2⟩ := read_abs ha1 hr
  rw [fcopy_eq ha1 hb1]
  have hyp := mag_nonneg n q
  refine ⟨t, ⟨by omega, _, m, p, k2 _ (by omega) (by omega), ?_⟩, fun h => ?_, fun h => ?_⟩
  · rw [qabs_nv, k1]
    have e : decide (9223372036854775808 ≤ b / 9223372036854775808 * 9223372036854775808 + a % 9223372036854775808) = decide (9223372036854775808 ≤ b) := by
      by_cases h : 9223372036854775808 ≤ b
      · rw [decide_eq_true h, decide_eq_true (by omega)]
      · rw [decide_eq_false h, decide_eq_false (by omega)]
    rw [e, nv_mag, nv_mag]
    have e0 : sgr false = 1 := rfl
    rw [e0]
    grind
  · cases t
    · rfl
    · exfalso
      rw [nv_mag] at h
      have e0 : sgr true = -1 := rfl
      rw [e0] at h
      grind
  · cases t
    · exfalso
      rw [nv_mag] at h
      have e0 : sgr false = 1 := rfl
      rw [e0] at h
      grind
    · rfl
end
section
open Go.RowKit
set_option maxHeartbeats 4000000 in
theorem pfinite_any (a b : Nat) (w : World) : Calls Tryz.prog 25 #[.complex .f64 a b] w fun e w' => e = .returned (.bool (fle (fabs a) 9218868437227405311 && fle (fabs b) 9218868437227405311)) ∧ w = w' := by
  obtain ⟨x, hx⟩ : ∃ x, x = fle (fabs a) 9218868437227405311 := ⟨_, rfl⟩
  obtain ⟨y, hy⟩ : ∃ y, y = fle (fabs b) 9218868437227405311 := ⟨_, rfl⟩
  rw [← hx, ← hy]
  have HX := hid hx
  have HY := hid hy
  clear hx hy
  go_enter Tryz.func25, Tryz.ntmps25
  cases x <;> cases y
  all_goals
    go_wp2_with (go_at_call 59; (with_reducible refine Calls.mono (finite_any _ _) ?_); first | (rw [← HX.out]; rintro e wc ⟨rfl, rfl⟩) | (rw [← HY.out]; rintro e wc ⟨rfl, rfl⟩))
    go_ret
    exact ⟨rfl, rfl⟩
set_option maxHeartbeats 4000000 in
theorem pwithin_any (a b m : Nat) (w : World) : Calls Tryz.prog 47 #[.complex .f64 a b, .float .f64 m] w fun e w' => e = .returned (.bool (fle (fabs a) m && fle (fabs b) m)) ∧ w = w' := by
  obtain ⟨x, hx⟩ : ∃ x, x = fle (fabs a) m := ⟨_, rfl⟩
  obtain ⟨y, hy⟩ : ∃ y, y = fle (fabs b) m := ⟨_, rfl⟩
  rw [← hx, ← hy]
  have HX := hid hx
  have HY := hid hy
  clear hx hy
  go_enter Tryz.func47, Tryz.ntmps47
  cases x <;> cases y
  all_goals
    go_wp2_with (go_at_call 93; (with_reducible refine Calls.mono (within_any _ _ _) ?_); first | (rw [← HX.out]; rintro e wc ⟨rfl, rfl⟩) | (rw [← HY.out]; rintro e wc ⟨rfl, rfl⟩))
    go_ret
    exact ⟨rfl, rfl⟩
def okP (z : Nat × Nat) : Bool := fle (fabs z.1) 4787326403894837248 && fle (fabs z.2) 4787326403894837248
set_option maxHeartbeats 4000000 in
theorem place_any (a b : Nat) (w : World) : Calls Tryz.prog 14 #[.complex .f64 a b] w fun e w' => e = .returned (.bool (okP (a, b))) ∧ w = w' := by
  go_enter Tryz.func14, Tryz.ntmps14
  go_wp2_with ((go_at_call 47; (with_reducible refine Calls.mono (pwithin_any _ _ _ _) ?_); rintro e wc ⟨rfl, rfl⟩))
  go_ret
  exact ⟨rfl, rfl⟩
set_option maxHeartbeats 4000000 in
theorem zplace_any (a b : Nat) (w : World) : Calls Tryz.prog 32 #[.complex .f64 a b] w fun e w' => e = .returned (.bool (okP (a, b))) ∧ w = w' := by
  go_enter Tryz.func32, Tryz.ntmps32
  go_wp2_with ((go_at_call 47; (with_reducible refine Calls.mono (pwithin_any _ _ _ _) ?_); rintro e wc ⟨rfl, rfl⟩))
  go_ret
  exact ⟨rfl, rfl⟩
def csub (a b c d : Nat) : Option (Nat × Nat) := (fsub a c).bind fun x => (fsub b d).bind fun y => some (x, y)
set_option maxHeartbeats 4000000 in
theorem csub_any (a b c d : Nat) (w : World) {r : Nat × Nat} (h : csub a b c d = some r) : Calls Tryz.prog 15 #[.complex .f64 a b, .complex .f64 c d] w fun e w' => e = .returned (.complex .f64 r.1 r.2) ∧ w = w' := by
  obtain ⟨x, e0, h⟩ := bind_some h
  obtain ⟨y, e1, h⟩ := bind_some h
  obtain rfl := (Option.some.inj h).symm
  have k0 := run_fsub e0
  have k1 := run_fsub e1
  clear e0 e1 h
  go_enter Tryz.func15, Tryz.ntmps15
  go_wp2_with fail
  go_ret
  exact ⟨rfl, rfl⟩
def cadd (a b c d : Nat) : Option (Nat × Nat) := (fadd a c).bind fun x => (fadd b d).bind fun y => some (x, y)
set_option maxHeartbeats 4000000 in
theorem cadd_any (a b c d : Nat) (w : World) {r : Nat × Nat} (h : cadd a b c d = some r) : Calls Tryz.prog 22 #[.complex .f64 a b, .complex .f64 c d] w fun e w' => e = .returned (.complex .f64 r.1 r.2) ∧ w = w' := by
  obtain ⟨x, e0, h⟩ := bind_some h
  obtain ⟨y, e1, h⟩ := bind_some h
  obtain rfl := (Option.some.inj h).symm
  have k0 := run_fadd e0
  have k1 := run_fadd e1
  clear e0 e1 h
  go_enter Tryz.func22, Tryz.ntmps22
  go_wp2_with fail
  go_ret
  exact ⟨rfl, rfl⟩
def cscale (a b s : Nat) : Option (Nat × Nat) := (fmul a s).bind fun x => (fmul b s).bind fun y => some (x, y)
set_option maxHeartbeats 4000000 in
theorem cscale_any (a b s : Nat) (w : World) {r : Nat × Nat} (h : cscale a b s = some r) : Calls Tryz.prog 20 #[.complex .f64 a b, .float .f64 s] w fun e w' => e = .returned (.complex .f64 r.1 r.2) ∧ w = w' := by
  obtain ⟨x, e0, h⟩ := bind_some h
  obtain ⟨y, e1, h⟩ := bind_some h
  obtain rfl := (Option.some.inj h).symm
  have k0 := run_fmul e0
  have k1 := run_fmul e1
  clear e0 e1 h
  go_enter Tryz.func20, Tryz.ntmps20
  go_wp2_with fail
  go_ret
  exact ⟨rfl, rfl⟩
def cmul (a b c d : Nat) : Option (Nat × Nat) := (fmul a c).bind fun p => (fmul b d).bind fun q => (fsub p q).bind fun x => (fmul a d).bind fun u => (fmul b c).bind fun v => (fadd u v).bind fun y => some (x, y)
set_option maxHeartbeats 4000000 in
theorem cmul_any (a b c d : Nat) (w : World) {r : Nat × Nat} (h : cmul a b c d = some r) : Calls Tryz.prog 16 #[.complex .f64 a b, .complex .f64 c d] w fun e w' => e = .returned (.complex .f64 r.1 r.2) ∧ w = w' := by
  obtain ⟨p, e0, h⟩ := bind_some h
  obtain ⟨q, e1, h⟩ := bind_some h
  obtain ⟨x, e2, h⟩ := bind_some h
  obtain ⟨u, e3, h⟩ := bind_some h
  obtain ⟨v, e4, h⟩ := bind_some h
  obtain ⟨y, e5, h⟩ := bind_some h
  obtain rfl := (Option.some.inj h).symm
  have k0 := run_fmul e0
  have k1 := run_fmul e1
  have k2 := run_fsub e2
  have k3 := run_fmul e3
  have k4 := run_fmul e4
  have k5 := run_fadd e5
  clear e0 e1 e2 e3 e4 e5 h
  go_enter Tryz.func16, Tryz.ntmps16
  go_wp2_with fail
  go_ret
  exact ⟨rfl, rfl⟩
set_option maxHeartbeats 4000000 in
theorem cneg_any (a b : Nat) (w : World) : Calls Tryz.prog 17 #[.complex .f64 a b] w fun e w' => e = .returned (.complex .f64 (Op.negFloat .f64 a) (Op.negFloat .f64 b)) ∧ w = w' := by
  have h4 := run_neg
  go_enter Tryz.func17, Tryz.ntmps17
  go_wp2_with (fail)
  go_ret
  exact ⟨rfl, rfl⟩
def cdivA (a b c d : Nat) : Option (Nat × Nat) := (fdiv d c).bind fun k => (fmul d k).bind fun m => (fadd c m).bind fun t => (fmul b k).bind fun q1 => (fadd a q1).bind fun x1 => (fdiv x1 t).bind fun x => (fmul a k).bind fun q2 => (fsub b q2).bind fun y1 => (fdiv y1 t).bind fun y => some (x, y)
def cdivB (a b c d : Nat) : Option (Nat × Nat) := (fdiv c d).bind fun k => (fmul c k).bind fun m => (fadd m d).bind fun t => (fmul a k).bind fun q1 => (fadd q1 b).bind fun x1 => (fdiv x1 t).bind fun x => (fmul b k).bind fun q2 => (fsub q2 a).bind fun y1 => (fdiv y1 t).bind fun y => some (x, y)
def cdiv (a b c d : Nat) : Option (Nat × Nat) := if fge (fabs c) (fabs d) = true then cdivA a b c d else cdivB a b c d
set_option maxHeartbeats 4000000 in
theorem cdiv_any (a b c d : Nat) (w : World) {r : Nat × Nat} (h : cdiv a b c d = some r) : Calls Tryz.prog 24 #[.complex .f64 a b, .complex .f64 c d] w fun e w' => e = .returned (.complex .f64 r.1 r.2) ∧ w = w' := by
  unfold cdiv at h
  by_cases hg : fge (fabs c) (fabs d) = true
  · rw [if_pos hg] at h
    unfold fge at hg
    obtain ⟨k, e0, h⟩ := bind_some h
    obtain ⟨m, e1, h⟩ := bind_some h
    obtain ⟨t, e2, h⟩ := bind_some h
    obtain ⟨q1, e3, h⟩ := bind_some h
    obtain ⟨x1, e4, h⟩ := bind_some h
    obtain ⟨x, e5, h⟩ := bind_some h
    obtain ⟨q2, e6, h⟩ := bind_some h
    obtain ⟨y1, e7, h⟩ := bind_some h
    obtain ⟨y, e8, h⟩ := bind_some h
    obtain rfl := (Option.some.inj h).symm
    have k0 := run_fdiv e0
    have k1 := run_fmul e1
    have k2 := run_fadd e2
    have k3 := run_fmul e3
    have k4 := run_fadd e4
    have k5 := run_fdiv e5
    have k6 := run_fmul e6
    have k7 := run_fsub e7
    have k8 := run_fdiv e8
    clear e0 e1 e2 e3 e4 e5 e6 e7 e8 h
    go_enter Tryz.func24, Tryz.ntmps24
    go_wp2_with (go_at_call 55; (with_reducible refine Calls.mono (abs_any _ _) ?_); rintro e wc ⟨rfl, rfl⟩)
    go_ret
    exact ⟨rfl, rfl⟩
  · rw [if_neg hg] at h
    unfold fge at hg
    rw [Bool.not_eq_true] at hg
    obtain ⟨k, e0, h⟩ := bind_some h
    obtain ⟨m, e1, h⟩ := bind_some h
    obtain ⟨t, e2, h⟩ := bind_some h
    obtain ⟨q1, e3, h⟩ := bind_some h
    obtain ⟨x1, e4, h⟩ := bind_some h
    obtain ⟨x, e5, h⟩ := bind_some h
    obtain ⟨q2, e6, h⟩ := bind_some h
    obtain ⟨y1, e7, h⟩ := bind_some h
    obtain ⟨y, e8, h⟩ := bind_some h
    obtain rfl := (Option.some.inj h).symm
    have k0 := run_fdiv e0
    have k1 := run_fmul e1
    have k2 := run_fadd e2
    have k3 := run_fmul e3
    have k4 := run_fadd e4
    have k5 := run_fdiv e5
    have k6 := run_fmul e6
    have k7 := run_fsub e7
    have k8 := run_fdiv e8
    clear e0 e1 e2 e3 e4 e5 e6 e7 e8 h
    go_enter Tryz.func24, Tryz.ntmps24
    go_wp2_with (go_at_call 55; (with_reducible refine Calls.mono (abs_any _ _) ?_); rintro e wc ⟨rfl, rfl⟩)
    go_ret
    exact ⟨rfl, rfl⟩
def nought (z : Nat × Nat) : Bool := feq z.1 0 && feq z.2 0
set_option maxHeartbeats 4000000 in
theorem znought_any (a b : Nat) (w : World) : Calls Tryz.prog 23 #[.complex .f64 a b] w fun e w' => e = .returned (.bool (nought (a, b))) ∧ w = w' := by
  unfold nought feq
  obtain ⟨x, hx⟩ : ∃ x, (FloatKind.f64.format.order a 0 == some Ordering.eq) = x := ⟨_, rfl⟩
  obtain ⟨y, hy⟩ : ∃ y, (FloatKind.f64.format.order b 0 == some Ordering.eq) = y := ⟨_, rfl⟩
  show Calls Tryz.prog 23 #[.complex .f64 a b] w fun e w' => e = .returned (.bool ((FloatKind.f64.format.order a 0 == some Ordering.eq) && (FloatKind.f64.format.order b 0 == some Ordering.eq))) ∧ w = w'
  rw [hx, hy]
  cases x <;> cases y
  all_goals
    go_enter Tryz.func23, Tryz.ntmps23
    go_wp2_with fail
    go_ret
    exact ⟨rfl, rfl⟩
set_option maxHeartbeats 4000000 in
theorem pnought_any (a b : Nat) (w : World) : Calls Tryz.prog 48 #[.complex .f64 a b] w fun e w' => e = .returned (.bool (nought (a, b))) ∧ w = w' := by
  unfold nought feq
  obtain ⟨x, hx⟩ : ∃ x, (FloatKind.f64.format.order a 0 == some Ordering.eq) = x := ⟨_, rfl⟩
  obtain ⟨y, hy⟩ : ∃ y, (FloatKind.f64.format.order b 0 == some Ordering.eq) = y := ⟨_, rfl⟩
  show Calls Tryz.prog 48 #[.complex .f64 a b] w fun e w' => e = .returned (.bool ((FloatKind.f64.format.order a 0 == some Ordering.eq) && (FloatKind.f64.format.order b 0 == some Ordering.eq))) ∧ w = w'
  rw [hx, hy]
  cases x <;> cases y
  all_goals
    go_enter Tryz.func48, Tryz.ntmps48
    go_wp2_with fail
    go_ret
    exact ⟨rfl, rfl⟩
end
end Go.Proofs.YtcoillcppmibgaaGreatDoor
