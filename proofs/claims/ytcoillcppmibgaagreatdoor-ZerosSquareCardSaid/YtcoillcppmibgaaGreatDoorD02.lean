/- Normal numbers: their parts and Frexp, Ldexp. Frexp, Ldexp. Lengths; numbers near to each other. Square roots of complex numbers. Polynomials that may be; orders. The zeros of a polynomial of the degree 2. -/
import Derived.Test.YtcoillcppmibgaaGreatDoorD01
import Derived.Deep.QuietTactic
set_option linter.unusedSimpArgs false
set_option linter.unusedVariables false
namespace Go.Proofs.YtcoillcppmibgaaGreatDoor
section
open Go.RowKit
theorem log2_of {n L : Nat} (h1 : 2 ^ L ≤ n) (h2 : n < 2 ^ (L + 1)) : n.log2 = L := by
  have h0 : n ≠ 0 := by have := Nat.pow_pos (n := L) (show 0 < 2 by decide); omega
  have a := (Nat.le_log2 h0).2 h1
  have b := (Nat.log2_lt h0).2 h2
  omega
theorem cut_exact (neg : Bool) (n s : Nat) (hn : 0 < n) : Ieee.Toward.even.cut neg (n * 2 ^ s) s = n := by
  unfold Ieee.Toward.cut
  have hl : s ≤ (n * 2 ^ s).log2 := by
    refine (Nat.le_log2 (Nat.mul_ne_zero (by omega) (Nat.pos_iff_ne_zero.1 (Nat.pow_pos (by decide))))).2 ?_
    exact Nat.le_mul_of_pos_left _ hn
  rw [Nat.min_eq_left (by omega), Nat.one_shiftLeft]
  have hp : 0 < 2 ^ s := Nat.pow_pos (by decide)
  dsimp only
  rw [Nat.mul_div_cancel _ hp, Nat.mul_mod_left]
  simp
theorem near_down (neg : Bool) (n s : Nat) (p : Int) (hn : 0 < n) (h : max (p + ((n * 2 ^ s).log2 : Nat) - 52) (-1074) = p + (s : Int)) :
    Ieee.double.nearest neg (n * 2 ^ s) p = Ieee.double.word neg (min ((p + s + 1074).toNat * 4503599627370496 + n) 9218868437227405312) := by
  unfold Ieee.Format.nearest
  rw [if_neg (Nat.mul_ne_zero (by omega) (Nat.pos_iff_ne_zero.1 (Nat.pow_pos (by decide))))]
  simp only [D_least, D_bin, D_inf, D_fb]
  rw [show ((52 : Nat) : Int) = 52 from rfl, h, show (p - (p + (s : Int))).toNat = 0 by omega, Nat.shiftLeft_zero, show (p + (s : Int) - p).toNat = s by omega, cut_exact neg n s hn, show p + (s : Int) - -1074 = p + s + 1074 by omega]
/-- A normal number: sign, exponent, fraction. -/
def nrm (S E f : Nat) : Nat := S * 9223372036854775808 + E * 4503599627370496 + f
theorem read_nrm {S E f : Nat} (hS : S < 2) (hE : 1 ≤ E) (hE2 : E ≤ 2046) (hf : f < 4503599627370496) : Ieee.double.read (nrm S E f) = .number (S == 1) (4503599627370496 + f) (-1075 + (E : Int)) := by
  unfold Ieee.Format.read nrm
  simp only [D_sw, D_bin, D_inf, D_least]
  rw [show (S * 9223372036854775808 + E * 4503599627370496 + f) % 9223372036854775808 = E * 4503599627370496 + f by omega, if_neg (by omega), if_pos (by omega), show (S * 9223372036854775808 + E * 4503599627370496 + f) / 9223372036854775808 % 2 = S by omega]
  rw [show 4503599627370496 + (E * 4503599627370496 + f) % 4503599627370496 = 4503599627370496 + f by omega, show -1074 + (((E * 4503599627370496 + f) / 4503599627370496 - 1 : Nat) : Int) = -1075 + (E : Int) by omega]
theorem nrm_v {S E f : Nat} (hS : S < 2) (hE : 1 ≤ E) (hE2 : E ≤ 2046) (hf : f < 4503599627370496) : Fv (nrm S E f) (nv (S == 1) (4503599627370496 + f) (-1075 + (E : Int))) :=
  ⟨by unfold nrm; omega, _, _, _, read_nrm hS hE hE2 hf, rfl⟩
theorem one_nrm {S E f : Nat} (hS : S < 2) (hE : 1 ≤ E) (hE2 : E ≤ 2046) (hf : f < 4503599627370496) : fmul 4607182418800017408 (nrm S E f) = some (nrm S E f) := by
  have r1 : Ieee.double.read 4607182418800017408 = .number false (2 ^ 52) (-52) := by decide +kernel
  rw [fmul_eq, r1, read_nrm hS hE hE2 hf]
  show some (Ieee.double.nearest (false ^^ (S == 1)) (2 ^ 52 * (4503599627370496 + f)) (-52 + (-1075 + (E : Int)))) = _
  rw [Nat.mul_comm]
  have hl : ((4503599627370496 + f) * 2 ^ 52).log2 = 104 := log2_of (by omega) (by omega)
  rw [near_down _ _ _ _ (by omega) (by rw [hl]; omega)]
  rw [Nat.min_eq_left (by omega)]
  unfold nrm Ieee.Format.word
  simp only [D_sw]
  congr 1
  rw [show (-52 + (-1075 + (E : Int)) + ((52 : Nat) : Int) + 1074).toNat = E - 1 by omega]
  rcases (show S = 0 ∨ S = 1 by omega) with rfl | rfl
  · simp; omega
  · simp; omega
theorem nat_and63 {p : Nat} (hp : p < 18446744073709551616) : p &&& 9223372036854775808 = p / 9223372036854775808 * 9223372036854775808 := by
  have h := and63' p hp
  have h2 := u64_and_nat p 9223372036854775808 hp (by decide)
  have h3 := h2.symm.trans h
  omega
theorem nat_or {S E f : Nat} (hS : S < 2) (hE : E < 2048) (hf : f < 4503599627370496) : (S * 9223372036854775808 + f) ||| (E * 4503599627370496) = nrm S E f := by
  have k1 := Nat.two_pow_add_eq_or_of_lt (i := 63) (show f < 2 ^ 63 by omega) S
  have k2 := Nat.two_pow_add_eq_or_of_lt (i := 52) (show f < 2 ^ 52 from hf) E
  have k3 := Nat.two_pow_add_eq_or_of_lt (i := 63) (show 2 ^ 52 * E + f < 2 ^ 63 by omega) S
  rw [show S * 9223372036854775808 + f = 2 ^ 63 * S + f by omega, k1, Nat.or_assoc, Nat.or_comm f, show E * 4503599627370496 = 2 ^ 52 * E by omega, ← k2, ← k3]
  unfold nrm
  omega
theorem andNotE (S E f : Nat) (hS : S < 2) (hE : E < 2048) (hf : f < 4503599627370496) : bits BinOp.andNot IntKind.u64 ((nrm S E f : Nat) : Int) 9218868437227405312 = ((S * 9223372036854775808 + f : Nat) : Int) := by
  have hp : nrm S E f < 18446744073709551616 := by unfold nrm; omega
  have h := u64_andNot_nat (nrm S E f) 9218868437227405312 hp (by decide)
  rw [show 18446744073709551615 - 9218868437227405312 = 9223372036854775808 ||| (2 ^ 52 - 1) by decide, Nat.and_or_distrib_left, nat_and63 hp, Nat.and_two_pow_sub_one_eq_mod] at h
  have e1 : nrm S E f / 9223372036854775808 = S := by unfold nrm; omega
  have e2 : nrm S E f % 2 ^ 52 = f := by unfold nrm; omega
  rw [e1, e2] at h
  have k1 := Nat.two_pow_add_eq_or_of_lt (i := 63) (show f < 2 ^ 63 by omega) S
  rw [show S * 9223372036854775808 = 2 ^ 63 * S by omega, ← k1] at h
  rw [show S * 9223372036854775808 + f = 2 ^ 63 * S + f by omega]
  exact h
theorem orE (S E f : Nat) (hS : S < 2) (hE : E < 2048) (hf : f < 4503599627370496) : bits BinOp.or IntKind.u64 ((S * 9223372036854775808 + f : Nat) : Int) ((E * 4503599627370496 : Nat) : Int) = ((nrm S E f : Nat) : Int) := by
  have h := u64_or_nat (S * 9223372036854775808 + f) (E * 4503599627370496) (by omega) (by omega)
  rw [nat_or hS hE hf] at h
  exact h
theorem u64_2047 (a : Nat) (h : a < 4096) : bits BinOp.and IntKind.u64 (a : Int) 2047 = ((a % 2048 : Nat) : Int) := by
  have h := u64_and_nat a 2047 (by omega) (by decide)
  rw [show (2047 : Nat) = 2 ^ 11 - 1 by decide, Nat.and_two_pow_sub_one_eq_mod] at h
  exact h
theorem i64_2047 (a : Nat) (h : a < 4096) : bits BinOp.and IntKind.i64 (a : Int) 2047 = ((a % 2048 : Nat) : Int) := by
  show IntKind.i64.wrap ((BitVec.ofInt 64 (a : Int) &&& BitVec.ofInt 64 ((2047 : Nat) : Int)).toNat : Int) = _
  rw [BitVec.toNat_and, ofInt_u64 a (by omega), ofInt_u64 2047 (by decide), show (2047 : Nat) = 2 ^ 11 - 1 by decide, Nat.and_two_pow_sub_one_eq_mod, IntKind.wrap_i64]
  omega
theorem Fv_c (c : Nat) (m : Nat) (p : Int) (hc : c < 18446744073709551616) (h : Ieee.double.read c = .number false m p) : Fv c ((m : Q) * (2 : Q) ^ p) := ⟨hc, false, m, p, h, by unfold nv sgr; simp only [Bool.false_eq_true, if_false]; grind⟩
theorem Fv_0 : Fv 0 0 := ⟨by decide, false, 0, -1074, by decide +kernel, (nv_0 _ _).symm⟩
theorem nrm_mag {E f : Nat} (hE : 1 ≤ E) (hE2 : E ≤ 2046) (hf : f < 4503599627370496) : (2 : Q) ^ (-1022 : Int) ≤ nv false (4503599627370496 + f) (-1075 + (E : Int)) ∧ nv false (4503599627370496 + f) (-1075 + (E : Int)) ≤ ((9007199254740991 : Nat) : Q) * (2 : Q) ^ (971 : Int) := by
  have e0 : nv false (4503599627370496 + f) (-1075 + (E : Int)) = ((4503599627370496 + f : Nat) : Q) * (2 : Q) ^ (-1075 + (E : Int)) := by
    rw [nv_mag]
    unfold sgr
    simp only [Bool.false_eq_true, if_false]
    grind
  rw [e0]
  constructor
  · have a1 : ((4503599627370496 : Nat) : Q) ≤ ((4503599627370496 + f : Nat) : Q) := Rat.natCast_le_natCast.2 (by omega)
    have a2 := Rat.mul_le_mul_of_nonneg_right a1 (Rat.le_of_lt (two_pos (-1075 + (E : Int))))
    refine Rat.le_trans ?_ a2
    rw [show (4503599627370496 : Nat) = 2 ^ 52 from rfl, ← zp_nat, ← zp_add]
    rcases Int.lt_or_eq_of_le (show (-1022 : Int) ≤ ((52 : Nat) : Int) + (-1075 + (E : Int)) by omega) with h | h
    · exact Rat.le_of_lt (zp_lt h)
    · rw [h]; exact Rat.le_refl
  · have a1 : ((4503599627370496 + f : Nat) : Q) ≤ ((9007199254740991 : Nat) : Q) := Rat.natCast_le_natCast.2 (by omega)
    have a2 := Rat.mul_le_mul_of_nonneg_right a1 (Rat.le_of_lt (two_pos (-1075 + (E : Int))))
    refine Rat.le_trans a2 ?_
    refine Rat.mul_le_mul_of_nonneg_left ?_ Rat.natCast_nonneg
    rcases Int.lt_or_eq_of_le (show -1075 + (E : Int) ≤ 971 by omega) with h | h
    · exact Rat.le_of_lt (zp_lt h)
    · rw [h]; exact Rat.le_refl
/-- What the tests ask of a normal number. -/
theorem nrm_tests {S E f : Nat} (hS : S < 2) (hE : 1 ≤ E) (hE2 : E ≤ 2046) (hf : f < 4503599627370496) :
    feq (nrm S E f) 0 = false ∧ fgt (fabs (nrm S E f)) 9218868437227405311 = false ∧ feq (nrm S E f) (nrm S E f) = true ∧ flt (fabs (nrm S E f)) 4503599627370496 = false := by
  have v := nrm_v hS hE hE2 hf
  obtain ⟨m1, m2⟩ := nrm_mag hE hE2 hf
  have va := v.abs
  rw [qabs_nv] at va
  have p := two_pos (-1022)
  have c1 := Fv_c 9218868437227405311 9007199254740991 971 (by decide) (by decide +kernel)
  have c2 := Fv_c 4503599627370496 4503599627370496 (-1074) (by decide) (by decide +kernel)
  have e2 : ((4503599627370496 : Nat) : Q) * (2 : Q) ^ (-1074 : Int) = (2 : Q) ^ (-1022 : Int) := by
    rw [show (4503599627370496 : Nat) = 2 ^ 52 from rfl, ← zp_nat, ← zp_add]
    rfl
  rw [e2] at c2
  refine ⟨?_, ?_, ?_, ?_⟩
  · rw [v.feq Fv_0]
    refine decide_eq_false (fun h => ?_)
    have := qabs_nv (S == 1) (4503599627370496 + f) (-1075 + (E : Int))
    rw [h] at this
    have z : qabs 0 = 0 := by decide
    rw [z] at this
    grind
  · rw [va.fgt c1]
    exact decide_eq_false (by grind)
  · rw [v.feq v]
    exact decide_eq_true rfl
  · rw [va.flt c2]
    exact decide_eq_false (by grind)
theorem zero_v {x : Nat} (hx : x < 18446744073709551616) (h : x % 9223372036854775808 = 0) : Fv x 0 := by
  have h0 : Ieee.double.read 0 = .number false 0 (-1074) := by decide +kernel
  exact ⟨hx, _, 0, _, (read_abs (by decide) h0).2 x hx (by rw [h]), (nv_0 _ _).symm⟩
theorem zero_test {x : Nat} (hx : x < 18446744073709551616) (h : x % 9223372036854775808 = 0) : feq x 0 = true := by
  rw [(zero_v hx h).feq Fv_0]
  exact decide_eq_true rfl
def sgnP (x : Nat) : Nat := x / 9223372036854775808
def expP (x : Nat) : Nat := x / 4503599627370496 % 2048
def fraP (x : Nat) : Nat := x % 4503599627370496
/-- Frexp, of noughts and normal numbers. -/
def frx (x : Nat) : Option (Nat × Int) :=
  if x < 18446744073709551616 ∧ x % 9223372036854775808 = 0 then some (x, 0)
  else if x < 18446744073709551616 ∧ 1 ≤ expP x ∧ expP x ≤ 2046 then some (nrm (sgnP x) 1022 (fraP x), (expP x : Int) - 1022) else none
/-- Ldexp, of noughts and where all is normal. -/
def ldx (x : Nat) (n : Int) : Option Nat :=
  if x < 18446744073709551616 ∧ x % 9223372036854775808 = 0 ∧ -5000 < n ∧ n < 5000 then some x
  else if x < 18446744073709551616 ∧ 1 ≤ expP x ∧ expP x ≤ 2046 ∧ -5000 < n ∧ n < 5000 ∧ 1 ≤ (expP x : Int) + n ∧ (expP x : Int) + n ≤ 2046 then some (nrm (sgnP x) ((expP x : Int) + n).toNat (fraP x)) else none
theorem nrm_of {x : Nat} (hx : x < 18446744073709551616) : x = nrm (sgnP x) (expP x) (fraP x) ∧ sgnP x < 2 ∧ expP x < 2048 ∧ fraP x < 4503599627370496 := by
  unfold nrm sgnP expP fraP
  omega
end
section
open Go.RowKit
set_option maxHeartbeats 4000000 in
theorem norm_nrm {S E f : Nat} (hS : S < 2) (hE : 1 ≤ E) (hE2 : E ≤ 2046) (hf : f < 4503599627370496) (w : World) : Calls Tryz.prog 128 #[.float .f64 (nrm S E f)] w fun e w' => e = .returned (.tuple #[.float .f64 (nrm S E f), .int .i64 0]) ∧ w = w' := by
  obtain ⟨-, -, -, t4⟩ := nrm_tests hS hE hE2 hf
  unfold flt at t4
  generalize nrm S E f = X at *
  clear hS hE hE2 hf
  go_enter Tryz.func128, Tryz.ntmps128
  go_wp2_with (go_at_call 55; (with_reducible refine Calls.mono (abs_any _ _) ?_); rintro e wc ⟨rfl, rfl⟩)
  go_ret2
  exact ⟨rfl, rfl⟩
set_option maxHeartbeats 8000000 in
set_option maxRecDepth 100000 in
theorem frexp_nrm {S E f : Nat} (hS : S < 2) (hE : 1 ≤ E) (hE2 : E ≤ 2046) (hf : f < 4503599627370496) (w : World) : Calls Tryz.prog 106 #[.float .f64 (nrm S E f)] w fun e w' => e = .returned (.tuple #[.float .f64 (nrm S 1022 f), .int .i64 ((E : Int) - 1022)]) ∧ w = w' := by
  have h1 := f64bits_run
  have h2 := f64from_run
  obtain ⟨t1, t2, t3, -⟩ := nrm_tests hS hE hE2 hf
  have nn := fun w => norm_nrm hS hE hE2 hf w
  have a1 := andNotE S E f hS (by omega) hf
  have o1 := orE S 1022 f hS (by decide) hf
  have d1 : ((nrm S E f : Nat) : Int) / 4503599627370496 = ((S * 2048 + E : Nat) : Int) := by unfold nrm; omega
  have b1 := u64_2047 (S * 2048 + E) (by omega)
  rw [show (S * 2048 + E) % 2048 = E by omega] at b1
  rw [show ((1022 * 4503599627370496 : Nat) : Int) = 4602678819172646912 from rfl] at o1
  obtain ⟨Y, hY⟩ : ∃ Y, Y = nrm S 1022 f := ⟨_, rfl⟩
  rw [← hY] at o1 ⊢
  generalize nrm S E f = X at *
  generalize S * 2048 + E = Z at *
  generalize S * 9223372036854775808 + f = W at *
  unfold feq at t1
  clear hS hf hY
  go_enter Tryz.func106, Tryz.ntmps106
  go_wp2_with (first | (go_at_call 62; (with_reducible refine Calls.mono (isinf0_any _ _) ?_); rw [t2]; rintro e wc ⟨rfl, rfl⟩) | (go_at_call 64; (with_reducible refine Calls.mono (isnan_any _ _) ?_); rw [t3]; rintro e wc ⟨rfl, rfl⟩) | (go_at_call 128; (with_reducible refine Calls.mono (nn _) ?_); rintro e wc ⟨rfl, rfl⟩))
  go_ret2
  rw [show (E : Int) - 1023 + 1 = (E : Int) - 1022 by omega]
  exact ⟨rfl, rfl⟩
set_option maxHeartbeats 4000000 in
theorem frexp_0 {x : Nat} (h : feq x 0 = true) (w : World) : Calls Tryz.prog 106 #[.float .f64 x] w fun e w' => e = .returned (.tuple #[.float .f64 x, .int .i64 0]) ∧ w = w' := by
  unfold feq at h
  go_enter Tryz.func106, Tryz.ntmps106
  go_wp2_with fail
  go_ret2
  exact ⟨rfl, rfl⟩
theorem frexp_any (x : Nat) (w : World) {r : Nat × Int} (h : frx x = some r) : Calls Tryz.prog 106 #[.float .f64 x] w fun e w' => e = .returned (.tuple #[.float .f64 r.1, .int .i64 r.2]) ∧ w = w' := by
  unfold frx at h
  split at h
  · rename_i hx
    cases h
    exact frexp_0 (zero_test hx.1 hx.2) w
  · split at h
    · rename_i hx
      cases h
      obtain ⟨e1, e2, e3, e4⟩ := nrm_of hx.1
      have := frexp_nrm e2 hx.2.1 hx.2.2 e4 w
      rw [← e1] at this
      exact this
    · cases h
set_option maxHeartbeats 4000000 in
theorem Frexp_any (x : Nat) (w : World) {r : Nat × Int} (h : frx x = some r) : Calls Tryz.prog 77 #[.float .f64 x] w fun e w' => e = .returned (.tuple #[.float .f64 r.1, .int .i64 r.2]) ∧ w = w' := by
  have A := frexp_any x w h
  clear h
  go_enter Tryz.func77, Tryz.ntmps77
  go_wp2_with (go_at_call 106; (with_reducible refine Calls.mono A ?_); rintro e wc ⟨rfl, rfl⟩)
  go_ret2
  exact ⟨rfl, rfl⟩
set_option maxHeartbeats 4000000 in
theorem Parts_any (x : Nat) (w : World) {r : Nat × Int} (h : frx x = some r) : Calls Tryz.prog 52 #[.float .f64 x] w fun e w' => e = .returned (.tuple #[.float .f64 r.1, .int .i64 r.2]) ∧ w = w' := by
  have A := Frexp_any x w h
  clear h
  go_enter Tryz.func52, Tryz.ntmps52
  go_wp2_with (go_at_call 77; (with_reducible refine Calls.mono A ?_); rintro e wc ⟨rfl, rfl⟩)
  go_ret2
  exact ⟨rfl, rfl⟩
set_option maxHeartbeats 8000000 in
set_option maxRecDepth 100000 in
theorem ldexp_nrm {S E f : Nat} (hS : S < 2) (hE : 1 ≤ E) (hE2 : E ≤ 2046) (hf : f < 4503599627370496) {n : Int} (hn1 : -5000 < n) (hn2 : n < 5000) (hn3 : 1 ≤ (E : Int) + n) (hn4 : (E : Int) + n ≤ 2046) (w : World) : Calls Tryz.prog 108 #[.float .f64 (nrm S E f), .int .i64 n] w fun e w' => e = .returned (.float .f64 (nrm S ((E : Int) + n).toNat f)) ∧ w = w' := by
  have h1 := f64bits_run
  have h2 := f64from_run
  obtain ⟨t1, t2, t3, -⟩ := nrm_tests hS hE hE2 hf
  have nn := fun w => norm_nrm hS hE hE2 hf w
  have a1 := andNotE S E f hS (by omega) hf
  obtain ⟨E2, hE3⟩ : ∃ E2 : Nat, (E : Int) + n = (E2 : Int) := ⟨((E : Int) + n).toNat, by omega⟩
  have o1 := orE S E2 f hS (by omega) hf
  have m1 := run_fmul (one_nrm hS (show 1 ≤ E2 by omega) (by omega) hf)
  rw [hE3, Int.toNat_natCast]
  rw [Int.natCast_mul, show ((4503599627370496 : Nat) : Int) = 4503599627370496 from rfl] at o1
  have d1 : ((nrm S E f : Nat) : Int) / 4503599627370496 = ((S * 2048 + E : Nat) : Int) := by unfold nrm; omega
  have b1 := i64_2047 (S * 2048 + E) (by omega)
  rw [show (S * 2048 + E) % 2048 = E by omega] at b1
  have hZ : S * 2048 + E < 4096 := by omega
  generalize nrm S E2 f = Y at *
  generalize nrm S E f = X at *
  generalize S * 2048 + E = Z at *
  generalize S * 9223372036854775808 + f = W at *
  unfold feq at t1
  have g1 : ¬ (n + ((E : Int) - 1023) < -1075) := by omega
  have g2 : ¬ (1023 < n + ((E : Int) - 1023)) := by omega
  have g3 : ¬ (n + ((E : Int) - 1023) < -1022) := by omega
  have g4 : n + ((E : Int) - 1023) + 1023 = (E2 : Int) := by omega
  have g5 : E2 < 2048 := by omega
  clear hS hf
  go_enter Tryz.func108, Tryz.ntmps108
  go_wp2_with (first | (go_at_call 62; (with_reducible refine Calls.mono (isinf0_any _ _) ?_); rw [t2]; rintro e wc ⟨rfl, rfl⟩) | (go_at_call 64; (with_reducible refine Calls.mono (isnan_any _ _) ?_); rw [t3]; rintro e wc ⟨rfl, rfl⟩) | (go_at_call 128; (with_reducible refine Calls.mono (nn _) ?_); rintro e wc ⟨rfl, rfl⟩))
  go_ret
  exact ⟨rfl, rfl⟩
set_option maxHeartbeats 4000000 in
theorem ldexp_0 {x : Nat} (h : feq x 0 = true) {n : Int} (w : World) : Calls Tryz.prog 108 #[.float .f64 x, .int .i64 n] w fun e w' => e = .returned (.float .f64 x) ∧ w = w' := by
  unfold feq at h
  go_enter Tryz.func108, Tryz.ntmps108
  go_wp2_with fail
  go_ret
  exact ⟨rfl, rfl⟩
theorem ldx_n {x : Nat} {n : Int} {r : Nat} (h : ldx x n = some r) : -5000 < n ∧ n < 5000 := by
  unfold ldx at h
  split at h
  · rename_i hx; exact ⟨hx.2.2.1, hx.2.2.2⟩
  · split at h
    · rename_i hx; exact ⟨hx.2.2.2.1, hx.2.2.2.2.1⟩
    · cases h
theorem ldexp_any (x : Nat) (n : Int) (w : World) {r : Nat} (h : ldx x n = some r) : Calls Tryz.prog 108 #[.float .f64 x, .int .i64 n] w fun e w' => e = .returned (.float .f64 r) ∧ w = w' := by
  unfold ldx at h
  split at h
  · rename_i hx
    cases h
    exact ldexp_0 (zero_test hx.1 hx.2.1) w
  · split at h
    · rename_i hx
      cases h
      obtain ⟨e1, e2, e3, e4⟩ := nrm_of hx.1
      have := ldexp_nrm e2 hx.2.1 hx.2.2.1 e4 hx.2.2.2.1 hx.2.2.2.2.1 hx.2.2.2.2.2.1 hx.2.2.2.2.2.2 w
      rw [← e1] at this
      exact this
    · cases h
set_option maxHeartbeats 4000000 in
theorem Ldexp_any (x : Nat) (n : Int) (w : World) {r : Nat} (h : ldx x n = some r) : Calls Tryz.prog 78 #[.float .f64 x, .int .i64 n] w fun e w' => e = .returned (.float .f64 r) ∧ w = w' := by
  have A := ldexp_any x n w h
  clear h
  go_enter Tryz.func78, Tryz.ntmps78
  go_wp2_with (go_at_call 108; (with_reducible refine Calls.mono A ?_); rintro e wc ⟨rfl, rfl⟩)
  go_ret
  exact ⟨rfl, rfl⟩
set_option maxHeartbeats 4000000 in
theorem Scale_any (x : Nat) (n : Int) (w : World) {r : Nat} (h : ldx x n = some r) : Calls Tryz.prog 54 #[.float .f64 x, .int .i64 n] w fun e w' => e = .returned (.float .f64 r) ∧ w = w' := by
  have A := Ldexp_any x n w h
  obtain ⟨h1, h2⟩ := ldx_n h
  have h3 : ¬ (5000 ≤ n) := by omega
  have h4 : ¬ (n ≤ -5000) := by omega
  have h5 : ¬ (5000 < n) := by omega
  have h6 : ¬ (n < -5000) := by omega
  clear h
  go_enter Tryz.func54, Tryz.ntmps54
  go_wp2_with (go_at_call 78; (with_reducible refine Calls.mono A ?_); rintro e wc ⟨rfl, rfl⟩)
  go_ret
  exact ⟨rfl, rfl⟩
end
section
open Go.RowKit
theorem run_sqrt {x r : Nat} (h : fsqrt x = some r) (w : World) : (callFunc 96 #[Value.float .f64 x]).run Tryz.prog w = .ok (.value (.float .f64 r)) w := by
  have h2 := @run_callFunc_extern Tryz.prog 96 _ Extern.MathSqrt.sqrt Tryz.func96 (by kernel_rfl) (by kernel_rfl) (by kernel_rfl) (by kernel_rfl)
  rw [h2]
  have e : Extern.MathSqrt.sqrt #[Value.float .f64 x] = (match FloatKind.f64.format.sqrt x with | some r => pure (.float .f64 r) | none => do pure (.float .f64 (← choose (.nanBits .f64 x x)))) := rfl
  have h' : FloatKind.f64.format.sqrt x = some r := h
  rw [e, h']
  rfl
set_option maxHeartbeats 4000000 in
theorem Sqrt_any (x : Nat) {r : Nat} (h : fsqrt x = some r) (w : World) : Calls Tryz.prog 56 #[.float .f64 x] w fun e w' => e = .returned (.float .f64 r) ∧ w = w' := by
  have k := run_sqrt h
  clear h
  go_enter Tryz.func56, Tryz.ntmps56
  go_wp2_with (fail)
  go_ret
  exact ⟨rfl, rfl⟩
def cgreat (a b : Nat) : Nat := if fgt (fabs b) (fabs a) = true then fabs b else fabs a
set_option maxHeartbeats 4000000 in
theorem greatest_any (a b : Nat) (w : World) : Calls Tryz.prog 53 #[.complex .f64 a b] w fun e w' => e = .returned (.float .f64 (cgreat a b)) ∧ w = w' := by
  obtain ⟨x, hx⟩ : ∃ x, fgt (fabs b) (fabs a) = x := ⟨_, rfl⟩
  unfold cgreat
  rw [hx]
  unfold fgt at hx
  cases x
  all_goals
    go_enter Tryz.func53, Tryz.ntmps53
    go_wp2_with (go_at_call 55; (with_reducible refine Calls.mono (abs_any _ _) ?_); rintro e wc ⟨rfl, rfl⟩)
    go_ret
    exact ⟨rfl, rfl⟩
def csq (a b : Nat) : Option Nat := (fmul a a).bind fun p => (fmul b b).bind fun q => fadd p q
set_option maxHeartbeats 4000000 in
theorem csq_any (a b : Nat) (w : World) {r : Nat} (h : csq a b = some r) : Calls Tryz.prog 57 #[.complex .f64 a b] w fun e w' => e = .returned (.float .f64 r) ∧ w = w' := by
  obtain ⟨p, e0, h⟩ := bind_some h
  obtain ⟨q, e1, e2⟩ := bind_some h
  have k0 := run_fmul e0
  have k1 := run_fmul e1
  have k2 := run_fadd e2
  clear e0 e1 e2 h
  go_enter Tryz.func57, Tryz.ntmps57
  go_wp2_with fail
  go_ret
  exact ⟨rfl, rfl⟩
def cscaled (a b : Nat) : Option ((Nat × Nat) × Int) := (frx (cgreat a b)).bind fun f => (ldx a (-f.2)).bind fun x => (ldx b (-f.2)).bind fun y => some ((x, y), f.2)
set_option maxHeartbeats 4000000 in
theorem cscaled_any (a b : Nat) (w : World) {r : (Nat × Nat) × Int} (h : cscaled a b = some r) : Calls Tryz.prog 66 #[.complex .f64 a b] w fun e w' => e = .returned (.tuple #[.complex .f64 r.1.1 r.1.2, .int .i64 r.2]) ∧ w = w' := by
  obtain ⟨f, e0, h⟩ := bind_some h
  obtain ⟨x, e1, h⟩ := bind_some h
  obtain ⟨y, e2, h⟩ := bind_some h
  obtain rfl := (Option.some.inj h).symm
  have k0 := fun w => Parts_any _ w e0
  have k1 := fun w => Scale_any _ _ w e1
  have k2 := fun w => Scale_any _ _ w e2
  obtain ⟨b1, b2⟩ := ldx_n e1
  clear e0 e1 e2 h
  obtain ⟨f1, f2⟩ := f
  simp only at *
  go_enter Tryz.func66, Tryz.ntmps66
  go_wp2_with (first | (go_at_call 53; (with_reducible refine Calls.mono (greatest_any _ _ _) ?_); rintro e wc ⟨rfl, rfl⟩) | (go_at_call 52; (with_reducible refine Calls.mono (k0 _) ?_); rintro e wc ⟨rfl, rfl⟩) | (go_at_call 54; (with_reducible refine Calls.mono (k1 _) ?_); rintro e wc ⟨rfl, rfl⟩) | (go_at_call 54; (with_reducible refine Calls.mono (k2 _) ?_); rintro e wc ⟨rfl, rfl⟩))
  go_ret2
  exact ⟨rfl, rfl⟩
/-- How far a number is from nought, where it is finite. -/
def clen (a b : Nat) : Option Nat :=
  if (fgt (fabs a) 9218868437227405311 || fgt (fabs b) 9218868437227405311 || !feq a a || !feq b b) = true then none
  else if feq (cgreat a b) 0 = true then some 0
  else (cscaled a b).bind fun s => (csq s.1.1 s.1.2).bind fun q => (fsqrt q).bind fun r => ldx r s.2
set_option maxHeartbeats 8000000 in
theorem clen_any (a b : Nat) (w : World) {r : Nat} (h : clen a b = some r) : Calls Tryz.prog 27 #[.complex .f64 a b] w fun e w' => e = .returned (.float .f64 r) ∧ w = w' := by
  unfold clen at h
  split at h
  · cases h
  · rename_i ht
    simp only [Bool.or_eq_true, not_or, Bool.not_eq_true, Bool.not_eq_false'] at ht
    obtain ⟨⟨⟨t1, t2⟩, t3⟩, t4⟩ := ht
    split at h
    · rename_i hz
      cases h
      unfold feq at hz
      go_enter Tryz.func27, Tryz.ntmps27
      go_wp2_with (first | (go_at_call 62; (with_reducible refine Calls.mono (isinf0_any _ _) ?_); (first | rw [t1] | rw [t2]); rintro e wc ⟨rfl, rfl⟩) | (go_at_call 64; (with_reducible refine Calls.mono (isnan_any _ _) ?_); (first | rw [t3] | rw [t4]); rintro e wc ⟨rfl, rfl⟩) | (go_at_call 53; (with_reducible refine Calls.mono (greatest_any _ _ _) ?_); rintro e wc ⟨rfl, rfl⟩))
      go_ret
      exact ⟨rfl, rfl⟩
    · rename_i hz
      rw [Bool.not_eq_true] at hz
      unfold feq at hz
      obtain ⟨s, e0, h⟩ := bind_some h
      obtain ⟨q, e1, h⟩ := bind_some h
      obtain ⟨l, e2, e3⟩ := bind_some h
      have k0 := fun w => cscaled_any _ _ w e0
      have k1 := fun w => csq_any _ _ w e1
      have k2 := fun w => Sqrt_any _ e2 w
      have k3 := fun w => Scale_any _ _ w e3
      clear e0 e1 e2 e3 h
      go_enter Tryz.func27, Tryz.ntmps27
      go_wp2_with (first | (go_at_call 62; (with_reducible refine Calls.mono (isinf0_any _ _) ?_); (first | rw [t1] | rw [t2]); rintro e wc ⟨rfl, rfl⟩) | (go_at_call 64; (with_reducible refine Calls.mono (isnan_any _ _) ?_); (first | rw [t3] | rw [t4]); rintro e wc ⟨rfl, rfl⟩) | (go_at_call 53; (with_reducible refine Calls.mono (greatest_any _ _ _) ?_); rintro e wc ⟨rfl, rfl⟩) | (go_at_call 66; (with_reducible refine Calls.mono (k0 _) ?_); rintro e wc ⟨rfl, rfl⟩) | (go_at_call 57; (with_reducible refine Calls.mono (k1 _) ?_); rintro e wc ⟨rfl, rfl⟩) | (go_at_call 56; (with_reducible refine Calls.mono (k2 _) ?_); rintro e wc ⟨rfl, rfl⟩) | (go_at_call 54; (with_reducible refine Calls.mono (k3 _) ?_); rintro e wc ⟨rfl, rfl⟩))
      go_ret
      exact ⟨rfl, rfl⟩
def cnear (a b c d m : Nat) : Option Bool := (csub a b c d).bind fun s => (clen s.1 s.2).bind fun l => some (fle l m)
set_option maxHeartbeats 4000000 in
theorem cnear_any (a b c d m : Nat) (w : World) {r : Bool} (h : cnear a b c d m = some r) : Calls Tryz.prog 9 #[.complex .f64 a b, .complex .f64 c d, .float .f64 m] w fun e w' => e = .returned (.bool r) ∧ w = w' := by
  obtain ⟨s, e0, h⟩ := bind_some h
  obtain ⟨l, e1, h⟩ := bind_some h
  have hr := (Option.some.inj h)
  subst hr
  have k0 := fun w => csub_any _ _ _ _ w e0
  have k1 := fun w => clen_any _ _ w e1
  clear e0 e1 h
  unfold fle
  go_enter Tryz.func9, Tryz.ntmps9
  go_wp2_with (first | (go_at_call 15; (with_reducible refine Calls.mono (k0 _) ?_); rintro e wc ⟨rfl, rfl⟩) | (go_at_call 27; (with_reducible refine Calls.mono (k1 _) ?_); rintro e wc ⟨rfl, rfl⟩))
  go_ret
  exact ⟨rfl, rfl⟩
end
section
open Go.RowKit
def fin (a : Nat) : Bool := !fgt (fabs a) 9218868437227405311 && !fgt a 9218868437227405311 && !fgt (Op.negFloat .f64 a) 9218868437227405311 && feq a a
theorem fin_parts {a : Nat} (h : fin a = true) : fgt (fabs a) 9218868437227405311 = false ∧ fgt a 9218868437227405311 = false ∧ fgt (Op.negFloat .f64 a) 9218868437227405311 = false ∧ (!feq a a) = false := by
  unfold fin at h
  simp only [Bool.and_eq_true, Bool.not_eq_true'] at h
  obtain ⟨⟨⟨h1, h2⟩, h3⟩, h4⟩ := h
  exact ⟨h1, h2, h3, by rw [h4]; rfl⟩
set_option maxHeartbeats 8000000 in
set_option maxRecDepth 100000 in
theorem edge_TT (x y : Nat) (w : World) (hx : fin x = true) (hy : fin y = true) (hp : feq x 0 = true) (hq : feq y 0 = true) : Calls Tryz.prog 51 #[.float .f64 x, .float .f64 y] w fun e w' => e = .returned (.tuple #[.complex .f64 0 y, .bool true]) ∧ w = w' := by
  obtain ⟨x1, x2, x3, x4⟩ := fin_parts hx
  obtain ⟨y1, y2, y3, y4⟩ := fin_parts hy
  clear hx hy
  unfold feq at hp hq
  go_enter Tryz.func51, Tryz.ntmps51
  go_wp2_with (go_at_call 63; (with_reducible refine Calls.mono (inf_any _) ?_); rintro e wc ⟨rfl, rfl⟩)
  refine Calls.mono (isinf0_any _ _) ?_
  rw [y1]
  rintro e wc ⟨rfl, rfl⟩
  go_wp2_with fail
  refine Calls.mono (isinf_any _ _) ?_
  rw [x2]
  rintro e wc ⟨rfl, rfl⟩
  go_wp2_with fail
  refine Calls.mono (isinfm_any _ _) ?_
  rw [x3]
  rintro e wc ⟨rfl, rfl⟩
  go_wp2_with fail
  refine Calls.mono (isinfm_any _ _) ?_
  rw [x3]
  rintro e wc ⟨rfl, rfl⟩
  go_wp2_with fail
  refine Calls.mono (isnan_any _ _) ?_
  rw [x4]
  rintro e wc ⟨rfl, rfl⟩
  go_wp2_with fail
  refine Calls.mono (isnan_any _ _) ?_
  rw [y4]
  rintro e wc ⟨rfl, rfl⟩
  go_wp2_with fail
  go_ret2
  exact ⟨rfl, rfl⟩
set_option maxHeartbeats 8000000 in
set_option maxRecDepth 100000 in
theorem edge_TF (x y : Nat) (w : World) (hx : fin x = true) (hy : fin y = true) (hp : feq x 0 = true) (hq : feq y 0 = false) : Calls Tryz.prog 51 #[.float .f64 x, .float .f64 y] w fun e w' => e = .returned (.tuple #[.complex .f64 0 0, .bool false]) ∧ w = w' := by
  obtain ⟨x1, x2, x3, x4⟩ := fin_parts hx
  obtain ⟨y1, y2, y3, y4⟩ := fin_parts hy
  clear hx hy
  unfold feq at hp hq
  go_enter Tryz.func51, Tryz.ntmps51
  go_wp2_with (go_at_call 63; (with_reducible refine Calls.mono (inf_any _) ?_); rintro e wc ⟨rfl, rfl⟩)
  refine Calls.mono (isinf0_any _ _) ?_
  rw [y1]
  rintro e wc ⟨rfl, rfl⟩
  go_wp2_with fail
  refine Calls.mono (isinf_any _ _) ?_
  rw [x2]
  rintro e wc ⟨rfl, rfl⟩
  go_wp2_with fail
  refine Calls.mono (isinfm_any _ _) ?_
  rw [x3]
  rintro e wc ⟨rfl, rfl⟩
  go_wp2_with fail
  refine Calls.mono (isinfm_any _ _) ?_
  rw [x3]
  rintro e wc ⟨rfl, rfl⟩
  go_wp2_with fail
  refine Calls.mono (isnan_any _ _) ?_
  rw [x4]
  rintro e wc ⟨rfl, rfl⟩
  go_wp2_with fail
  refine Calls.mono (isnan_any _ _) ?_
  rw [y4]
  rintro e wc ⟨rfl, rfl⟩
  go_wp2_with fail
  go_ret2
  exact ⟨rfl, rfl⟩
set_option maxHeartbeats 8000000 in
set_option maxRecDepth 100000 in
theorem edge_F (x y : Nat) (w : World) (hx : fin x = true) (hy : fin y = true) (hp : feq x 0 = false) : Calls Tryz.prog 51 #[.float .f64 x, .float .f64 y] w fun e w' => e = .returned (.tuple #[.complex .f64 0 0, .bool false]) ∧ w = w' := by
  obtain ⟨x1, x2, x3, x4⟩ := fin_parts hx
  obtain ⟨y1, y2, y3, y4⟩ := fin_parts hy
  clear hx hy
  unfold feq at hp
  go_enter Tryz.func51, Tryz.ntmps51
  go_wp2_with (go_at_call 63; (with_reducible refine Calls.mono (inf_any _) ?_); rintro e wc ⟨rfl, rfl⟩)
  refine Calls.mono (isinf0_any _ _) ?_
  rw [y1]
  rintro e wc ⟨rfl, rfl⟩
  go_wp2_with fail
  refine Calls.mono (isinf_any _ _) ?_
  rw [x2]
  rintro e wc ⟨rfl, rfl⟩
  go_wp2_with fail
  refine Calls.mono (isinfm_any _ _) ?_
  rw [x3]
  rintro e wc ⟨rfl, rfl⟩
  go_wp2_with fail
  refine Calls.mono (isinfm_any _ _) ?_
  rw [x3]
  rintro e wc ⟨rfl, rfl⟩
  go_wp2_with fail
  refine Calls.mono (isnan_any _ _) ?_
  rw [x4]
  rintro e wc ⟨rfl, rfl⟩
  go_wp2_with fail
  refine Calls.mono (isnan_any _ _) ?_
  rw [y4]
  rintro e wc ⟨rfl, rfl⟩
  go_wp2_with fail
  go_ret2
  exact ⟨rfl, rfl⟩
theorem edge_any (x y : Nat) (w : World) (hx : fin x = true) (hy : fin y = true) : (nought (x, y) = true → Calls Tryz.prog 51 #[.float .f64 x, .float .f64 y] w fun e w' => e = .returned (.tuple #[.complex .f64 0 y, .bool true]) ∧ w = w') ∧ (¬ nought (x, y) = true → Calls Tryz.prog 51 #[.float .f64 x, .float .f64 y] w fun e w' => e = .returned (.tuple #[.complex .f64 0 0, .bool false]) ∧ w = w') := by
  unfold nought
  simp only
  cases hp : feq x 0 <;> cases hq : feq y 0
  · exact ⟨fun h => (by cases h), fun _ => edge_F x y w hx hy hp⟩
  · exact ⟨fun h => (by cases h), fun _ => edge_F x y w hx hy hp⟩
  · exact ⟨fun h => (by cases h), fun _ => edge_TF x y w hx hy hp hq⟩
  · exact ⟨fun _ => edge_TT x y w hx hy hp hq, fun h => absurd rfl h⟩
/-- The square root, of finite numbers. -/
def croot (x y : Nat) : Option (Nat × Nat) :=
  if (fin x && fin y) = false then none
  else if nought (x, y) = true then some (0, y)
  else (frx (cgreat x y)).bind fun f => (ldx (fabs x) (-2 * (f.2 / 2))).bind fun a => (ldx y (-2 * (f.2 / 2))).bind fun b => (csq a b).bind fun q => (fsqrt q).bind fun r => (fadd a r).bind fun t => (fdiv t 4611686018427387904).bind fun u => (fsqrt u).bind fun v => (ldx v (f.2 / 2)).bind fun s => (fmul 4611686018427387904 s).bind fun d =>
    if fge x 0 = true then (fdiv y d).bind fun z => some (s, z) else (fdiv (fabs y) d).bind fun z => some (z, fcopy s y)
set_option maxHeartbeats 16000000 in
set_option maxRecDepth 100000 in
theorem croot_any (x y : Nat) (w : World) {r : Nat × Nat} (h : croot x y = some r) : Calls Tryz.prog 21 #[.complex .f64 x y] w fun e w' => e = .returned (.complex .f64 r.1 r.2) ∧ w = w' := by
  unfold croot at h
  split at h
  · cases h
  rename_i hf
  rw [Bool.not_eq_false, Bool.and_eq_true] at hf
  have ed := fun w => edge_any x y w hf.1 hf.2
  clear hf
  split at h
  · rename_i hz
    cases h
    have ed := fun w => (ed w).1 hz
    clear hz
    go_enter Tryz.func21, Tryz.ntmps21
    go_wp2_with (go_at_call 51; (with_reducible refine Calls.mono (ed _) ?_); rintro e wc ⟨rfl, rfl⟩)
    go_ret
    exact ⟨rfl, rfl⟩
  · rename_i hz
    have ed := fun w => (ed w).2 hz
    clear hz
    obtain ⟨f, e0, h⟩ := bind_some h
    obtain ⟨a, e1, h⟩ := bind_some h
    obtain ⟨b, e2, h⟩ := bind_some h
    obtain ⟨q, e3, h⟩ := bind_some h
    obtain ⟨r, e4, h⟩ := bind_some h
    obtain ⟨t, e5, h⟩ := bind_some h
    obtain ⟨u, e6, h⟩ := bind_some h
    obtain ⟨v, e7, h⟩ := bind_some h
    obtain ⟨s, e8, h⟩ := bind_some h
    obtain ⟨d, e9, h⟩ := bind_some h
    split at h
    · rename_i hx
      unfold fge at hx
      obtain ⟨z, e10, h⟩ := bind_some h
      obtain rfl := (Option.some.inj h).symm
      have k10 := run_fdiv e10
      clear e10 h
      have k0 := fun w => Parts_any _ w e0
      have k1 := fun w => Scale_any _ _ w e1
      have k2 := fun w => Scale_any _ _ w e2
      have k3 := fun w => csq_any _ _ w e3
      have k4 := fun w => Sqrt_any _ e4 w
      have k5 := run_fadd e5
      have k6 := run_fdiv e6
      have k7 := fun w => Sqrt_any _ e7 w
      have k8 := fun w => Scale_any _ _ w e8
      have k9 := run_fmul e9
      obtain ⟨b1, b2⟩ := ldx_n e1
      clear e0 e1 e2 e3 e4 e5 e6 e7 e8 e9
      obtain ⟨f1, f2⟩ := f
      simp only at *
      have b3 : -2600 < f2 / 2 ∧ f2 / 2 < 2600 := by omega
      obtain ⟨b4, b5⟩ := b3
      obtain ⟨j, hj⟩ : ∃ j, j = f2 / 2 := ⟨_, rfl⟩
      rw [← hj] at *
      go_enter Tryz.func21, Tryz.ntmps21
      go_wp2_with (first | (go_at_call 51; (with_reducible refine Calls.mono (ed _) ?_); rintro e wc ⟨rfl, rfl⟩) | (go_at_call 53; (with_reducible refine Calls.mono (greatest_any _ _ _) ?_); rintro e wc ⟨rfl, rfl⟩) | (go_at_call 55; (with_reducible refine Calls.mono (abs_any _ _) ?_); rintro e wc ⟨rfl, rfl⟩) | (go_at_call 52; (with_reducible refine Calls.mono (k0 _) ?_); rintro e wc ⟨rfl, rfl⟩) | (go_at_call 54; (with_reducible refine Calls.mono (k1 _) ?_); rintro e wc ⟨rfl, rfl⟩) | (go_at_call 54; (with_reducible refine Calls.mono (k2 _) ?_); rintro e wc ⟨rfl, rfl⟩) | (go_at_call 54; (with_reducible refine Calls.mono (k8 _) ?_); rintro e wc ⟨rfl, rfl⟩) | (go_at_call 57; (with_reducible refine Calls.mono (k3 _) ?_); rintro e wc ⟨rfl, rfl⟩) | (go_at_call 56; (with_reducible refine Calls.mono (k4 _) ?_); rintro e wc ⟨rfl, rfl⟩) | (go_at_call 56; (with_reducible refine Calls.mono (k7 _) ?_); rintro e wc ⟨rfl, rfl⟩) | (go_at_call 58; (with_reducible refine Calls.mono (copysign_any _ _ _) ?_); rintro e wc ⟨rfl, rfl⟩))
      go_ret
      exact ⟨rfl, rfl⟩
    · rename_i hx
      rw [Bool.not_eq_true] at hx
      unfold fge at hx
      obtain ⟨z, e10, h⟩ := bind_some h
      obtain rfl := (Option.some.inj h).symm
      have k10 := run_fdiv e10
      clear e10 h
      have k0 := fun w => Parts_any _ w e0
      have k1 := fun w => Scale_any _ _ w e1
      have k2 := fun w => Scale_any _ _ w e2
      have k3 := fun w => csq_any _ _ w e3
      have k4 := fun w => Sqrt_any _ e4 w
      have k5 := run_fadd e5
      have k6 := run_fdiv e6
      have k7 := fun w => Sqrt_any _ e7 w
      have k8 := fun w => Scale_any _ _ w e8
      have k9 := run_fmul e9
      obtain ⟨b1, b2⟩ := ldx_n e1
      clear e0 e1 e2 e3 e4 e5 e6 e7 e8 e9
      obtain ⟨f1, f2⟩ := f
      simp only at *
      have b3 : -2600 < f2 / 2 ∧ f2 / 2 < 2600 := by omega
      obtain ⟨b4, b5⟩ := b3
      obtain ⟨j, hj⟩ : ∃ j, j = f2 / 2 := ⟨_, rfl⟩
      rw [← hj] at *
      go_enter Tryz.func21, Tryz.ntmps21
      go_wp2_with (first | (go_at_call 51; (with_reducible refine Calls.mono (ed _) ?_); rintro e wc ⟨rfl, rfl⟩) | (go_at_call 53; (with_reducible refine Calls.mono (greatest_any _ _ _) ?_); rintro e wc ⟨rfl, rfl⟩) | (go_at_call 55; (with_reducible refine Calls.mono (abs_any _ _) ?_); rintro e wc ⟨rfl, rfl⟩) | (go_at_call 52; (with_reducible refine Calls.mono (k0 _) ?_); rintro e wc ⟨rfl, rfl⟩) | (go_at_call 54; (with_reducible refine Calls.mono (k1 _) ?_); rintro e wc ⟨rfl, rfl⟩) | (go_at_call 54; (with_reducible refine Calls.mono (k2 _) ?_); rintro e wc ⟨rfl, rfl⟩) | (go_at_call 54; (with_reducible refine Calls.mono (k8 _) ?_); rintro e wc ⟨rfl, rfl⟩) | (go_at_call 57; (with_reducible refine Calls.mono (k3 _) ?_); rintro e wc ⟨rfl, rfl⟩) | (go_at_call 56; (with_reducible refine Calls.mono (k4 _) ?_); rintro e wc ⟨rfl, rfl⟩) | (go_at_call 56; (with_reducible refine Calls.mono (k7 _) ?_); rintro e wc ⟨rfl, rfl⟩) | (go_at_call 58; (with_reducible refine Calls.mono (copysign_any _ _ _) ?_); rintro e wc ⟨rfl, rfl⟩))
      go_ret
      exact ⟨rfl, rfl⟩
end
section
open Go.RowKit
abbrev Pl := Nat × Nat
def reads (w : World) (b off : Nat) (l : List Pl) : Prop := ∀ i, i < l.length → w.cell? ⟨b, off + i, none⟩ = some (.complex .f64 (l.getD i (0, 0)).1 (l.getD i (0, 0)).2)
theorem far_any (a b : Nat) (w : World) :
    Calls Tryz.prog 49 #[.complex .f64 a b] w fun e w' => e = .returned (.bool (!okP (a, b))) ∧ w = w' := by
  have hn := run_not
  go_enter Tryz.func49, Tryz.ntmps49
  go_wp2_with (go_at_call 14; refine (place_any _ _ _).mono ?_; rintro e w' ⟨rfl, rfl⟩)
  go_ret
  exact ⟨rfl, rfl⟩
set_option maxHeartbeats 400000 in
theorem index_none (l : List Pl) (b off cap : Nat) (w : World) (hn : l.length ≤ 4096) (hc : reads w b off l) (hp : ∀ i, i < l.length → okP (l.getD i (0, 0)) = true) :
    Calls Tryz.prog 94 #[.slice (some ⟨b, off, none⟩) l.length cap, .func (.func 49) #[] #[]] w fun e w' => e = .returned (.int .i64 (-1)) ∧ w = w' := by
  have HC := hid hc
  have HP := hid hp
  clear hc hp
  have hnot := run_not
  go_enter Tryz.func94, Tryz.ntmps94
  go_wp2
  go_loop [5, 8] (fun _ i => ∃ k : Nat, k ≤ l.length ∧ i = .int .i64 k) (fun _ i => l.length - (intOf i).toNat)
  case atStart => exact ⟨0, Nat.zero_le _, rfl⟩
  case round =>
    obtain ⟨k, hk, rfl⟩ := hrel
    by_cases hlt : k < l.length
    · have hcell := HC.out k hlt
      have hpl := HP.out k hlt
      have hne : (!okP (l.getD k (0, 0))) = false := by rw [hpl]; rfl
      clear hpl
      generalize hz : l.getD k (0, 0) = z at hcell hne
      clear hz
      go_wp2_with (go_at_call 49; refine (far_any _ _ _).mono ?_; rintro e w' ⟨rfl, rfl⟩)
      go_round
      case rel => exact ⟨k + 1, by omega, by go_num⟩
      case measure => simp [intOf]; omega
    · go_wp2
      go_ret
      exact ⟨rfl, rfl⟩
theorem contains_none (l : List Pl) (b off cap : Nat) (w : World) (hn : l.length ≤ 4096) (hc : reads w b off l) (hp : ∀ i, i < l.length → okP (l.getD i (0, 0)) = true) :
    Calls Tryz.prog 50 #[.slice (some ⟨b, off, none⟩) l.length cap, .func (.func 49) #[] #[]] w fun e w' => e = .returned (.bool false) ∧ w = w' := by
  have HC := hid hc
  have HP := hid hp
  clear hc hp
  go_enter Tryz.func50, Tryz.ntmps50
  go_wp2_with (go_at_call 94; refine (index_none l b off cap _ hn HC.out HP.out).mono ?_; rintro e w' ⟨rfl, rfl⟩)
  go_ret
  exact ⟨rfl, rfl⟩
/-- A list of coefficients that poly.Check lets by. -/
def polyOk (l : List Pl) : Bool :=
  decide (0 < l.length) && decide (l.length ≤ 65) && l.all (fun z => okP z) && (decide (l.length = 1) || !nought (l.getD (l.length - 1) (0, 0)))
theorem polyOk_out {l : List Pl} (h : polyOk l = true) : 0 < l.length ∧ l.length ≤ 65 ∧ (∀ i, i < l.length → okP (l.getD i (0, 0)) = true) ∧ (l.length = 1 ∨ nought (l.getD (l.length - 1) (0, 0)) = false) := by
  simp only [polyOk, Bool.and_eq_true, decide_eq_true_eq, Bool.or_eq_true, Bool.not_eq_true', List.all_eq_true] at h
  obtain ⟨⟨⟨h1, h2⟩, h3⟩, h4⟩ := h
  refine ⟨h1, h2, fun i hi => ?_, h4⟩
  have : l.getD i (0, 0) = l[i] := by simp [List.getD, hi]
  rw [this]
  exact h3 _ (List.getElem_mem hi)
set_option maxHeartbeats 400000 in
theorem polycheck_ok (l : List Pl) (b off cap : Nat) (w : World) (hok : polyOk l = true) (hc : reads w b off l) :
    Calls Tryz.prog 19 #[.slice (some ⟨b, off, none⟩) l.length cap] w fun e w' => e = .returned (.int .i64 0) ∧ w = w' := by
  obtain ⟨h1, h2, h3, h4⟩ := polyOk_out hok
  have HC := hid hc
  have HP := hid h3
  have H4 := hid h4
  clear hc h3 hok h4
  have e0 : ((l.length : Int) == 0) = false := beq_eq_false_iff_ne.2 (by omega)
  have e1 : decide ((l.length : Int) > 65) = false := decide_eq_false (by omega)
  by_cases hone : l.length = 1
  · have e2 : decide ((l.length : Int) > 1) = false := decide_eq_false (by omega)
    clear hone
    go_enter Tryz.func19, Tryz.ntmps19
    go_wp2_with (go_at_call 50; refine (contains_none l b off cap _ (by omega) HC.out HP.out).mono ?_; rintro e w' ⟨rfl, rfl⟩)
    go_ret
    exact ⟨rfl, rfl⟩
  · have hq := H4.out.resolve_left hone
    have hcell := HC.out (l.length - 1) (by omega)
    have e3 : ((l.length : Int) - 1) = ((l.length - 1 : Nat) : Int) := by omega
    have e2 : decide ((l.length : Int) > 1) = true := decide_eq_true (by omega)
    generalize hz : l.getD (l.length - 1) (0, 0) = z at hcell hq
    clear hz hone
    go_enter Tryz.func19, Tryz.ntmps19
    go_wp2_with (first | (go_at_call 50; refine (contains_none l b off cap _ (by omega) HC.out HP.out).mono ?_; rintro e w' ⟨rfl, rfl⟩) | (go_at_call 48; refine (pnought_any _ _ _).mono ?_; rintro e w' ⟨rfl, rfl⟩))
    go_ret
    exact ⟨rfl, rfl⟩

/-- How two numbers that are numbers stand. -/
def fcmp (x y : Nat) : Int := if flt x y = true then -1 else if fgt x y = true then 1 else 0
theorem ne_of_eq {x : Nat} (h : feq x x = true) : (FloatKind.f64.format.order x x != some Ordering.eq) = false := by
  unfold feq at h
  unfold bne
  rw [h]
  rfl
set_option maxHeartbeats 4000000 in
theorem isnan2_any (a : Nat) (w : World) (h : feq a a = true) : Calls Tryz.prog 122 #[.float .f64 a] w fun e w' => e = .returned (.bool false) ∧ w = w' := by
  have h2 := ne_of_eq h
  unfold feq at h
  go_enter Tryz.func122, Tryz.ntmps122
  go_wp2_with fail
  go_ret
  exact ⟨rfl, rfl⟩
set_option maxHeartbeats 4000000 in
theorem Compare_any (x y : Nat) (w : World) (hx : feq x x = true) (hy : feq y y = true) : Calls Tryz.prog 97 #[.float .f64 x, .float .f64 y] w fun e w' => e = .returned (.int .i64 (fcmp x y)) ∧ w = w' := by
  unfold fcmp
  obtain ⟨p, hp⟩ : ∃ p, flt x y = p := ⟨_, rfl⟩
  obtain ⟨q, hq⟩ : ∃ q, fgt x y = q := ⟨_, rfl⟩
  rw [hp, hq]
  have nx := fun w => isnan2_any x w hx
  have ny := fun w => isnan2_any y w hy
  clear hx hy
  unfold flt at hp
  unfold fgt at hq
  cases p <;> cases q
  all_goals
    go_enter Tryz.func97, Tryz.ntmps97
    go_wp2_with (first | (go_at_call 122; (with_reducible refine Calls.mono (nx _) ?_); rintro e wc ⟨rfl, rfl⟩) | (go_at_call 122; (with_reducible refine Calls.mono (ny _) ?_); rintro e wc ⟨rfl, rfl⟩))
    go_ret
    exact ⟨rfl, rfl⟩
set_option maxHeartbeats 4000000 in
theorem order_any (x y : Nat) (w : World) (hx : feq x x = true) (hy : feq y y = true) : Calls Tryz.prog 61 #[.float .f64 x, .float .f64 y] w fun e w' => e = .returned (.int .i64 (fcmp x y)) ∧ w = w' := by
  have A := fun w => Compare_any x y w hx hy
  have nx := ne_of_eq hx
  have ny := ne_of_eq hy
  unfold feq at hx hy
  go_enter Tryz.func61, Tryz.ntmps61
  go_wp2_with (go_at_call 97; (with_reducible refine Calls.mono (A _) ?_); rintro e wc ⟨rfl, rfl⟩)
  go_ret
  exact ⟨rfl, rfl⟩
set_option maxHeartbeats 4000000 in
theorem Or_any (g : Nat) (a b : Int) (w : World) (ha : w.cell? ⟨g, 0, none⟩ = some (.int .i64 a)) (hb : w.cell? ⟨g, 1, none⟩ = some (.int .i64 b)) : Calls Tryz.prog 60 #[.slice (some ⟨g, 0, none⟩) 2 2] w fun e w' => e = .returned (.int .i64 (if a = 0 then b else a)) ∧ w = w' := by
  go_enter Tryz.func60, Tryz.ntmps60
  go_wp2_with fail
  go_loop [5, 8] (fun _ i => i = .int .i64 0 ∨ (i = .int .i64 1 ∧ a = 0) ∨ (i = .int .i64 2 ∧ a = 0 ∧ b = 0)) (fun _ i => 2 - (intOf i).toNat)
  case atStart => exact .inl rfl
  case round =>
    rcases hrel with rfl | ⟨rfl, rfl⟩ | ⟨rfl, rfl, rfl⟩
    · by_cases h : a = 0
      · subst h
        go_wp2_with fail
        go_round
        case rel => first | exact .inr (.inl ⟨rfl, trivial⟩) | simp
        case measure => decide
      · go_wp2_with fail
        go_ret
        exact ⟨rfl, rfl⟩
    · by_cases h : b = 0
      · subst h
        go_wp2_with fail
        go_round
        case rel => first | exact .inr (.inr ⟨rfl, trivial⟩) | simp
        case measure => decide
      · go_wp2_with fail
        go_ret
        exact ⟨rfl, rfl⟩
    · go_wp2_with fail
      go_ret
      exact ⟨rfl, rfl⟩
def ccmp (a b c d : Nat) : Int := if fcmp a c = 0 then fcmp b d else fcmp a c
set_option synthInstance.maxHeartbeats 2000000 in
set_option synthInstance.maxSize 100000 in
set_option maxHeartbeats 4000000 in
theorem Order_any (a b c d : Nat) (w : World) (ha : feq a a = true) (hb : feq b b = true) (hc : feq c c = true) (hd : feq d d = true) : Calls Tryz.prog 26 #[.complex .f64 a b, .complex .f64 c d] w fun e w' => e = .returned (.int .i64 (ccmp a b c d)) ∧ Kp0 w w' := by
  have A := fun w => order_any a c w ha hc
  have B := fun w => order_any b d w hb hd
  clear ha hb hc hd
  by_cases h : fcmp a c = 0
  · rw [show ccmp a b c d = fcmp b d from if_pos h]
    go_enter Tryz.func26, Tryz.ntmps26
    go_wp2_with (first | (go_at_call 61; (with_reducible refine Calls.mono (A _) ?_); rintro e wc ⟨rfl, rfl⟩) | (go_at_call 61; (with_reducible refine Calls.mono (B _) ?_); rintro e wc ⟨rfl, rfl⟩) | (go_at_call 60; (with_reducible refine Calls.mono (Or_any _ _ _ _ (BkC.out.cell rfl) (BkC.out.cell rfl)) ?_); rintro e wc ⟨rfl, rfl⟩))
    go_ret
    exact ⟨rfl, ⟨Gr.out⟩⟩
  · rw [show ccmp a b c d = fcmp a c from if_neg h]
    go_enter Tryz.func26, Tryz.ntmps26
    go_wp2_with (first | (go_at_call 61; (with_reducible refine Calls.mono (A _) ?_); rintro e wc ⟨rfl, rfl⟩) | (go_at_call 61; (with_reducible refine Calls.mono (B _) ?_); rintro e wc ⟨rfl, rfl⟩) | (go_at_call 60; (with_reducible refine Calls.mono (Or_any _ _ _ _ (BkC.out.cell rfl) (BkC.out.cell rfl)) ?_); rintro e wc ⟨rfl, rfl⟩))
    go_ret
    exact ⟨rfl, ⟨Gr.out⟩⟩
end
section
open Go.RowKit
instance hasSize_drewN (w : World) (n s : Nat) [h : HasSize w s] : HasSize (w.drewN n) s := ⟨h.eq⟩
instance (priority := 500) has_drewN (w : World) (k n : Nat) [h : Has w n] : Has (w.drewN k) n := ⟨h.lt⟩
instance gr_drewN (v W : World) (n : Nat) [h : Gr v W] : Gr v (W.drewN n) := ⟨⟨h.out.os, h.out.tape, h.out.output, h.out.size, h.out.block⟩⟩
instance bkC_drewN (w : World) (n g : Nat) (L : List Value) (T : Nat) [h : BkC w g L T] : BkC (w.drewN n) g L T := ⟨h.out⟩
instance gs_drewN (v : World) (S : List Nat) (W : World) (n : Nat) [h : GS v S W] : GS v S (W.drewN n) := ⟨⟨h.out.os, h.out.tape, h.out.output, h.out.size, h.out.block⟩⟩
/-- The zeros of a polynomial of the degree 2, plainly. -/
def cfin (z : Pl) : Bool := fle (fabs z.1) 9218868437227405311 && fle (fabs z.2) 9218868437227405311
def numb (z : Pl) : Bool := feq z.1 z.1 && feq z.2 z.2
def csqA (a b c : Pl) : Option (Pl × Nat) := (cmul b.1 b.2 b.1 b.2).bind fun bb => (cscale c.1 c.2 4616189618054758400).bind fun c4 => (cmul c4.1 c4.2 a.1 a.2).bind fun ca => (csub bb.1 bb.2 ca.1 ca.2).bind fun d => (croot d.1 d.2).bind fun s => (fmul b.1 s.1).bind fun p => (fmul b.2 s.2).bind fun q => (fadd p q).bind fun t => some (s, t)
def csqB (b s : Pl) (t : Nat) : Option Pl := let s2 := if flt t 0 = true then (Op.negFloat .f64 s.1, Op.negFloat .f64 s.2) else s
  (cadd b.1 b.2 s2.1 s2.2).bind fun u => cscale u.1 u.2 13826050856027422720
def csqC (a c q : Pl) : Option (Pl × Pl) := if nought q = true then some ((0, 0), (0, 0)) else (cdiv q.1 q.2 c.1 c.2).bind fun x => (cdiv a.1 a.2 q.1 q.2).bind fun y =>
  if (cfin x && cfin y && numb x && numb y) = true then (if ccmp x.1 x.2 y.1 y.2 > 0 then some (y, x) else some (x, y)) else none
def csquare (a b c : Pl) : Option (Pl × Pl) := (csqA a b c).bind fun st => (csqB b st.1 st.2).bind fun q => csqC a c q
set_option synthInstance.maxHeartbeats 2000000 in
set_option synthInstance.maxSize 100000 in
set_option maxRecDepth 100000 in
set_option maxHeartbeats 16000000 in
theorem csquare_any {w : World} {g : Nat} (a b c : Pl) [hb : BkC w g [.complex .f64 a.1 a.2, .complex .f64 b.1 b.2, .complex .f64 c.1 c.2] 26] (hok : polyOk [a, b, c] = true) {r : Pl × Pl} (h : csquare a b c = some r) :
    Calls Tryz.prog 8 #[.slice (some ⟨g, 0, none⟩) 3 3] w fun e w' => e = .returned (.tuple #[.complex .f64 r.1.1 r.1.2, .complex .f64 r.2.1 r.2.2, .int .i64 0]) ∧ Kp0 w w' := by
  obtain ⟨st, h1, h⟩ := bind_some h
  obtain ⟨q, h2, h3⟩ := bind_some h
  obtain ⟨bb, e0, h1⟩ := bind_some h1
  obtain ⟨c4, e1, h1⟩ := bind_some h1
  obtain ⟨ca, e2, h1⟩ := bind_some h1
  obtain ⟨d, e3, h1⟩ := bind_some h1
  obtain ⟨s, e4, h1⟩ := bind_some h1
  obtain ⟨p1, e5, h1⟩ := bind_some h1
  obtain ⟨p2, e6, h1⟩ := bind_some h1
  obtain ⟨t, e7, h1⟩ := bind_some h1
  obtain rfl := (Option.some.inj h1).symm
  have k0 := fun w => cmul_any _ _ _ _ w e0
  have k1 := fun w => cscale_any _ _ _ w e1
  have k2 := fun w => cmul_any _ _ _ _ w e2
  have k3 := fun w => csub_any _ _ _ _ w e3
  have k4 := fun w => croot_any _ _ w e4
  have k5 := run_fmul e5
  have k6 := run_fmul e6
  have k7 := run_fadd e7
  have CK := hid (polycheck_ok [a, b, c] g 0 3 w hok (by
    intro i hi
    match i, hi with
    | 0, _ => exact Bk.cell hb.out rfl
    | 1, _ => exact Bk.cell hb.out rfl
    | 2, _ => exact Bk.cell hb.out rfl))
  clear e0 e1 e2 e3 e4 e5 e6 e7 h h1 hok
  have c0 : w.cell? ⟨g, 0, none⟩ = some (.complex .f64 a.1 a.2) := Bk.cell hb.out rfl
  have c1 : w.cell? ⟨g, 1, none⟩ = some (.complex .f64 b.1 b.2) := Bk.cell hb.out rfl
  have c2 : w.cell? ⟨g, 2, none⟩ = some (.complex .f64 c.1 c.2) := Bk.cell hb.out rfl
  haveI : Has w g := ⟨World.block_lt_of_cell? _ _ c0⟩
  have h2' : (let s2 := if flt t 0 = true then (Op.negFloat .f64 s.1, Op.negFloat .f64 s.2) else s; (cadd b.1 b.2 s2.1 s2.2).bind fun u => cscale u.1 u.2 13826050856027422720) = some q := h2
  clear h2
  obtain ⟨p, hp⟩ : ∃ p, flt t 0 = p := ⟨_, rfl⟩
  rw [hp] at h2'
  unfold flt at hp
  obtain ⟨s2, hs2⟩ : ∃ s2, s2 = (if p = true then (Op.negFloat .f64 s.1, Op.negFloat .f64 s.2) else s) := ⟨_, rfl⟩
  simp only [← hs2] at h2'
  obtain ⟨u, e8, e9⟩ := bind_some h2'
  have k8 := fun w => cadd_any _ _ _ _ w e8
  have k9 := fun w => cscale_any _ _ _ w e9
  clear h2' e8 e9
  obtain ⟨n, hn⟩ : ∃ n, nought q = n := ⟨_, rfl⟩
  have kn := fun w => znought_any q.1 q.2 w
  rw [show nought (q.1, q.2) = n from hn] at kn
  unfold csqC at h3
  rw [hn] at h3
  clear hn
  cases n
  · simp only [Bool.false_eq_true, if_false] at h3
    obtain ⟨x, e10, h3⟩ := bind_some h3
    obtain ⟨y, e11, h3⟩ := bind_some h3
    have k10 := fun w => cdiv_any _ _ _ _ w e10
    have k11 := fun w => cdiv_any _ _ _ _ w e11
    clear e10 e11
    split at h3
    · rename_i hf
      simp only [Bool.and_eq_true] at hf
      obtain ⟨⟨⟨f1, f2⟩, f3⟩, f4⟩ := hf
      have kf1 := fun w => pfinite_any x.1 x.2 w
      have kf2 := fun w => pfinite_any y.1 y.2 w
      rw [show (fle (fabs x.1) 9218868437227405311 && fle (fabs x.2) 9218868437227405311) = true from f1] at kf1
      rw [show (fle (fabs y.1) 9218868437227405311 && fle (fabs y.2) 9218868437227405311) = true from f2] at kf2
      unfold numb at f3 f4
      rw [Bool.and_eq_true] at f3 f4
      have KO := hid (fun w => Order_any x.1 x.2 y.1 y.2 w f3.1 f3.2 f4.1 f4.2)
      clear f1 f2 f3 f4
      obtain ⟨o, ho⟩ : ∃ o, o = ccmp x.1 x.2 y.1 y.2 := ⟨_, rfl⟩
      rw [← ho] at h3 KO
      clear ho
      by_cases hgt : o > 0
      · rw [if_pos hgt] at h3
        obtain rfl := (Option.some.inj h3).symm
        clear h3
        cases p
        all_goals
          simp only [if_true, Bool.false_eq_true, if_false] at hs2
          subst hs2
          go_enter Tryz.func8, Tryz.ntmps8
          go_wp2_with (go_at_call 19; (with_reducible refine Calls.mono CK.out ?_); rintro e wc ⟨rfl, rfl⟩)
          go_region_held3 (fun W => W.cell? ⟨g, 0, none⟩ = some (.complex .f64 a.1 a.2) ∧ W.cell? ⟨g, 1, none⟩ = some (.complex .f64 b.1 b.2) ∧ W.cell? ⟨g, 2, none⟩ = some (.complex .f64 c.1 c.2)) (refine ⟨?_, ?_, ?_⟩ <;> (first | exact Bk.cell BkC.out rfl | (simp [go_sem]; done))) (first | (go_at_call 16; (with_reducible refine Calls.mono (k0 _) ?_); rintro e wc ⟨rfl, rfl⟩) | (go_at_call 20; (with_reducible refine Calls.mono (k1 _) ?_); rintro e wc ⟨rfl, rfl⟩) | (go_at_call 16; (with_reducible refine Calls.mono (k2 _) ?_); rintro e wc ⟨rfl, rfl⟩) | (go_at_call 15; (with_reducible refine Calls.mono (k3 _) ?_); rintro e wc ⟨rfl, rfl⟩))
          go_wp2_with ((go_at_call 21; (with_reducible refine Calls.mono (k4 _) ?_); rintro e wc ⟨rfl, rfl⟩))
          go_quiet (fail)
          go_wp2_with (first | (go_at_call 17; (with_reducible refine Calls.mono (cneg_any _ _ _) ?_); rintro e wc ⟨rfl, rfl⟩) | (go_at_call 22; (with_reducible refine Calls.mono (k8 _) ?_); rintro e wc ⟨rfl, rfl⟩) | (go_at_call 20; (with_reducible refine Calls.mono (k9 _) ?_); rintro e wc ⟨rfl, rfl⟩) | (go_at_call 23; (with_reducible refine Calls.mono (kn _) ?_); rintro e wc ⟨rfl, rfl⟩))
          go_region_held3 (fun W => W.cell? ⟨g, 0, none⟩ = some (.complex .f64 a.1 a.2) ∧ W.cell? ⟨g, 2, none⟩ = some (.complex .f64 c.1 c.2)) (refine ⟨?_, ?_⟩ <;> (first | exact Bk.cell BkC.out rfl | (simp [go_sem]; done))) (first | (go_at_call 24; (with_reducible refine Calls.mono (k10 _) ?_); rintro e wc ⟨rfl, rfl⟩) | (go_at_call 24; (with_reducible refine Calls.mono (k11 _) ?_); rintro e wc ⟨rfl, rfl⟩))
          go_wp2_with (first | (go_at_call 25; (with_reducible refine Calls.mono (kf1 _) ?_); rintro e wc ⟨rfl, rfl⟩) | (go_at_call 25; (with_reducible refine Calls.mono (kf2 _) ?_); rintro e wc ⟨rfl, rfl⟩) | (go_at_call 26; (with_reducible refine Calls.mono (KO.out _) ?_); rintro e wo ⟨rfl, _⟩))
          refine bodyPost_ret (results_tmp3 rfl _ _ _) rfl ?_
          exact ⟨rfl, ⟨Gr.out⟩⟩
      · rw [if_neg hgt] at h3
        obtain rfl := (Option.some.inj h3).symm
        clear h3
        cases p
        all_goals
          simp only [if_true, Bool.false_eq_true, if_false] at hs2
          subst hs2
          go_enter Tryz.func8, Tryz.ntmps8
          go_wp2_with (go_at_call 19; (with_reducible refine Calls.mono CK.out ?_); rintro e wc ⟨rfl, rfl⟩)
          go_region_held3 (fun W => W.cell? ⟨g, 0, none⟩ = some (.complex .f64 a.1 a.2) ∧ W.cell? ⟨g, 1, none⟩ = some (.complex .f64 b.1 b.2) ∧ W.cell? ⟨g, 2, none⟩ = some (.complex .f64 c.1 c.2)) (refine ⟨?_, ?_, ?_⟩ <;> (first | exact Bk.cell BkC.out rfl | (simp [go_sem]; done))) (first | (go_at_call 16; (with_reducible refine Calls.mono (k0 _) ?_); rintro e wc ⟨rfl, rfl⟩) | (go_at_call 20; (with_reducible refine Calls.mono (k1 _) ?_); rintro e wc ⟨rfl, rfl⟩) | (go_at_call 16; (with_reducible refine Calls.mono (k2 _) ?_); rintro e wc ⟨rfl, rfl⟩) | (go_at_call 15; (with_reducible refine Calls.mono (k3 _) ?_); rintro e wc ⟨rfl, rfl⟩))
          go_wp2_with ((go_at_call 21; (with_reducible refine Calls.mono (k4 _) ?_); rintro e wc ⟨rfl, rfl⟩))
          go_quiet (fail)
          go_wp2_with (first | (go_at_call 17; (with_reducible refine Calls.mono (cneg_any _ _ _) ?_); rintro e wc ⟨rfl, rfl⟩) | (go_at_call 22; (with_reducible refine Calls.mono (k8 _) ?_); rintro e wc ⟨rfl, rfl⟩) | (go_at_call 20; (with_reducible refine Calls.mono (k9 _) ?_); rintro e wc ⟨rfl, rfl⟩) | (go_at_call 23; (with_reducible refine Calls.mono (kn _) ?_); rintro e wc ⟨rfl, rfl⟩))
          go_region_held3 (fun W => W.cell? ⟨g, 0, none⟩ = some (.complex .f64 a.1 a.2) ∧ W.cell? ⟨g, 2, none⟩ = some (.complex .f64 c.1 c.2)) (refine ⟨?_, ?_⟩ <;> (first | exact Bk.cell BkC.out rfl | (simp [go_sem]; done))) (first | (go_at_call 24; (with_reducible refine Calls.mono (k10 _) ?_); rintro e wc ⟨rfl, rfl⟩) | (go_at_call 24; (with_reducible refine Calls.mono (k11 _) ?_); rintro e wc ⟨rfl, rfl⟩))
          go_wp2_with (first | (go_at_call 25; (with_reducible refine Calls.mono (kf1 _) ?_); rintro e wc ⟨rfl, rfl⟩) | (go_at_call 25; (with_reducible refine Calls.mono (kf2 _) ?_); rintro e wc ⟨rfl, rfl⟩) | (go_at_call 26; (with_reducible refine Calls.mono (KO.out _) ?_); rintro e wo ⟨rfl, _⟩))
          refine bodyPost_ret (results_tmp3 rfl _ _ _) rfl ?_
          exact ⟨rfl, ⟨Gr.out⟩⟩
    · cases h3
  · simp only [if_true] at h3
    obtain rfl := (Option.some.inj h3).symm
    clear h3
    cases p
    all_goals
      simp only [if_true, Bool.false_eq_true, if_false] at hs2
      subst hs2
      go_enter Tryz.func8, Tryz.ntmps8
      go_wp2_with (go_at_call 19; (with_reducible refine Calls.mono CK.out ?_); rintro e wc ⟨rfl, rfl⟩)
      go_region_held3 (fun W => W.cell? ⟨g, 0, none⟩ = some (.complex .f64 a.1 a.2) ∧ W.cell? ⟨g, 1, none⟩ = some (.complex .f64 b.1 b.2) ∧ W.cell? ⟨g, 2, none⟩ = some (.complex .f64 c.1 c.2)) (refine ⟨?_, ?_, ?_⟩ <;> (first | exact Bk.cell BkC.out rfl | (simp [go_sem]; done))) (first | (go_at_call 16; (with_reducible refine Calls.mono (k0 _) ?_); rintro e wc ⟨rfl, rfl⟩) | (go_at_call 20; (with_reducible refine Calls.mono (k1 _) ?_); rintro e wc ⟨rfl, rfl⟩) | (go_at_call 16; (with_reducible refine Calls.mono (k2 _) ?_); rintro e wc ⟨rfl, rfl⟩) | (go_at_call 15; (with_reducible refine Calls.mono (k3 _) ?_); rintro e wc ⟨rfl, rfl⟩))
      go_wp2_with ((go_at_call 21; (with_reducible refine Calls.mono (k4 _) ?_); rintro e wc ⟨rfl, rfl⟩))
      go_quiet (fail)
      go_wp2_with (first | (go_at_call 17; (with_reducible refine Calls.mono (cneg_any _ _ _) ?_); rintro e wc ⟨rfl, rfl⟩) | (go_at_call 22; (with_reducible refine Calls.mono (k8 _) ?_); rintro e wc ⟨rfl, rfl⟩) | (go_at_call 20; (with_reducible refine Calls.mono (k9 _) ?_); rintro e wc ⟨rfl, rfl⟩) | (go_at_call 23; (with_reducible refine Calls.mono (kn _) ?_); rintro e wc ⟨rfl, rfl⟩))
      refine bodyPost_ret (results_tmp3 rfl _ _ _) rfl ?_
      exact ⟨rfl, ⟨Gr.out⟩⟩
end
end Go.Proofs.YtcoillcppmibgaaGreatDoor
