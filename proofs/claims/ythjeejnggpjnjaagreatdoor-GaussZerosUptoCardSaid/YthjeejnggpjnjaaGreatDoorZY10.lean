/- A part: AI, AJ, AK. -/
import Derived.Test.YthjeejnggpjnjaaGreatDoorZY09
set_option linter.unusedSimpArgs false
set_option linter.unusedVariables false
set_option maxRecDepth 100000
set_option maxHeartbeats 16000000
set_option synthInstance.maxHeartbeats 2000000
set_option synthInstance.maxSize 100000
namespace Go.Proofs.YthjeejnggpjnjaaGreatDoor
open Go.RowKit
theorem D_sw : Ieee.double.signWeight = 9223372036854775808 := by decide
theorem D_bin : Ieee.double.binade = 4503599627370496 := by decide
theorem D_inf : Ieee.double.infRung = 9218868437227405312 := by decide
theorem D_least : Ieee.double.leastPlace = -1074 := by decide
theorem D_fb : Ieee.double.fractionBits = 52 := rfl
theorem fread_norm (x : Nat) (h1 : 4503599627370496 ≤ x) (h2 : x < 9218868437227405312) : Ieee.double.read x = .number false (4503599627370496 + x % 4503599627370496) (-1074 + ((x / 4503599627370496 - 1 : Nat) : Int)) := by
 unfold Ieee.Format.read; simp only [D_sw, D_bin, D_inf, D_least]; rw [Nat.mod_eq_of_lt (by omega : x < 9223372036854775808), if_neg (by omega), if_pos h2, show x / 9223372036854775808 = 0 by omega]
 rfl
theorem fread_sub (x : Nat) (h2 : x < 4503599627370496) : Ieee.double.read x = .number false x (-1074) := by
 unfold Ieee.Format.read; simp only [D_sw, D_bin, D_inf, D_least]; rw [Nat.mod_eq_of_lt (by omega : x < 9223372036854775808), if_pos h2, show x / 9223372036854775808 = 0 by omega]
 rfl
theorem word_false (x : Nat) : Ieee.double.word false x = x := rfl
theorem log2_of {n L : Nat} (h1 : 2 ^ L ≤ n) (h2 : n < 2 ^ (L + 1)) : n.log2 = L := by
 have h0 : n ≠ 0 := by have := Nat.pow_pos (n := L) (show 0 < 2 by decide); omega
 have a := (Nat.le_log2 h0).2 h1; have b := (Nat.log2_lt h0).2 h2; omega
theorem cut_exact (neg : Bool) (n s : Nat) (hn : 0 < n) : Ieee.Toward.even.cut neg (n * 2 ^ s) s = n := by
 unfold Ieee.Toward.cut
 have hl : s ≤ (n * 2 ^ s).log2 := by
  refine (Nat.le_log2 (Nat.mul_ne_zero (by omega) (Nat.pos_iff_ne_zero.1 (Nat.pow_pos (by decide))))).2 ?_
  exact Nat.le_mul_of_pos_left _ hn
 rw [Nat.min_eq_left (by omega), Nat.one_shiftLeft]
 have hp : 0 < 2 ^ s := Nat.pow_pos (by decide)
 dsimp only
 rw [Nat.mul_div_cancel _ hp, Nat.mul_mod_left]
 simp
theorem near_down (neg : Bool) (n s : Nat) (p : Int) (hn : 0 < n) (h : max (p + ((n * 2 ^ s).log2 : Nat) - 52) (-1074) = p + (s : Int)) :
 Ieee.double.nearest neg (n * 2 ^ s) p = Ieee.double.word neg (min ((p + s + 1074).toNat * 4503599627370496 + n) 9218868437227405312) := by
 unfold Ieee.Format.nearest; rw [if_neg (Nat.mul_ne_zero (by omega) (Nat.pos_iff_ne_zero.1 (Nat.pow_pos (by decide))))]
 simp only [D_least, D_bin, D_inf, D_fb]; rw [show ((52 : Nat) : Int) = 52 from rfl, h, show (p - (p + (s : Int))).toNat = 0 by omega, Nat.shiftLeft_zero, show (p + (s : Int) - p).toNat = s by omega, cut_exact neg n s hn, show p + (s : Int) - -1074 = p + s + 1074 by omega]
theorem near_up (neg : Bool) (n s : Nat) (p : Int) (hn : 0 < n) (h : max (p + (n.log2 : Nat) - 52) (-1074) = p - (s : Int)) :
 Ieee.double.nearest neg n p = Ieee.double.word neg (min ((p - s + 1074).toNat * 4503599627370496 + n * 2 ^ s) 9218868437227405312) := by
 unfold Ieee.Format.nearest; rw [if_neg (by omega)]
 simp only [D_least, D_bin, D_inf, D_fb]; have e := cut_exact neg (n * 2 ^ s) 0 (Nat.mul_pos hn (Nat.pow_pos (by decide)))
 rw [Nat.pow_zero, Nat.mul_one] at e; rw [show ((52 : Nat) : Int) = 52 from rfl, h, show (p - (p - (s : Int))).toNat = s by omega, Nat.shiftLeft_eq, show (p - (s : Int) - p).toNat = 0 by omega, e, show p - (s : Int) - -1074 = p - s + 1074 by omega]
theorem float_nat (n : Nat) (h1 : 1 ≤ n) (h2 : n ≤ 9007199254740992) : ∃ L f : Nat, Ieee.double.nearest false n 0 = (L + 1023) * 4503599627370496 + f ∧ f < 4503599627370496 ∧ L ≤ 53 ∧ n * 4503599627370496 = (4503599627370496 + f) * 2 ^ L := by
 rcases Nat.lt_or_eq_of_le h2 with h | h
 · obtain ⟨L, hL⟩ : ∃ L, L = n.log2 := ⟨_, rfl⟩; have a1 : 2 ^ L ≤ n := by rw [hL]; exact Nat.log2_self_le (by omega)
   have a2 : n < 2 ^ (L + 1) := by rw [hL]; exact Nat.lt_log2_self
   have hL2 : L ≤ 52 := by
    have h3 : 2 ^ L < 2 ^ 53 := Nat.lt_of_le_of_lt a1 h; have := (Nat.pow_lt_pow_iff_right (by decide : 1 < 2)).1 h3
    omega
   obtain ⟨s, hs⟩ : ∃ s, s + L = 52 := ⟨52 - L, by omega⟩
   have e : (2 : Nat) ^ s * 2 ^ L = 4503599627370496 := by rw [← Nat.pow_add, hs]
   have b1 : 4503599627370496 ≤ n * 2 ^ s := by rw [← e, Nat.mul_comm]; exact Nat.mul_le_mul_right _ a1
   have b2 : n * 2 ^ s < 9007199254740992 := by
    have : n * 2 ^ s < 2 ^ (L + 1) * 2 ^ s := Nat.mul_lt_mul_of_pos_right a2 (Nat.pow_pos (by decide))
    rwa [← Nat.pow_add, show L + 1 + s = 53 by omega] at this
   have hs2 : (0 : Int) - (s : Int) + 1074 = ((L + 1022 : Nat) : Int) := by clear b1 b2 e a1 a2; omega
   have hm : max ((0 : Int) + (L : Int) - 52) (-1074) = 0 - (s : Int) := by clear b1 b2 e a1 a2; omega
   have k := near_up false n s 0 h1 (by rw [← hL]; exact hm)
   rw [hs2, Int.toNat_natCast] at k; have k2 : n * 4503599627370496 = n * 2 ^ s * 2 ^ L := by rw [Nat.mul_assoc, e]
   clear e a1 a2; generalize n * 2 ^ s = m at *; refine ⟨L, m - 4503599627370496, ?_, by omega, by omega, ?_⟩
   · rw [k]; rw [word_false]; clear k k2; omega
   · rw [show 4503599627370496 + (m - 4503599627370496) = m by omega, k2]
 · subst h; refine ⟨53, 0, ?_, by omega, by omega, by omega⟩
   rw [show (9007199254740992 : Nat) = 4503599627370496 * 2 ^ 1 from rfl]
   have hl : (4503599627370496 * 2 ^ 1).log2 = 53 := log2_of (by omega) (by omega)
   rw [near_down false 4503599627370496 1 0 (by omega) (by rw [hl]; omega)]
   rw [word_false]; rw [show ((0 : Int) + ((1 : Nat) : Int) + 1074).toNat = 1075 from rfl]
   omega
theorem fmul_one (x : Nat) (h1 : 4503599627370496 ≤ x) (h2 : x < 9218868437227405312) : Ieee.double.mul 4607182418800017408 x = some x := by
 unfold Ieee.Format.mul; rw [fread_norm x h1 h2, fread_norm 4607182418800017408 (by decide) (by decide)]
 simp only [Ieee.Datum.product, Option.map_some, Ieee.Format.write, Bool.xor_self]; rw [show 4503599627370496 + 4607182418800017408 % 4503599627370496 = 2 ^ 52 by decide, Nat.mul_comm]
 have hl : ((4503599627370496 + x % 4503599627370496) * 2 ^ 52).log2 = 104 := log2_of (by omega) (by omega)
 rw [near_down _ _ _ _ (by omega) (by rw [hl]; omega)]
 congr 1
 rw [word_false]; rw [show (-1074 + ((4607182418800017408 / 4503599627370496 - 1 : Nat) : Int) + (-1074 + ((x / 4503599627370496 - 1 : Nat) : Int)) + ((52 : Nat) : Int) + 1074).toNat = x / 4503599627370496 - 1 by omega]
 omega
theorem fmul_least (L f n : Nat) (hf : f < 4503599627370496) (hL : L < 52) (hn : n * 4503599627370496 = (4503599627370496 + f) * 2 ^ L) : Ieee.double.mul 4368491638549381120 ((L + 2) * 4503599627370496 + f) = some n := by
 unfold Ieee.Format.mul; rw [fread_norm ((L + 2) * 4503599627370496 + f) (by omega) (by omega), fread_norm 4368491638549381120 (by decide) (by decide)]
 simp only [Ieee.Datum.product, Option.map_some, Ieee.Format.write, Bool.xor_self]; rw [show 4503599627370496 + 4368491638549381120 % 4503599627370496 = 4503599627370496 by decide, show ((L + 2) * 4503599627370496 + f) % 4503599627370496 = f by omega, show ((L + 2) * 4503599627370496 + f) / 4503599627370496 - 1 = L + 1 by omega]
 obtain ⟨s, hs⟩ : ∃ s, s + L = 52 := ⟨52 - L, by omega⟩
 have e : (2 : Nat) ^ s * 2 ^ L = 4503599627370496 := by rw [← Nat.pow_add, hs]
 have p0 : 0 < 2 ^ L := Nat.pow_pos (by decide)
 have hn2 : n * 2 ^ s = 4503599627370496 + f := by
  refine Nat.eq_of_mul_eq_mul_right p0 ?_
  rw [Nat.mul_assoc, e, hn]
 have hn0 : 0 < n := by
  rcases Nat.eq_zero_or_pos n with h | h
  · subst h; omega
  · exact h
 have e2 : 4503599627370496 * (4503599627370496 + f) = n * 2 ^ (52 + s) := by
  rw [← hn2, Nat.pow_add, show (2 : Nat) ^ 52 = 4503599627370496 from rfl, ← Nat.mul_assoc, ← Nat.mul_assoc, Nat.mul_comm n]
 have hl : (n * 2 ^ (52 + s)).log2 = 104 := by rw [← e2]; exact log2_of (by omega) (by omega)
 have hnn : n < 4503599627370496 := by
  have h3 : n * 4503599627370496 < 9007199254740992 * 2 ^ 51 := by
   rw [hn]; have : 2 ^ L ≤ 2 ^ 51 := Nat.pow_le_pow_right (by decide) (by omega)
   exact Nat.mul_lt_mul_of_lt_of_le (by omega) this (by decide)
  clear hn hn2 e e2 hl; omega
 have hm : max ((-1074 : Int) + ((4368491638549381120 / 4503599627370496 - 1 : Nat) : Int) + (-1074 + ((L + 1 : Nat) : Int)) + ((104 : Nat) : Int) - 52) (-1074) = (-1074 : Int) + ((4368491638549381120 / 4503599627370496 - 1 : Nat) : Int) + (-1074 + ((L + 1 : Nat) : Int)) + ((52 + s : Nat) : Int) := by
  clear hn hn2 e e2 hl; omega
 have hm2 : ((-1074 : Int) + ((4368491638549381120 / 4503599627370496 - 1 : Nat) : Int) + (-1074 + ((L + 1 : Nat) : Int)) + ((52 + s : Nat) : Int) + 1074).toNat = 0 := by
  clear hn hn2 e e2 hl hm; omega
 have k := near_down false n (52 + s) _ hn0 (by rw [hl]; exact hm)
 rw [e2, k, hm2, word_false, Nat.zero_mul, Nat.zero_add, Nat.min_eq_left (by omega)]
theorem int_cmp_lt {a b : Nat} (h : a < b) : compare (a : Int) (b : Int) = .lt := by
 simp only [compare, compareOfLessAndEq]; rw [if_pos (by omega)]
theorem int_cmp_gt {a b : Nat} (h : b < a) : compare (a : Int) (b : Int) = .gt := by
 simp only [compare, compareOfLessAndEq]; rw [if_neg (by omega), if_neg (by omega)]
theorem int_cmp_eq (a : Nat) : compare (a : Int) (a : Int) = .eq := by
 simp only [compare, compareOfLessAndEq]; rw [if_neg (by omega)]; simp
theorem forder (x y : Nat) (hx : x < 9218868437227405312) (hy : y < 9218868437227405312) : Ieee.double.order x y = some (if x < y then .lt else if y < x then .gt else .eq) := by
 have rd : ∀ x, x < 9218868437227405312 → ∃ q m : Nat, Ieee.double.read x = .number false m (-1074 + (q : Int)) ∧ x = q * 4503599627370496 + m ∧ m < 9007199254740992 ∧ (0 < q → 4503599627370496 ≤ m) := by
  intro x hx; by_cases h : x < 4503599627370496
  · exact ⟨0, x, by rw [fread_sub x h]; rfl, by omega, by omega, by omega⟩
  · exact ⟨x / 4503599627370496 - 1, 4503599627370496 + x % 4503599627370496, fread_norm x (by omega) hx, by omega, by omega, by omega⟩
 obtain ⟨q, m, h1, h2, h3, h4⟩ := rd x hx; obtain ⟨r, n, k1, k2, k3, k4⟩ := rd y hy; unfold Ieee.Format.order; rw [h1, k1]; simp only [Ieee.Datum.order, Ieee.signed, Bool.false_eq_true, if_false]
 congr 1
 rcases Nat.lt_trichotomy q r with hq | hq | hq
 · rw [show (-1074 + (q : Int) - min (-1074 + (q : Int)) (-1074 + (r : Int))).toNat = 0 by omega, show (-1074 + (r : Int) - min (-1074 + (q : Int)) (-1074 + (r : Int))).toNat = (r - q - 1) + 1 by omega, Nat.shiftLeft_zero, Nat.shiftLeft_eq, Nat.pow_succ]
   have p : 1 ≤ 2 ^ (r - q - 1) := Nat.pow_pos (by decide)
   have e : n * (2 ^ (r - q - 1) * 2) = 2 * n * 2 ^ (r - q - 1) := by rw [Nat.mul_comm (2 ^ _) 2, ← Nat.mul_assoc, Nat.mul_comm n 2]
   have e2 : 2 * n * 1 ≤ 2 * n * 2 ^ (r - q - 1) := Nat.mul_le_mul_left _ p; rw [int_cmp_lt (by rw [e]; omega), if_pos (by omega)]
 · subst hq; rw [show (-1074 + (q : Int) - min (-1074 + (q : Int)) (-1074 + (q : Int))).toNat = 0 by omega, Nat.shiftLeft_zero, Nat.shiftLeft_zero]
   rcases Nat.lt_trichotomy m n with h | h | h
   · rw [int_cmp_lt h, if_pos (by omega)]
   · subst h; rw [int_cmp_eq, if_neg (by omega), if_neg (by omega)]
   · rw [int_cmp_gt h, if_neg (by omega), if_pos (by omega)]
 · rw [show (-1074 + (r : Int) - min (-1074 + (q : Int)) (-1074 + (r : Int))).toNat = 0 by omega, show (-1074 + (q : Int) - min (-1074 + (q : Int)) (-1074 + (r : Int))).toNat = (q - r - 1) + 1 by omega, Nat.shiftLeft_zero, Nat.shiftLeft_eq, Nat.pow_succ]
   have p : 1 ≤ 2 ^ (q - r - 1) := Nat.pow_pos (by decide)
   have e : m * (2 ^ (q - r - 1) * 2) = 2 * m * 2 ^ (q - r - 1) := by rw [Nat.mul_comm (2 ^ _) 2, ← Nat.mul_assoc, Nat.mul_comm m 2]
   have e2 : 2 * m * 1 ≤ 2 * m * 2 ^ (q - r - 1) := Nat.mul_le_mul_left _ p; rw [int_cmp_gt (by rw [e]; omega), if_neg (by omega), if_pos (by omega)]
theorem andNot63 (p : Nat) (hp : p < 18446744073709551616) : bits BinOp.andNot IntKind.u64 (p : Int) 9223372036854775808 = ((p % 9223372036854775808 : Nat) : Int) := by
 have h := u64_andNot_nat p 9223372036854775808 hp (by decide)
 rw [show 18446744073709551615 - 9223372036854775808 = 2 ^ 63 - 1 by decide, Nat.and_two_pow_sub_one_eq_mod] at h
 exact h
theorem and63 {p : Nat} (h : p < 2 ^ 63) : p &&& 2 ^ 63 = 0 := by
 apply Nat.eq_of_testBit_eq
 intro i; rw [Nat.testBit_and, Nat.testBit_two_pow, Nat.zero_testBit]; by_cases e : 63 = i
 · subst e; rw [Nat.testBit_lt_two_pow h]; rfl
 · simp [e]
theorem andNotE (p : Nat) (hp : p < 9223372036854775808) : bits BinOp.andNot IntKind.u64 (p : Int) 9218868437227405312 = ((p % 4503599627370496 : Nat) : Int) := by
 have h := u64_andNot_nat p 9218868437227405312 (by omega) (by decide)
 rw [show 18446744073709551615 - 9218868437227405312 = 2 ^ 63 ||| (2 ^ 52 - 1) by decide, Nat.and_or_distrib_left, and63 (show p < 2 ^ 63 from hp), Nat.and_two_pow_sub_one_eq_mod, Nat.zero_or] at h
 exact h
theorem orE (f e : Nat) (hf : f < 4503599627370496) (he : e < 2048) : bits BinOp.or IntKind.u64 (f : Int) ((e : Int) * 4503599627370496) = ((e * 4503599627370496 + f : Nat) : Int) := by
 have h := u64_or_nat f (e * 4503599627370496) (by omega) (by omega)
 have k := Nat.two_pow_add_eq_or_of_lt (i := 52) (show f < 2 ^ 52 from hf) e
 rw [Nat.or_comm] at h; rw [show (2 : Nat) ^ 52 = 4503599627370496 from rfl, Nat.mul_comm] at k
 rw [← k, Int.natCast_mul] at h; exact h
theorem fabs_any (x : Nat) (hx : x < 18446744073709551616) (w : World) : Calls Tryz.prog 127 #[.float .f64 x] w fun e w' => e = .returned (.float .f64 (x % 9223372036854775808)) ∧ w' = w := by
 have h1 := andNot63 x hx; have h2 : (((x % 9223372036854775808 : Nat) : Int)).toNat = x % 9223372036854775808 := by omega
 generalize x % 9223372036854775808 = y at *; go_enter Tryz.func127, Tryz.ntmps127; go_wp2_with fail
 go_ret
 exact ⟨rfl, rfl⟩
theorem isinf_any (x : Nat) (hx : x < 18446744073709551616) (w : World) : Calls Tryz.prog 180 #[.float .f64 x, .int .i64 0] w fun e w' => e = .returned (.bool (Ieee.double.order (x % 9223372036854775808) 9218868437227405311 == some .gt)) ∧ w' = w := by
 have A := fabs_any x hx w; go_enter Tryz.func180, Tryz.ntmps180; go_wp2_with (go_at_call 127; (with_reducible refine A.mono ?_); rintro e w' ⟨rfl, hw⟩; obtain rfl := hw.symm)
 go_ret
 exact ⟨rfl, rfl⟩
theorem isinf_no (x : Nat) (hx : x < 9218868437227405312) (w : World) : Calls Tryz.prog 180 #[.float .f64 x, .int .i64 0] w fun e w' => e = .returned (.bool false) ∧ w' = w := by
 refine (isinf_any x (by omega) w).mono ?_
 rintro e w' ⟨rfl, rfl⟩; rw [Nat.mod_eq_of_lt (by omega), forder x 9218868437227405311 hx (by decide)]
 refine ⟨?_, rfl⟩
 split
 · rfl
 · rw [if_neg (by omega)]; rfl
theorem isnan_no (x : Nat) (hx : x < 9218868437227405312) (w : World) : Calls Tryz.prog 237 #[.float .f64 x] w fun e w' => e = .returned (.bool false) ∧ w' = w := by
 have h : Ieee.double.order x x = some .eq := by rw [forder x x hx hx, if_neg (by omega), if_neg (by omega)]
 have h2 : (FloatKind.f64.format.order x x != some Ordering.eq) = false := by
  show (Ieee.double.order x x != some Ordering.eq) = false
  rw [h]; rfl
 have h3 : (FloatKind.f64.format.order x x == some Ordering.eq) = true := by
  show (Ieee.double.order x x == some Ordering.eq) = true
  rw [h]; rfl
 clear h; go_enter Tryz.func237, Tryz.ntmps237; go_wp2_with fail
 go_ret
 exact ⟨rfl, rfl⟩
theorem normal_any (x : Nat) (h1 : 4503599627370496 ≤ x) (hx : x < 9218868437227405312) (w : World) : Calls Tryz.prog 238 #[.float .f64 x] w fun e w' => e = .returned (.tuple #[.float .f64 x, .int .i64 0]) ∧ w' = w := by
 have A := fabs_any x (by omega) w
 rw [Nat.mod_eq_of_lt (by omega)] at A
 have h2 : (FloatKind.f64.format.order x 4503599627370496 == some Ordering.lt) = false := by
  show (Ieee.double.order x 4503599627370496 == some Ordering.lt) = false
  rw [forder x _ hx (by decide), if_neg (by omega)]
  split <;> rfl
 go_enter Tryz.func238, Tryz.ntmps238; go_wp2_with (go_at_call 127; (with_reducible refine A.mono ?_); rintro e w' ⟨rfl, hw⟩; obtain rfl := hw.symm)
 go_ret2
 exact ⟨rfl, rfl⟩
theorem i64_2047 (a : Nat) (h : a < 2048) : bits BinOp.and IntKind.i64 (a : Int) 2047 = a := by
 show IntKind.i64.wrap ((BitVec.ofInt 64 (a : Int) &&& BitVec.ofInt 64 ((2047 : Nat) : Int)).toNat : Int) = _
 rw [BitVec.toNat_and, ofInt_u64 a (by omega), ofInt_u64 2047 (by decide), show (2047 : Nat) = 2 ^ 11 - 1 by decide, Nat.and_two_pow_sub_one_eq_mod, Nat.mod_eq_of_lt (by omega), IntKind.wrap_i64]
 omega
theorem ldexp_any (n : Nat) (u : Int) (h1 : 1 ≤ n) (h2 : n ≤ 9007199254740992) (hu : -1074 ≤ u) (hu2 : u < 4611686018427387904) (hn : u = -1074 ∨ 4503599627370496 ≤ n) (w : World) :
 Calls Tryz.prog 220 #[.float .f64 (Ieee.double.nearest false n 0), .int .i64 u] w fun e w' => e = .returned (.float .f64 (min (n + (u + 1074).toNat * 4503599627370496) 9218868437227405312)) ∧ w' = w := by
 obtain ⟨L, f, hX, hf, hL, hv⟩ := float_nat n h1 h2; obtain ⟨X, hXe⟩ : ∃ X, X = Ieee.double.nearest false n 0 := ⟨_, rfl⟩; rw [← hXe] at hX ⊢; have X1 : 4503599627370496 ≤ X := by omega
 have X2 : X < 9218868437227405312 := by omega
 have I := isinf_no X X2 w; have NN := isnan_no X X2 w; have NO := normal_any X X1 X2 w; have o1 : Ieee.double.order X 0 = some .gt := by rw [forder X 0 X2 (by decide), if_neg (by omega), if_pos (by omega)]
 have q1 : (FloatKind.f64.format.order X 0 == some Ordering.eq) = false := by
  show (Ieee.double.order X 0 == some Ordering.eq) = false
  rw [o1]; rfl
 have q2 : (FloatKind.f64.format.order X 0 == some Ordering.lt) = false := by
  show (Ieee.double.order X 0 == some Ordering.lt) = false
  rw [o1]; rfl
 have d1 : (X : Int) / 4503599627370496 = (L : Int) + 1023 := by omega
 have a1 : bits BinOp.and IntKind.i64 ((L : Int) + 1023) 2047 = (L : Int) + 1023 := by
  exact i64_2047 (L + 1023) (by omega)
 have a2 := andNotE X (by omega)
 rw [show X % 4503599627370496 = f by omega] at a2
 have INF : ∀ w : World, Calls Tryz.prog 240 #[.int .i64 1] w fun e w' => e = .returned (.float .f64 9218868437227405312) ∧ w' = w := by
  intro w; go_enter Tryz.func240, Tryz.ntmps240; go_wp2_with fail
  go_ret
  exact ⟨rfl, rfl⟩
 obtain ⟨r, hr⟩ : ∃ r, r = min (n + (u + 1074).toNat * 4503599627370496) 9218868437227405312 := ⟨_, rfl⟩; rw [← hr]; clear o1 hXe
 have hn3 : 4503599627370496 ≤ n → (L = 52 ∧ n = 4503599627370496 + f) ∨ (L = 53 ∧ f = 0 ∧ n = 9007199254740992) := by
  intro h; have p52 : (2 : Nat) ^ 52 = 4503599627370496 := rfl; have p53 : (2 : Nat) ^ 53 = 9007199254740992 := rfl
  have h3 : 52 ≤ L := by
   rcases Nat.lt_or_ge L 52 with h4 | h4
   · exfalso
     have h5 : 2 ^ L ≤ 2 ^ 51 := Nat.pow_le_pow_right (by decide) (by omega)
     have h6 : (4503599627370496 + f) * 2 ^ L ≤ (4503599627370496 + f) * 2 ^ 51 := Nat.mul_le_mul_left _ h5; rw [← hv, show (2 : Nat) ^ 51 = 2251799813685248 from rfl] at h6
     clear hv h5; omega
   · exact h4
  rcases (show L = 52 ∨ L = 53 by omega) with rfl | rfl
  · rw [p52] at hv; omega
  · rw [p53] at hv; omega
 have hu3 : u + L < -1022 → u = -1074 ∧ L < 52 := by
  intro h; rcases hn with rfl | h4
  · exact ⟨rfl, by omega⟩
  · rcases hn3 h4 with h5 | h5 <;> omega
 have hr2 : r = if 1023 < u + L then 9218868437227405312 else if u + L < -1022 then n else (u + L + 1023).toNat * 4503599627370496 + f := by
  have hn4 : u + L < -1022 → n < 4503599627370496 := by
   intro h; rcases Nat.lt_or_ge n 4503599627370496 with h4 | h4
   · exact h4
   · have := hu3 h; rcases hn3 h4 with h5 | h5 <;> omega
  have hn5 : ¬ u + L < -1022 → 4503599627370496 ≤ n := by
   intro h; rcases hn with rfl | h4
   · rcases Nat.lt_or_ge n 4503599627370496 with h4 | h4
     · exfalso
       have h5 : 2 ^ 52 ≤ 2 ^ L := Nat.pow_le_pow_right (by decide) (by omega)
       have h6 : 4503599627370496 * 2 ^ 52 ≤ (4503599627370496 + f) * 2 ^ L := Nat.mul_le_mul (by omega) h5
       rw [← hv, show (2 : Nat) ^ 52 = 4503599627370496 from rfl] at h6
       clear hv h5; omega
     · exact h4
   · exact h4
  clear hv; rw [hr]
  split
  · rename_i h; have h4 := hn5 (by omega); rcases hn3 h4 with h5 | h5 <;> omega
  · split
    · rename_i h; have h4 := hu3 h; have h5 := hn4 h; omega
    · rename_i h; have h4 := hn5 h; rcases hn3 h4 with h5 | h5 <;> omega
 have ML : u + L < -1022 → Ieee.double.mul 4368491638549381120 ((L + 2) * 4503599627370496 + f) = some n := fun h => fmul_least L f n hf (hu3 h).2 hv
 clear hr hn3 hv hn hX; by_cases hA : 1023 < u + L
 · rw [if_pos hA] at hr2; subst hr2; clear ML hu3; go_enter Tryz.func220, Tryz.ntmps220; go_wp2_with (first | (go_at_call 180; (with_reducible refine I.mono ?_); rintro e w' ⟨rfl, hw⟩; obtain rfl := hw.symm) | (go_at_call 237; (with_reducible refine NN.mono ?_); rintro e w' ⟨rfl, hw⟩; obtain rfl := hw.symm) | (go_at_call 238; (with_reducible refine NO.mono ?_); rintro e w' ⟨rfl, hw⟩; obtain rfl := hw.symm) | (go_at_call 240; (with_reducible refine (INF _).mono ?_); rintro e w' ⟨rfl, hw⟩; obtain rfl := hw.symm))
   go_ret
   exact ⟨rfl, rfl⟩
 · rw [if_neg hA] at hr2; by_cases hC : u + L < -1022
   · rw [if_pos hC] at hr2; have M1 := ML hC; have hu4 := hu3 hC; subst hr2; obtain ⟨E, hE⟩ : ∃ E : Nat, E = L + 2 := ⟨_, rfl⟩; have oE := orE f E hf (by omega)
     rw [hE] at oE; obtain ⟨Y, hY⟩ : ∃ Y, Y = (L + 2) * 4503599627370496 + f := ⟨_, rfl⟩; rw [← hY] at M1 oE; rw [← hE] at oE; have hE3 : u + (L : Int) + 53 + 1023 = (E : Int) := by omega
     have k1 := fun w => run_float_arith (P := Tryz.prog) w .mul 56 .f64 _ _ _ M1
     have hE2 : E < 2048 := by omega
     clear ML hu3 M1 hu4 hE hY; go_enter Tryz.func220, Tryz.ntmps220; go_wp2_with (first | (go_at_call 180; (with_reducible refine I.mono ?_); rintro e w' ⟨rfl, hw⟩; obtain rfl := hw.symm) | (go_at_call 237; (with_reducible refine NN.mono ?_); rintro e w' ⟨rfl, hw⟩; obtain rfl := hw.symm) | (go_at_call 238; (with_reducible refine NO.mono ?_); rintro e w' ⟨rfl, hw⟩; obtain rfl := hw.symm))
     go_ret
     exact ⟨rfl, rfl⟩
   · rw [if_neg hC] at hr2; obtain ⟨E, hE⟩ : ∃ E : Nat, u + (L : Int) + 1023 = (E : Int) := ⟨(u + L + 1023).toNat, by omega⟩
     rw [hE, Int.toNat_natCast] at hr2; have hE2 : E < 2048 := by omega
     have oE := orE f E hf hE2; rw [← hr2] at oE; have M1 : Ieee.double.mul 4607182418800017408 r = some r := fmul_one r (by omega) (by omega)
     have k1 := fun w => run_float_arith (P := Tryz.prog) w .mul 56 .f64 _ _ _ M1
     clear hr2 ML hu3 M1; go_enter Tryz.func220, Tryz.ntmps220; go_wp2_with (first | (go_at_call 180; (with_reducible refine I.mono ?_); rintro e w' ⟨rfl, hw⟩; obtain rfl := hw.symm) | (go_at_call 237; (with_reducible refine NN.mono ?_); rintro e w' ⟨rfl, hw⟩; obtain rfl := hw.symm) | (go_at_call 238; (with_reducible refine NO.mono ?_); rintro e w' ⟨rfl, hw⟩; obtain rfl := hw.symm))
     go_ret
     exact ⟨rfl, rfl⟩
theorem Ldexp_any (n : Nat) (u : Int) (h1 : 1 ≤ n) (h2 : n ≤ 9007199254740992) (hu : -1074 ≤ u) (hu2 : u < 4611686018427387904) (hn : u = -1074 ∨ 4503599627370496 ≤ n) (w : World) :
 Calls Tryz.prog 179 #[.float .f64 (Ieee.double.nearest false n 0), .int .i64 u] w fun e w' => e = .returned (.float .f64 (min (n + (u + 1074).toNat * 4503599627370496) 9218868437227405312)) ∧ w' = w := by
 have A := ldexp_any n u h1 h2 hu hu2 hn w; obtain ⟨r, hr⟩ : ∃ r, r = min (n + (u + 1074).toNat * 4503599627370496) 9218868437227405312 := ⟨_, rfl⟩; rw [← hr] at A ⊢; clear hr hn h1 h2 hu hu2; go_enter Tryz.func179, Tryz.ntmps179; go_wp2_with (go_at_call 220; (with_reducible refine A.mono ?_); rintro e w' ⟨rfl, hw⟩; obtain rfl := hw.symm)
 go_ret
 exact ⟨rfl, rfl⟩
def nunit (a d : Nat) : Int := max ((bl a : Int) - bl d - 53) (-1074)
def nA (a d : Nat) : Nat := a * 2 ^ (-nunit a d).toNat
def nD (a d : Nat) : Nat := d * 2 ^ (nunit a d).toNat
def nround (n : Nat) (ex : Bool) (c : Int) (u : Int) : Nat × Int :=
 if 9007199254740992 ≤ n then (n / 2 + (decide (n % 2 = 1) && (!ex || decide (n / 2 % 2 = 1))).toNat, u + 1)
 else (n + (decide (0 < c) || (decide (c = 0) && decide (n % 2 = 1))).toNat, u)
def nearN (a d : Nat) : Nat × Int := nround (nA a d / nD a d) (decide (nA a d % nD a d = 0)) (cmpN (nA a d % nD a d * 2) (nD a d)) (nunit a d)
def nfin (a d : Nat) : Nat := if (nearN a d).1 = 0 then 0 else min ((nearN a d).1 + ((nearN a d).2 + 1074).toNat * 4503599627370496) 9218868437227405312
theorem nA_lt {a d : Nat} (ha : a ≠ 0) (hd : d ≠ 0) : nA a d < 2 ^ 54 * nD a d := by
 have h1 := bl_lt a; have h2 := bl_le hd
 have hb : 0 < bl d := by
  rcases Nat.eq_zero_or_pos (bl d) with h | h
  · have := bl_lt d; rw [h] at this; simp at this; omega
  · exact h
 obtain ⟨u, hu⟩ : ∃ u, u = nunit a d := ⟨_, rfl⟩; have hu1 : (bl a : Int) - bl d - 53 ≤ u := by rw [hu]; unfold nunit; omega
 unfold nA nD; rw [← hu]
 have s1 : a * 2 ^ (-u).toNat < 2 ^ (bl a + (-u).toNat) := by
  rw [Nat.pow_add]; exact Nat.mul_lt_mul_of_pos_right h1 (Nat.pow_pos (by decide))
 have s2 : 2 ^ (54 + (bl d - 1) + u.toNat) ≤ 2 ^ 54 * (d * 2 ^ u.toNat) := by
  rw [Nat.pow_add, Nat.pow_add, Nat.mul_assoc]; exact Nat.mul_le_mul_left _ (Nat.mul_le_mul_right _ h2)
 refine Nat.lt_of_lt_of_le s1 (Nat.le_trans (Nat.pow_le_pow_right (by decide) ?_) s2)
 omega
theorem nA_ge {a d : Nat} (ha : a ≠ 0) (hd : d ≠ 0) (h : nunit a d ≠ -1074) : 2 ^ 52 * nD a d ≤ nA a d := by
 have h1 := bl_le ha; have h2 := bl_lt d
 have hb : 0 < bl a := by
  rcases Nat.eq_zero_or_pos (bl a) with h | h
  · have := bl_lt a; rw [h] at this; simp at this; omega
  · exact h
 obtain ⟨u, hu⟩ : ∃ u, u = nunit a d := ⟨_, rfl⟩; have hu1 : (bl a : Int) - bl d - 53 = u := by rw [hu] ; unfold nunit at h ⊢; omega
 unfold nA nD; rw [← hu]
 have s1 : 2 ^ (bl a - 1 + (-u).toNat) ≤ a * 2 ^ (-u).toNat := by
  rw [Nat.pow_add]; exact Nat.mul_le_mul_right _ h1
 have s2 : 2 ^ 52 * (d * 2 ^ u.toNat) ≤ 2 ^ (52 + bl d + u.toNat) := by
  rw [Nat.pow_add, Nat.pow_add, Nat.mul_assoc]; exact Nat.mul_le_mul_left _ (Nat.mul_le_mul_right _ (Nat.le_of_lt h2))
 refine Nat.le_trans s2 (Nat.le_trans (Nat.pow_le_pow_right (by decide) ?_) s1)
 omega
theorem nD_pos {a d : Nat} (hd : d ≠ 0) : 0 < nD a d := Nat.mul_pos (Nat.pos_of_ne_zero hd) (Nat.pow_pos (by decide))
theorem nq_lt {a d : Nat} (ha : a ≠ 0) (hd : d ≠ 0) : nA a d / nD a d < 18014398509481984 := by
 rw [Nat.div_lt_iff_lt_mul (nD_pos hd)]; exact nA_lt ha hd
theorem nq_ge {a d : Nat} (ha : a ≠ 0) (hd : d ≠ 0) (h : nunit a d ≠ -1074) : 4503599627370496 ≤ nA a d / nD a d := by
 rw [Nat.le_div_iff_mul_le (nD_pos hd)]; exact nA_ge ha hd h
theorem bl_lenW (n : Nat) : bl n ≤ 32 * (words n).length := by
 by_cases h : n = 0
 · subst h; unfold bl; simp
 · have h1 := bl_le h; have h2 := words_lt n; rw [show (4294967296 : Nat) = 2 ^ 32 from rfl, ← Nat.pow_mul] at h2
   have := (Nat.pow_lt_pow_iff_right (by decide : 1 < 2)).1 (Nat.lt_of_le_of_lt h1 h2)
   omega
theorem len_shift (n k : Nat) : (words (n * 2 ^ k)).length ≤ (words n).length + k / 32 + 1 := by
 refine words_len_le ?_
 have h := words_lt n; rw [show (4294967296 : Nat) = 2 ^ 32 from rfl, ← Nat.pow_mul] at h ⊢
 have h2 : n * 2 ^ k < 2 ^ (32 * (words n).length) * 2 ^ k := Nat.mul_lt_mul_of_pos_right h (Nat.pow_pos (by decide))
 rw [← Nat.pow_add] at h2; exact Nat.lt_of_lt_of_le h2 (Nat.pow_le_pow_right (by decide) (by omega))
theorem and1 (p : Nat) (hp : p < 18446744073709551616) : bits BinOp.and IntKind.u64 (p : Int) 1 = ((p % 2 : Nat) : Int) := by
 have h := u64_and_nat p 1 hp (by decide)
 rw [show (1 : Nat) = 2 ^ 1 - 1 by decide, Nat.and_two_pow_sub_one_eq_mod] at h
 exact h
theorem nconv (n : Nat) : floatOfInt FloatKind.f64 (n : Int) = Ieee.double.nearest false n 0 := by
 show Ieee.double.nearest (decide ((n : Int) < 0)) (n : Int).natAbs 0 = _
 rw [decide_eq_false (by omega), Int.natAbs_natCast]
def NearPost (b : Bool) (f : Nat) (w : World) (e : Ending) (w' : World) : Prop := (∃ x, e = .returned (.tuple #[.float .f64 (if b then Op.negFloat .f64 f else f), .bool x])) ∧ Below w.heap.size w w'
theorem ldexp_zero (u : Int) (w : World) : Calls Tryz.prog 179 #[.float .f64 0, .int .i64 u] w fun e w' => e = .returned (.float .f64 0) ∧ w' = w := by
 have h : (FloatKind.f64.format.order 0 0 == some Ordering.eq) = true := by decide
 have A : Calls Tryz.prog 220 #[.float .f64 0, .int .i64 u] w fun e w' => e = .returned (.float .f64 0) ∧ w' = w := by
  go_enter Tryz.func220, Tryz.ntmps220; go_wp2_with fail
  go_ret
  exact ⟨rfl, rfl⟩
 go_enter Tryz.func179, Tryz.ntmps179; go_wp2_with (go_at_call 220; (with_reducible refine A.mono ?_); rintro e w' ⟨rfl, hw⟩; obtain rfl := hw.symm)
 go_ret
 exact ⟨rfl, rfl⟩
theorem Ldexp_near (n : Nat) (u : Int) (h2 : n ≤ 9007199254740992) (hu : -1074 ≤ u) (hu2 : u < 4611686018427387904) (hn : u = -1074 ∨ 4503599627370496 ≤ n) (w : World) :
 Calls Tryz.prog 179 #[.float .f64 (Ieee.double.nearest false n 0), .int .i64 u] w fun e w' => e = .returned (.float .f64 (if n = 0 then 0 else min (n + (u + 1074).toNat * 4503599627370496) 9218868437227405312)) ∧ w' = w := by
 by_cases h0 : n = 0
 · subst h0; rw [if_pos rfl]; exact ldexp_zero u w
 · rw [if_neg h0]; exact Ldexp_any n u (by omega) h2 hu hu2 hn w
theorem neg_lt (F : Nat) (h : F < 18446744073709551616) : Op.negFloat .f64 F < 18446744073709551616 := by
 have e : Op.negFloat .f64 F = F ^^^ 2 ^ 63 := rfl; rw [e]; have := Nat.xor_lt_two_pow (n := 64) (x := F) (y := 2 ^ 63) h (Nat.pow_lt_pow_right (by decide) (by decide))
 exact this
theorem run_fneg (x : Nat) (w : World) : (Op.unary .neg (.float .f64 x)).run Tryz.prog w = .ok (.float .f64 (Op.negFloat .f64 x)) w := rfl
theorem bnearCoreN (b : Bool) (aa ad : Option Addr) (la ca ld cd k q r : Nat) (RW LQ L2 LX : List Nat) (blA blD : Nat) (u cc : Int) (ex : Bool) (F lr : Nat) (w : World)
 (q1b : q < 18014398509481984) (hu1 : -1074 ≤ u) (hu2 : u ≤ 549755813888) (hbA : blA ≤ 549755813888) (hbD : blD ≤ 549755813888) (hsg : u < 0) (hk : -u = (k : Int)) (hmax : max ((blA : Int) - blD - 53) (-1074) = u) (hc1 : -1 ≤ cc) (hc2 : cc ≤ 1)
 (BA : Hid (Calls Tryz.prog 176 #[.slice aa la ca] w fun e w' => e = .returned (.int .i64 blA) ∧ w' = w)) (BD : Hid (Calls Tryz.prog 176 #[.slice ad ld cd] w fun e w' => e = .returned (.int .i64 blD) ∧ w' = w))
 (UP : Hid (Calls Tryz.prog 157 #[.slice aa la ca, .int .i64 k] w fun e w' => ∃ v, e = .returned v ∧ Wd w' v L2 ∧ Below w.heap.size w w'))
 (DV : Hid (∀ v w', Below w.heap.size w w' → Wd w' v L2 → Calls Tryz.prog 177 #[v, .slice ad ld cd] w' fun e w'' => ∃ q' ar cr, e = .returned (.tuple #[q', .slice ar lr cr]) ∧ Wd w'' q' LQ ∧ Wd w'' (.slice ar lr cr) RW ∧ Below w'.heap.size w' w''))
 (D0 : Hid (∀ w', Below w.heap.size w w' → Wd w' (.slice ad ld cd) LX))
 (TU : Hid (∀ v w', Wd w' v LQ → Calls Tryz.prog 178 #[v] w' fun e w'' => e = .returned (.int .u64 q) ∧ w'' = w'))
 (UR : Hid (∀ v w', Wd w' v RW → Calls Tryz.prog 157 #[v, .int .i64 1] w' fun e w'' => ∃ v, e = .returned v ∧ Wd w'' v (words (r * 2)) ∧ Below w'.heap.size w' w''))
 (CM : Hid (∀ v1 v2 w', Wd w' v1 (words (r * 2)) → Wd w' v2 LX → Calls Tryz.prog 141 #[v1, v2] w' fun e w'' => e = .returned (.int .i64 cc) ∧ Drawn w' w''))
 (e0 : ((la : Int) == 0) = false) (ex0 : ((lr : Int) == 0) = ex)
 (HF : Hid (F = if (nround q ex cc u).1 = 0 then 0 else min ((nround q ex cc u).1 + ((nround q ex cc u).2 + 1074).toNat * 4503599627370496) 9218868437227405312))
 (IF : Hid (∀ w, Calls Tryz.prog 180 #[.float .f64 F, .int .i64 0] w fun e w' => e = .returned (.bool (Ieee.double.order (F % 9223372036854775808) 9218868437227405311 == some .gt)) ∧ w' = w))
 (IG : Hid (∀ w, Calls Tryz.prog 180 #[.float .f64 (Op.negFloat .f64 F), .int .i64 0] w fun e w' => e = .returned (.bool (Ieee.double.order (Op.negFloat .f64 F % 9223372036854775808) 9218868437227405311 == some .gt)) ∧ w' = w))
 (Q2 : u = -1074 ∨ 4503599627370496 ≤ q) :
 Calls Tryz.prog 125 #[.bool b, .slice aa la ca, .slice ad ld cd] w (NearPost b F w) := by
 have rn := run_fneg; obtain ⟨M0, hM0⟩ : ∃ M0, M0 = (decide (0 < cc) || (decide (cc = 0) && decide (q % 2 = 1))) := ⟨_, rfl⟩; have HM0 := hid hM0; have HMX := hid hmax; clear hM0 hmax; go_enter Tryz.func125, Tryz.ntmps125; go_upto_region 3 with fail
 go_cut [8] from 20 to 26 (fun s8 wx => s8 = .int .i64 u ∧ w = wx)
 case first =>
  go_wp2_with (first | (go_at_call 176; (with_reducible refine BA.out.mono ?_); rintro e w' ⟨rfl, hw⟩; obtain rfl := hw.symm) | (go_at_call 176; (with_reducible refine BD.out.mono ?_); rintro e w' ⟨rfl, hw⟩; obtain rfl := hw.symm))
  all_goals
   go_meet
   have HMY := HMX.out; exact ⟨congrArg (Value.int .i64) (by omega), rfl⟩
 case rest =>
  obtain ⟨rfl, rfl⟩ := hcut; go_upto_region 10 with (first | (go_at_call 157; (with_reducible refine UP.out.mono ?_); rintro e w1 ⟨v1, rfl, h1, hb1⟩) | (go_at_call 177; (with_reducible refine (DV.out _ _ hb1 h1).mono ?_); rintro e w2 ⟨vq, ar, cr, rfl, hq2, hr2, hw2⟩; have hb2 := Below.trans hb1 (below_low hw2 hb1.size); have h12 := D0.out _ hb2) | (go_at_call 178; (with_reducible refine (TU.out _ _ hq2).mono ?_); rintro e w' ⟨rfl, hw⟩; obtain rfl := hw.symm) | (go_at_call 157; (with_reducible refine (UR.out _ _ hr2).mono ?_); rintro e w3 ⟨v3, rfl, h3, hw3⟩; have hb3 := Below.trans hb2 (below_low hw3 hb2.size); have h13 := h12.below hw3) | (go_at_call 141; (with_reducible refine (CM.out _ _ _ h3 h13).mono ?_); rintro e w9 ⟨rfl, hd9⟩; have hb9 := Below.trans hb3 (below_low hd9.below hb3.size); clear hd9))
  have HB9 := hid hb9; clear hb1 hb2 hb3 hb9 h1 hq2 hr2 hw2 h12 hw3 h3 h13; go_cut [13] from 48 to 58 (fun s13 wx => s13 = .bool M0 ∧ w9 = wx)
  case first =>
   have HM := HM0.out; rcases (show cc = -1 ∨ cc = 0 ∨ cc = 1 by omega) with rfl | rfl | rfl <;> rcases Nat.mod_two_eq_zero_or_one q with hq2 | hq2
   all_goals
    have a1 := and1 q (by omega)
    rw [hq2] at a1 HM; simp only [decide_true, decide_false, Int.lt_irrefl, Bool.or_false, Bool.false_or, Bool.and_false, Bool.and_true, Bool.true_and, Bool.false_and, Nat.zero_ne_one, reduceCtorEq] at HM
    try (rw [show decide ((0 : Int) < -1) = false from rfl] at HM)
    try (rw [show decide ((0 : Int) < 1) = true from rfl] at HM)
    try (rw [show decide ((-1 : Int) = 0) = false from rfl] at HM)
    try simp at HM
    go_wp2_with fail
    go_meet
    exact ⟨by rw [HM], rfl⟩
  case rest =>
   obtain ⟨rfl, rfl⟩ := hcut; by_cases hbig : 9007199254740992 ≤ q
   · obtain ⟨q1, hq1⟩ : ∃ q1, q1 = q / 2 := ⟨_, rfl⟩; have q1e : (q : Int) / 2 = (q1 : Int) := by omega
     have hq1b : 4503599627370496 ≤ q1 := by omega
     have hq1c : q1 < 9007199254740992 := by omega
     have hbI : (9007199254740992 : Int) ≤ (q : Int) := by omega
     rcases Nat.mod_two_eq_zero_or_one q with hq2 | hq2
     · rcases Nat.mod_two_eq_zero_or_one q1 with hq3 | hq3 <;> rcases ex with _ | _
       all_goals
        have HR : Hid (F = if q1 = 0 then 0 else min (q1 + (u + 1 + 1074).toNat * 4503599627370496) 9218868437227405312) := hid (by
         have h := HF.out; unfold nround at h; rw [if_pos hbig, ← hq1] at h; simp only [hq2, hq3, decide_true, decide_false, Bool.not_true, Bool.not_false, Bool.true_and, Bool.false_and, Bool.and_true, Bool.and_false, Bool.or_true, Bool.or_false, Bool.true_or, Bool.false_or, Bool.toNat_true, Bool.toNat_false, Nat.add_zero, Nat.zero_ne_one, Nat.one_ne_zero, reduceCtorEq] at h; exact h)
        have LD := fun w => Ldexp_near (q1) (u + 1) (by omega) (by omega) (by omega) (by omega) w
        rw [← nconv, show (((q1) : Nat) : Int) = (q1 : Int) by omega, ← HR.out] at LD
        clear HR
       all_goals
        have a1 := and1 q (by omega)
        rw [hq2] at a1; have a2 := and1 q1 (by omega)
        rw [hq3] at a2; clear HF hq1; rcases b with _ | _
        all_goals
         go_wp2_with (first | (go_at_call 179; (with_reducible refine (LD _).mono ?_); rintro e w' ⟨rfl, hw⟩; obtain rfl := hw.symm) | (go_at_call 180; (with_reducible refine (IF.out _).mono ?_); rintro e w' ⟨rfl, hw⟩; obtain rfl := hw.symm) | (go_at_call 180; (with_reducible refine (IG.out _).mono ?_); rintro e w' ⟨rfl, hw⟩; obtain rfl := hw.symm))
         go_ret2
         exact ⟨⟨_, rfl⟩, HB9.out⟩
     · rcases Nat.mod_two_eq_zero_or_one q1 with hq3 | hq3 <;> rcases ex with _ | _
       all_goals first
        | (have HR : Hid (F = if q1 = 0 then 0 else min (q1 + (u + 1 + 1074).toNat * 4503599627370496) 9218868437227405312) := hid (by
            have h := HF.out; unfold nround at h; rw [if_pos hbig, ← hq1] at h; simp only [hq2, hq3, decide_true, decide_false, Bool.not_true, Bool.not_false, Bool.true_and, Bool.false_and, Bool.and_true, Bool.and_false, Bool.or_true, Bool.or_false, Bool.true_or, Bool.false_or, Bool.toNat_true, Bool.toNat_false, Nat.add_zero, Nat.zero_ne_one, Nat.one_ne_zero, reduceCtorEq] at h; exact h)
           have LD := fun w => Ldexp_near (q1) (u + 1) (by omega) (by omega) (by omega) (by omega) w
           rw [← nconv, show (((q1) : Nat) : Int) = (q1 : Int) by omega, ← HR.out] at LD
           clear HR)
        | (have HR : Hid (F = if q1 + 1 = 0 then 0 else min (q1 + 1 + (u + 1 + 1074).toNat * 4503599627370496) 9218868437227405312) := hid (by
            have h := HF.out; unfold nround at h; rw [if_pos hbig, ← hq1] at h; simp only [hq2, hq3, decide_true, decide_false, Bool.not_true, Bool.not_false, Bool.true_and, Bool.false_and, Bool.and_true, Bool.and_false, Bool.or_true, Bool.or_false, Bool.true_or, Bool.false_or, Bool.toNat_true, Bool.toNat_false, Nat.add_zero, Nat.zero_ne_one, Nat.one_ne_zero, reduceCtorEq] at h; exact h)
           have LD := fun w => Ldexp_near (q1 + 1) (u + 1) (by omega) (by omega) (by omega) (by omega) w
           rw [← nconv, show (((q1 + 1) : Nat) : Int) = (q1 : Int) + 1 by omega, ← HR.out] at LD
           clear HR)
       all_goals
        have a1 := and1 q (by omega)
        rw [hq2] at a1; have a2 := and1 q1 (by omega)
        rw [hq3] at a2; clear HF hq1; rcases b with _ | _
        all_goals
         go_wp2_with (first | (go_at_call 179; (with_reducible refine (LD _).mono ?_); rintro e w' ⟨rfl, hw⟩; obtain rfl := hw.symm) | (go_at_call 180; (with_reducible refine (IF.out _).mono ?_); rintro e w' ⟨rfl, hw⟩; obtain rfl := hw.symm) | (go_at_call 180; (with_reducible refine (IG.out _).mono ?_); rintro e w' ⟨rfl, hw⟩; obtain rfl := hw.symm))
         go_ret2
         exact ⟨⟨_, rfl⟩, HB9.out⟩
   · have hbI : decide ((9007199254740992 : Int) ≤ (q : Int)) = false := decide_eq_false (by omega)
     have hM := HM0.out; rcases M0 with _ | _
     · have HR : Hid (F = if q = 0 then 0 else min (q + (u + 1074).toNat * 4503599627370496) 9218868437227405312) := hid (by
        have h := HF.out; unfold nround at h; rw [if_neg hbig, ← hM] at h; simp only [decide_true, decide_false, Bool.not_true, Bool.not_false, Bool.true_and, Bool.false_and, Bool.and_true, Bool.and_false, Bool.or_true, Bool.or_false, Bool.true_or, Bool.false_or, Bool.toNat_true, Bool.toNat_false, Nat.add_zero, Nat.zero_ne_one, Nat.one_ne_zero, reduceCtorEq] at h; exact h)
       have LD := fun w => Ldexp_near (q) (u) (by omega) (by omega) (by omega) (by omega) w
       rw [← nconv, show (((q) : Nat) : Int) = (q : Int) by omega, ← HR.out] at LD
       clear HR; clear HF hM hbig; rcases b with _ | _ <;> rcases ex with _ | _
       all_goals
        go_wp2_with (first | (go_at_call 179; (with_reducible refine (LD _).mono ?_); rintro e w' ⟨rfl, hw⟩; obtain rfl := hw.symm) | (go_at_call 180; (with_reducible refine (IF.out _).mono ?_); rintro e w' ⟨rfl, hw⟩; obtain rfl := hw.symm) | (go_at_call 180; (with_reducible refine (IG.out _).mono ?_); rintro e w' ⟨rfl, hw⟩; obtain rfl := hw.symm))
        go_ret2
        exact ⟨⟨_, rfl⟩, HB9.out⟩
     · have HR : Hid (F = if q + 1 = 0 then 0 else min (q + 1 + (u + 1074).toNat * 4503599627370496) 9218868437227405312) := hid (by
        have h := HF.out; unfold nround at h; rw [if_neg hbig, ← hM] at h; simp only [decide_true, decide_false, Bool.not_true, Bool.not_false, Bool.true_and, Bool.false_and, Bool.and_true, Bool.and_false, Bool.or_true, Bool.or_false, Bool.true_or, Bool.false_or, Bool.toNat_true, Bool.toNat_false, Nat.add_zero, Nat.zero_ne_one, Nat.one_ne_zero, reduceCtorEq] at h; exact h)
       have LD := fun w => Ldexp_near (q + 1) (u) (by omega) (by omega) (by omega) (by omega) w
       rw [← nconv, show (((q + 1) : Nat) : Int) = (q : Int) + 1 by omega, ← HR.out] at LD
       clear HR; clear HF hM hbig; rcases b with _ | _ <;> rcases ex with _ | _
       all_goals
        go_wp2_with (first | (go_at_call 179; (with_reducible refine (LD _).mono ?_); rintro e w' ⟨rfl, hw⟩; obtain rfl := hw.symm) | (go_at_call 180; (with_reducible refine (IF.out _).mono ?_); rintro e w' ⟨rfl, hw⟩; obtain rfl := hw.symm) | (go_at_call 180; (with_reducible refine (IG.out _).mono ?_); rintro e w' ⟨rfl, hw⟩; obtain rfl := hw.symm))
        go_ret2
        exact ⟨⟨_, rfl⟩, HB9.out⟩
theorem bnearCoreP (b : Bool) (aa ad : Option Addr) (la ca ld cd k q r : Nat) (RW LQ L2 LX : List Nat) (blA blD : Nat) (u cc : Int) (ex : Bool) (F lr : Nat) (w : World)
 (q1b : q < 18014398509481984) (hu1 : -1074 ≤ u) (hu2 : u ≤ 549755813888) (hbA : blA ≤ 549755813888) (hbD : blD ≤ 549755813888) (hsg : 0 ≤ u) (hk : u = (k : Int)) (hmax : max ((blA : Int) - blD - 53) (-1074) = u) (hc1 : -1 ≤ cc) (hc2 : cc ≤ 1)
 (BA : Hid (Calls Tryz.prog 176 #[.slice aa la ca] w fun e w' => e = .returned (.int .i64 blA) ∧ w' = w)) (BD : Hid (Calls Tryz.prog 176 #[.slice ad ld cd] w fun e w' => e = .returned (.int .i64 blD) ∧ w' = w))
 (UP : Hid (Calls Tryz.prog 157 #[.slice ad ld cd, .int .i64 k] w fun e w' => ∃ v, e = .returned v ∧ Wd w' v L2 ∧ Below w.heap.size w w'))
 (DV : Hid (∀ v w', Below w.heap.size w w' → Wd w' v L2 → Calls Tryz.prog 177 #[.slice aa la ca, v] w' fun e w'' => ∃ q' ar cr, e = .returned (.tuple #[q', .slice ar lr cr]) ∧ Wd w'' q' LQ ∧ Wd w'' (.slice ar lr cr) RW ∧ Below w'.heap.size w' w''))
 (D0 : Hid (∀ w', Below w.heap.size w w' → True))
 (TU : Hid (∀ v w', Wd w' v LQ → Calls Tryz.prog 178 #[v] w' fun e w'' => e = .returned (.int .u64 q) ∧ w'' = w'))
 (UR : Hid (∀ v w', Wd w' v RW → Calls Tryz.prog 157 #[v, .int .i64 1] w' fun e w'' => ∃ v, e = .returned v ∧ Wd w'' v (words (r * 2)) ∧ Below w'.heap.size w' w''))
 (CM : Hid (∀ v1 v2 w', Wd w' v1 (words (r * 2)) → Wd w' v2 L2 → Calls Tryz.prog 141 #[v1, v2] w' fun e w'' => e = .returned (.int .i64 cc) ∧ Drawn w' w''))
 (e0 : ((la : Int) == 0) = false) (ex0 : ((lr : Int) == 0) = ex)
 (HF : Hid (F = if (nround q ex cc u).1 = 0 then 0 else min ((nround q ex cc u).1 + ((nround q ex cc u).2 + 1074).toNat * 4503599627370496) 9218868437227405312))
 (IF : Hid (∀ w, Calls Tryz.prog 180 #[.float .f64 F, .int .i64 0] w fun e w' => e = .returned (.bool (Ieee.double.order (F % 9223372036854775808) 9218868437227405311 == some .gt)) ∧ w' = w))
 (IG : Hid (∀ w, Calls Tryz.prog 180 #[.float .f64 (Op.negFloat .f64 F), .int .i64 0] w fun e w' => e = .returned (.bool (Ieee.double.order (Op.negFloat .f64 F % 9223372036854775808) 9218868437227405311 == some .gt)) ∧ w' = w))
 (Q2 : u = -1074 ∨ 4503599627370496 ≤ q) :
 Calls Tryz.prog 125 #[.bool b, .slice aa la ca, .slice ad ld cd] w (NearPost b F w) := by
 subst hk; have rn := run_fneg; obtain ⟨M0, hM0⟩ : ∃ M0, M0 = (decide (0 < cc) || (decide (cc = 0) && decide (q % 2 = 1))) := ⟨_, rfl⟩; have HM0 := hid hM0; have HMX := hid hmax; clear hM0 hmax; go_enter Tryz.func125, Tryz.ntmps125; go_upto_region 3 with fail
 go_cut [8] from 20 to 26 (fun s8 wx => s8 = .int .i64 (k : Int) ∧ w = wx)
 case first =>
  go_wp2_with (first | (go_at_call 176; (with_reducible refine BA.out.mono ?_); rintro e w' ⟨rfl, hw⟩; obtain rfl := hw.symm) | (go_at_call 176; (with_reducible refine BD.out.mono ?_); rintro e w' ⟨rfl, hw⟩; obtain rfl := hw.symm))
  all_goals
   go_meet
   have HMY := HMX.out; exact ⟨congrArg (Value.int .i64) (by omega), rfl⟩
 case rest =>
  obtain ⟨rfl, rfl⟩ := hcut; go_upto_region 10 with (first | (go_at_call 157; (with_reducible refine UP.out.mono ?_); rintro e w1 ⟨v1, rfl, h1, hb1⟩) | (go_at_call 177; (with_reducible refine (DV.out _ _ hb1 h1).mono ?_); rintro e w2 ⟨vq, ar, cr, rfl, hq2, hr2, hw2⟩; have hb2 := Below.trans hb1 (below_low hw2 hb1.size); have h12 := h1.below hw2) | (go_at_call 178; (with_reducible refine (TU.out _ _ hq2).mono ?_); rintro e w' ⟨rfl, hw⟩; obtain rfl := hw.symm) | (go_at_call 157; (with_reducible refine (UR.out _ _ hr2).mono ?_); rintro e w3 ⟨v3, rfl, h3, hw3⟩; have hb3 := Below.trans hb2 (below_low hw3 hb2.size); have h13 := h12.below hw3) | (go_at_call 141; (with_reducible refine (CM.out _ _ _ h3 h13).mono ?_); rintro e w9 ⟨rfl, hd9⟩; have hb9 := Below.trans hb3 (below_low hd9.below hb3.size); clear hd9))
  have HB9 := hid hb9; clear hb1 hb2 hb3 hb9 h1 hq2 hr2 hw2 h12 hw3 h3 h13; go_cut [13] from 48 to 58 (fun s13 wx => s13 = .bool M0 ∧ w9 = wx)
  case first =>
   have HM := HM0.out; rcases (show cc = -1 ∨ cc = 0 ∨ cc = 1 by omega) with rfl | rfl | rfl <;> rcases Nat.mod_two_eq_zero_or_one q with hq2 | hq2
   all_goals
    have a1 := and1 q (by omega)
    rw [hq2] at a1 HM; simp only [decide_true, decide_false, Int.lt_irrefl, Bool.or_false, Bool.false_or, Bool.and_false, Bool.and_true, Bool.true_and, Bool.false_and, Nat.zero_ne_one, reduceCtorEq] at HM
    try (rw [show decide ((0 : Int) < -1) = false from rfl] at HM)
    try (rw [show decide ((0 : Int) < 1) = true from rfl] at HM)
    try (rw [show decide ((-1 : Int) = 0) = false from rfl] at HM)
    try simp at HM
    go_wp2_with fail
    go_meet
    exact ⟨by rw [HM], rfl⟩
  case rest =>
   obtain ⟨rfl, rfl⟩ := hcut; by_cases hbig : 9007199254740992 ≤ q
   · obtain ⟨q1, hq1⟩ : ∃ q1, q1 = q / 2 := ⟨_, rfl⟩; have q1e : (q : Int) / 2 = (q1 : Int) := by omega
     have hq1b : 4503599627370496 ≤ q1 := by omega
     have hq1c : q1 < 9007199254740992 := by omega
     have hbI : (9007199254740992 : Int) ≤ (q : Int) := by omega
     rcases Nat.mod_two_eq_zero_or_one q with hq2 | hq2
     · rcases Nat.mod_two_eq_zero_or_one q1 with hq3 | hq3 <;> rcases ex with _ | _
       all_goals
        have HR : Hid (F = if q1 = 0 then 0 else min (q1 + ((k : Int) + 1 + 1074).toNat * 4503599627370496) 9218868437227405312) := hid (by
         have h := HF.out; unfold nround at h; rw [if_pos hbig, ← hq1] at h; simp only [hq2, hq3, decide_true, decide_false, Bool.not_true, Bool.not_false, Bool.true_and, Bool.false_and, Bool.and_true, Bool.and_false, Bool.or_true, Bool.or_false, Bool.true_or, Bool.false_or, Bool.toNat_true, Bool.toNat_false, Nat.add_zero, Nat.zero_ne_one, Nat.one_ne_zero, reduceCtorEq] at h; exact h)
        have LD := fun w => Ldexp_near (q1) ((k : Int) + 1) (by omega) (by omega) (by omega) (by omega) w
        rw [← nconv, show (((q1) : Nat) : Int) = (q1 : Int) by omega, ← HR.out] at LD
        clear HR
       all_goals
        have a1 := and1 q (by omega)
        rw [hq2] at a1; have a2 := and1 q1 (by omega)
        rw [hq3] at a2; clear HF hq1; rcases b with _ | _
        all_goals
         go_wp2_with (first | (go_at_call 179; (with_reducible refine (LD _).mono ?_); rintro e w' ⟨rfl, hw⟩; obtain rfl := hw.symm) | (go_at_call 180; (with_reducible refine (IF.out _).mono ?_); rintro e w' ⟨rfl, hw⟩; obtain rfl := hw.symm) | (go_at_call 180; (with_reducible refine (IG.out _).mono ?_); rintro e w' ⟨rfl, hw⟩; obtain rfl := hw.symm))
         go_ret2
         exact ⟨⟨_, rfl⟩, HB9.out⟩
     · rcases Nat.mod_two_eq_zero_or_one q1 with hq3 | hq3 <;> rcases ex with _ | _
       all_goals first
        | (have HR : Hid (F = if q1 = 0 then 0 else min (q1 + ((k : Int) + 1 + 1074).toNat * 4503599627370496) 9218868437227405312) := hid (by
            have h := HF.out; unfold nround at h; rw [if_pos hbig, ← hq1] at h; simp only [hq2, hq3, decide_true, decide_false, Bool.not_true, Bool.not_false, Bool.true_and, Bool.false_and, Bool.and_true, Bool.and_false, Bool.or_true, Bool.or_false, Bool.true_or, Bool.false_or, Bool.toNat_true, Bool.toNat_false, Nat.add_zero, Nat.zero_ne_one, Nat.one_ne_zero, reduceCtorEq] at h; exact h)
           have LD := fun w => Ldexp_near (q1) ((k : Int) + 1) (by omega) (by omega) (by omega) (by omega) w
           rw [← nconv, show (((q1) : Nat) : Int) = (q1 : Int) by omega, ← HR.out] at LD
           clear HR)
        | (have HR : Hid (F = if q1 + 1 = 0 then 0 else min (q1 + 1 + ((k : Int) + 1 + 1074).toNat * 4503599627370496) 9218868437227405312) := hid (by
            have h := HF.out; unfold nround at h; rw [if_pos hbig, ← hq1] at h; simp only [hq2, hq3, decide_true, decide_false, Bool.not_true, Bool.not_false, Bool.true_and, Bool.false_and, Bool.and_true, Bool.and_false, Bool.or_true, Bool.or_false, Bool.true_or, Bool.false_or, Bool.toNat_true, Bool.toNat_false, Nat.add_zero, Nat.zero_ne_one, Nat.one_ne_zero, reduceCtorEq] at h; exact h)
           have LD := fun w => Ldexp_near (q1 + 1) ((k : Int) + 1) (by omega) (by omega) (by omega) (by omega) w
           rw [← nconv, show (((q1 + 1) : Nat) : Int) = (q1 : Int) + 1 by omega, ← HR.out] at LD
           clear HR)
       all_goals
        have a1 := and1 q (by omega)
        rw [hq2] at a1; have a2 := and1 q1 (by omega)
        rw [hq3] at a2; clear HF hq1; rcases b with _ | _
        all_goals
         go_wp2_with (first | (go_at_call 179; (with_reducible refine (LD _).mono ?_); rintro e w' ⟨rfl, hw⟩; obtain rfl := hw.symm) | (go_at_call 180; (with_reducible refine (IF.out _).mono ?_); rintro e w' ⟨rfl, hw⟩; obtain rfl := hw.symm) | (go_at_call 180; (with_reducible refine (IG.out _).mono ?_); rintro e w' ⟨rfl, hw⟩; obtain rfl := hw.symm))
         go_ret2
         exact ⟨⟨_, rfl⟩, HB9.out⟩
   · have hbI : decide ((9007199254740992 : Int) ≤ (q : Int)) = false := decide_eq_false (by omega)
     have hM := HM0.out; rcases M0 with _ | _
     · have HR : Hid (F = if q = 0 then 0 else min (q + ((k : Int) + 1074).toNat * 4503599627370496) 9218868437227405312) := hid (by
        have h := HF.out; unfold nround at h; rw [if_neg hbig, ← hM] at h; simp only [decide_true, decide_false, Bool.not_true, Bool.not_false, Bool.true_and, Bool.false_and, Bool.and_true, Bool.and_false, Bool.or_true, Bool.or_false, Bool.true_or, Bool.false_or, Bool.toNat_true, Bool.toNat_false, Nat.add_zero, Nat.zero_ne_one, Nat.one_ne_zero, reduceCtorEq] at h; exact h)
       have LD := fun w => Ldexp_near (q) ((k : Int)) (by omega) (by omega) (by omega) (by omega) w
       rw [← nconv, show (((q) : Nat) : Int) = (q : Int) by omega, ← HR.out] at LD
       clear HR; clear HF hM hbig; rcases b with _ | _ <;> rcases ex with _ | _
       all_goals
        go_wp2_with (first | (go_at_call 179; (with_reducible refine (LD _).mono ?_); rintro e w' ⟨rfl, hw⟩; obtain rfl := hw.symm) | (go_at_call 180; (with_reducible refine (IF.out _).mono ?_); rintro e w' ⟨rfl, hw⟩; obtain rfl := hw.symm) | (go_at_call 180; (with_reducible refine (IG.out _).mono ?_); rintro e w' ⟨rfl, hw⟩; obtain rfl := hw.symm))
        go_ret2
        exact ⟨⟨_, rfl⟩, HB9.out⟩
     · have HR : Hid (F = if q + 1 = 0 then 0 else min (q + 1 + ((k : Int) + 1074).toNat * 4503599627370496) 9218868437227405312) := hid (by
        have h := HF.out; unfold nround at h; rw [if_neg hbig, ← hM] at h; simp only [decide_true, decide_false, Bool.not_true, Bool.not_false, Bool.true_and, Bool.false_and, Bool.and_true, Bool.and_false, Bool.or_true, Bool.or_false, Bool.true_or, Bool.false_or, Bool.toNat_true, Bool.toNat_false, Nat.add_zero, Nat.zero_ne_one, Nat.one_ne_zero, reduceCtorEq] at h; exact h)
       have LD := fun w => Ldexp_near (q + 1) ((k : Int)) (by omega) (by omega) (by omega) (by omega) w
       rw [← nconv, show (((q + 1) : Nat) : Int) = (q : Int) + 1 by omega, ← HR.out] at LD
       clear HR; clear HF hM hbig; rcases b with _ | _ <;> rcases ex with _ | _
       all_goals
        go_wp2_with (first | (go_at_call 179; (with_reducible refine (LD _).mono ?_); rintro e w' ⟨rfl, hw⟩; obtain rfl := hw.symm) | (go_at_call 180; (with_reducible refine (IF.out _).mono ?_); rintro e w' ⟨rfl, hw⟩; obtain rfl := hw.symm) | (go_at_call 180; (with_reducible refine (IG.out _).mono ?_); rintro e w' ⟨rfl, hw⟩; obtain rfl := hw.symm))
        go_ret2
        exact ⟨⟨_, rfl⟩, HB9.out⟩
end Go.Proofs.YthjeejnggpjnjaaGreatDoor
