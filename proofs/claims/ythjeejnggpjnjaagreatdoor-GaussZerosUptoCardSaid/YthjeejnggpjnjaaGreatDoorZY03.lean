/- A part: N, O. -/
import Derived.Test.YthjeejnggpjnjaaGreatDoorZY01
set_option linter.unusedSimpArgs false
set_option linter.unusedVariables false
set_option maxRecDepth 100000
set_option maxHeartbeats 16000000
set_option synthInstance.maxHeartbeats 2000000
set_option synthInstance.maxSize 100000
namespace Go.Proofs.YthjeejnggpjnjaaGreatDoor
open Go.RowKit
theorem drop_val (m k : Nat) : val ((words m).drop k) = m / 4294967296 ^ k := by
 rcases Nat.lt_or_ge (words m).length k with h | h
 · rw [List.drop_eq_nil_of_le (by omega)]
   have h1 := words_lt m; have h2 : 4294967296 ^ (words m).length ≤ 4294967296 ^ k := Nat.pow_le_pow_right (by decide) (by omega)
   rw [Nat.div_eq_of_lt (by omega)]
   rfl
 · rw [val_drop_div (words_ok m) h, val_words]
theorem val_drop0 (l : List Nat) (k : Nat) : val (l.drop k) = (l[k]?).getD 0 + 4294967296 * val (l.drop (k + 1)) := by
 cases h : l[k]? with
 | some x => rw [val_drop h]; rfl
 | none =>
   have : l.length ≤ k := by
    rcases Nat.lt_or_ge k l.length with h1 | h1
    · rw [List.getElem?_eq_getElem h1] at h; cases h
    · exact h1
   rw [List.drop_eq_nil_of_le this, List.drop_eq_nil_of_le (show l.length ≤ k + 1 by omega)]
   rfl
theorem top_bits {m k s w0 w1 w2 : Nat} (hs : s < 32) (h0 : w0 = ((words m)[k]?).getD 0) (h1 : w1 = ((words m)[k + 1]?).getD 0) (h2 : w2 = ((words m)[k + 2]?).getD 0) :
 w2 * 2 ^ (64 - s) % 18446744073709551616 ||| w1 * 2 ^ (32 - s) ||| w0 / 2 ^ s = m / 2 ^ (32 * k + s) % 18446744073709551616 := by
 have hw : ∀ j : Nat, ((words m)[j]?).getD 0 < 4294967296 := fun j => by
  cases h : (words m)[j]? with
  | none => decide
  | some x => exact (words_ok m).get h
 have hw0 := hw k; have hw1 := hw (k + 1); have hw2 := hw (k + 2); rw [← h0] at hw0; rw [← h1] at hw1; rw [← h2] at hw2; have hD := val_drop0 (words m) k; rw [val_drop0 (words m) (k + 1), val_drop0 (words m) (k + 1 + 1), drop_val, ← h0, ← h1, show k + 1 + 1 = k + 2 by omega, ← h2] at hD
 generalize val ((words m).drop (k + 2 + 1)) = R at hD; have hp : 0 < 2 ^ s := Nat.pow_pos (by decide)
 obtain ⟨P, hP⟩ : ∃ P, P = 2 ^ s := ⟨_, rfl⟩; obtain ⟨Q, hQ⟩ : ∃ Q, Q = 2 ^ (32 - s) := ⟨_, rfl⟩; have hPQ : P * Q = 4294967296 := by rw [hP, hQ, ← Nat.pow_add, show s + (32 - s) = 32 by omega]
 have h64 : 2 ^ (64 - s) = Q * 4294967296 := by rw [hQ, show (4294967296 : Nat) = 2 ^ 32 by decide, ← Nat.pow_add, show 32 - s + 32 = 64 - s by omega]
 rw [Nat.pow_add, Nat.pow_mul, show (2 : Nat) ^ 32 = 4294967296 by decide, ← Nat.div_div_eq_div_mul, hD, ← hP]
 rw [← hP] at hp
 have hA : w2 * 2 ^ (64 - s) % 18446744073709551616 = 2 ^ (64 - s) * (w2 % P) := by
  rw [h64, show (18446744073709551616 : Nat) = P * (Q * 4294967296) by rw [← Nat.mul_assoc, hPQ], Nat.mul_mod_mul_right, Nat.mul_comm]
 have hb1 : w1 * 2 ^ (32 - s) < 2 ^ (64 - s) := by
  rw [h64, ← hQ, Nat.mul_comm Q]; exact Nat.mul_lt_mul_of_pos_right hw1 (by rw [hQ]; exact Nat.pow_pos (by decide))
 have hb0 : w0 / P < 2 ^ (32 - s) := by
  rw [← hQ, Nat.div_lt_iff_lt_mul hp, Nat.mul_comm, hPQ]; exact hw0
 rw [hA, ← Nat.two_pow_add_eq_or_of_lt hb1]
 have e1 : 2 ^ (64 - s) * (w2 % P) + w1 * 2 ^ (32 - s) = 2 ^ (32 - s) * (4294967296 * (w2 % P) + w1) := by
  rw [h64, ← hQ]; grind
 rw [e1, ← Nat.two_pow_add_eq_or_of_lt hb0, ← hQ]
 have e2 : (w0 + 4294967296 * (w1 + 4294967296 * (w2 + 4294967296 * R))) / P = w0 / P + Q * (w1 + 4294967296 * (w2 + 4294967296 * R)) := by
  rw [← Nat.add_mul_div_left w0 _ hp]
  congr 1
  rw [← Nat.mul_assoc, hPQ]
 rw [e2]; have e3 := Nat.div_add_mod w2 P; obtain ⟨a, ha⟩ : ∃ a, a = w2 / P := ⟨_, rfl⟩; obtain ⟨b, hb⟩ : ∃ b, b = w2 % P := ⟨_, rfl⟩; have hbP : b < P := by rw [hb]; exact Nat.mod_lt _ hp
 rw [← ha, ← hb] at e3; rw [← hb]; rw [← hQ] at hb0
 have e4 : w0 / P + Q * (w1 + 4294967296 * (w2 + 4294967296 * R)) = (Q * (4294967296 * b + w1) + w0 / P) + 18446744073709551616 * (a + Q * R) := by
  generalize w0 / P = z at *; rw [← e3, show (18446744073709551616 : Nat) = P * Q * 4294967296 by rw [hPQ]]
  rw [show Q * (w1 + 4294967296 * (P * a + b + 4294967296 * R)) = Q * (4294967296 * b + w1) + P * Q * 4294967296 * a + 4294967296 * 4294967296 * (Q * R) by grind]
  rw [show P * Q * 4294967296 * (a + Q * R) = P * Q * 4294967296 * a + (P * Q) * 4294967296 * (Q * R) by grind, hPQ]
  omega
 rw [e4, Nat.add_mul_mod_self_left]; refine (Nat.mod_eq_of_lt ?_).symm
 have e5 : Q * (4294967296 * b + w1) + Q ≤ Q * (4294967296 * P) := by
  rw [← Nat.mul_succ]; refine Nat.mul_le_mul_left _ ?_
  have : 4294967296 * (b + 1) ≤ 4294967296 * P := Nat.mul_le_mul_left _ hbP; omega
 rw [show Q * (4294967296 * P) = (P * Q) * 4294967296 by grind, hPQ] at e5
 omega
theorem blend_step {o : List Nat} {i : Nat} {c p q SA SB t : Int} {x y tl : Nat} (hi : o.length = i) (h : (val o : Int) + 4294967296 ^ i * c = p * SA + q * SB) (ht : t = p * x + c + q * y) (htl : (tl : Int) = t % 4294967296) :
 (val (o ++ [tl]) : Int) + 4294967296 ^ (i + 1) * (t / 4294967296) = p * (SA + 4294967296 ^ i * x) + q * (SB + 4294967296 ^ i * y) := by
 have e : val [tl] = tl := by simp [val]
 have k := Int.emod_add_mul_ediv t 4294967296; rw [val_append, hi, e]; obtain ⟨d, hd⟩ : ∃ d, d = t / 4294967296 := ⟨_, rfl⟩; rw [← hd, ← htl] at k; rw [← hd]; obtain ⟨B, hB⟩ : ∃ B : Int, B = 4294967296 ^ i := ⟨_, rfl⟩; have hBn : ((4294967296 ^ i * tl : Nat) : Int) = B * (tl : Int) := by rw [hB]; simp
 rw [Int.natCast_add, hBn, Int.pow_succ, ← hB]; rw [← hB] at h
 grind
theorem blend_fin {o : List Nat} {n : Nat} {c R : Int} (hi : o.length = n) (hok : Wok o) (h : (val o : Int) + 4294967296 ^ n * c = R) (hR : 0 ≤ R) (hc : c < 4294967296) : ∃ cn : Nat, c = cn ∧ cn < 4294967296 ∧ val (o ++ [cn]) = R.toNat := by
 have ho := val_lt hok; rw [hi] at ho
 have hc0 : 0 ≤ c := by
  rcases Int.lt_or_le c 0 with h1 | h1
  · exfalso
    obtain ⟨B, hB⟩ : ∃ B : Nat, B = 4294967296 ^ n := ⟨_, rfl⟩; have hBn : (4294967296 : Int) ^ n = (B : Int) := by rw [hB]; simp
    rw [hBn] at h; rw [← hB] at ho; have : (B : Int) * c ≤ (B : Int) * (-1) := Int.mul_le_mul_of_nonneg_left (by omega) (by omega)
    omega
  · exact h1
 refine ⟨c.toNat, by omega, by omega, ?_⟩
 have e : val [c.toNat] = c.toNat := by simp [val]
 rw [val_append, hi, e, ← h]; obtain ⟨cn, rfl⟩ := Int.eq_ofNat_of_zero_le hc0; have : (val o : Int) + 4294967296 ^ n * (cn : Int) = ((val o + 4294967296 ^ n * cn : Nat) : Int) := by simp
 rw [this, Int.toNat_natCast]; rfl
theorem mul_bound (P : Int) (x : Nat) (h1 : -1073741824 < P) (h2 : P < 1073741824) (hx : x < 4294967296) : -4611686013132341065 ≤ P * (x : Int) ∧ P * (x : Int) ≤ 4611686013132341065 := by
 have a := Int.mul_le_mul_of_nonneg_right (show P ≤ 1073741823 by omega) (show (0 : Int) ≤ (x : Int) by omega)
 have b := Int.mul_le_mul_of_nonneg_right (show -1073741823 ≤ P by omega) (show (0 : Int) ≤ (x : Int) by omega)
 omega
theorem take_cast {l : List Nat} {i x : Nat} (h : l[i]? = some x) : ((val (l.take (i + 1)) : Nat) : Int) = (val (l.take i) : Int) + 4294967296 ^ i * (x : Int) := by rw [val_take h]; simp
set_option maxHeartbeats 8000000 in
theorem btopBits_any {nX : Nat} (hnX : nX = 224 ∨ nX = 231) (va : Value) (m n : Nat) (w : World) (ha : Wd w va (words m)) (hm : (words m).length ≤ 549755813888) (hn : n ≤ 35184372088832) :
 Calls Tryz.prog nX #[va, .int .i64 n] w fun e w' => e = .returned (.int .u64 ((m / 2 ^ n % 18446744073709551616 : Nat) : Int)) ∧ w' = w := by
 rcases hnX with rfl | rfl <;> (
 have okm := words_ok m; obtain ⟨k, hk⟩ : ∃ k, k = n / 32 := ⟨_, rfl⟩; obtain ⟨s, hs⟩ : ∃ s, s = n % 32 := ⟨_, rfl⟩; have hnks : n = 32 * k + s := by omega
 have hs32 : s < 32 := by omega
 obtain ⟨w0, hw0⟩ : ∃ w0, w0 = ((words m)[k]?).getD 0 := ⟨_, rfl⟩; obtain ⟨w1, hw1⟩ : ∃ w1, w1 = ((words m)[k + 1]?).getD 0 := ⟨_, rfl⟩; obtain ⟨w2, hw2⟩ : ∃ w2, w2 = ((words m)[k + 2]?).getD 0 := ⟨_, rfl⟩; have tb := top_bits hs32 hw0 hw1 hw2; rw [← hnks] at tb; obtain ⟨X, hX⟩ : ∃ X, X = m / 2 ^ n % 18446744073709551616 := ⟨_, rfl⟩; rw [← hX] at tb ⊢; clear hX
 have hw : ∀ j : Nat, ((words m)[j]?).getD 0 < 4294967296 := fun j => by
  cases h : (words m)[j]? with
  | none => decide
  | some x => exact okm.get h
 have hw0B := hw k; have hw1B := hw (k + 1); have hw2B := hw (k + 2); rw [← hw0] at hw0B; rw [← hw1] at hw1B; rw [← hw2] at hw2B; clear hw okm; obtain ⟨a0, ca, rfl, hca, hce⟩ := ha.form; clear ha; generalize words m = l at hw0 hw1 hw2 hca hce hm ⊢; have HA := hid hce; have W0 : Hid (w0 = (l[k + 0]?).getD 0) := hid hw0; have W1 := hid hw1; have W2 := hid hw2; obtain ⟨a, haa⟩ : ∃ a, a = 64 - s := ⟨_, rfl⟩; obtain ⟨b, hbb⟩ : ∃ b, b = 32 - s := ⟨_, rfl⟩; rw [← haa, ← hbb] at tb; obtain ⟨x2, hx2⟩ : ∃ x2, x2 = w2 * 2 ^ a % 18446744073709551616 := ⟨_, rfl⟩; obtain ⟨y1, hy1⟩ : ∃ y1, y1 = w1 * 2 ^ b := ⟨_, rfl⟩; obtain ⟨y0, hy0⟩ : ∃ y0, y0 = w0 / 2 ^ s := ⟨_, rfl⟩; rw [← hx2, ← hy1, ← hy0] at tb; have hx2B : x2 < 18446744073709551616 := by rw [hx2]; exact Nat.mod_lt _ (by decide)
 have hy1B : y1 < 18446744073709551616 := by
  rw [hy1]; have h1 : (2 : Nat) ^ b ≤ 2 ^ 32 := Nat.pow_le_pow_right (by decide) (by omega)
  have h2 := Nat.mul_le_mul (show w1 ≤ 4294967295 by omega) h1
  have h3 : (2 : Nat) ^ 32 = 4294967296 := by decide
  rw [h3] at h2; omega
 have hy0B : y0 < 18446744073709551616 := by
  rw [hy0]; exact Nat.lt_of_le_of_lt (Nat.div_le_self _ _) (by omega)
 obtain ⟨x1, hx1⟩ : ∃ x1, x1 = x2 ||| y1 := ⟨_, rfl⟩; rw [← hx1] at tb
 have hx1B : x1 < 18446744073709551616 := by
  rw [hx1]; exact Nat.or_lt_two_pow (n := 64) hx2B hy1B
 have o1 := or64 x2 y1 hx2B hy1B; have o0 := or64 x1 y0 hx1B hy0B; rw [← hx1] at o1; rw [tb] at o0
 have sh2 : IntKind.u64.wrap ((w2 : Int) * 2 ^ a) = (x2 : Int) := by
  rw [IntKind.wrap_u64, hx2]; simp
 have sh1 : (w1 : Int) * 2 ^ b = (y1 : Int) := by rw [hy1]; simp
 have sh1b : IntKind.u64.wrap ((w1 : Int) * 2 ^ b) = (y1 : Int) := by rw [sh1, IntKind.wrap_u64]; omega
 have sh0 : (w0 : Int) / 2 ^ s = (y0 : Int) := by rw [hy0]; simp
 have sa : (64 : Int) - (s : Int) = (a : Int) := by omega
 have sb : (32 : Int) - (s : Int) = (b : Int) := by omega
 have sa2 : IntKind.u64.wrap (a : Int) = (a : Int) := by rw [IntKind.wrap_u64]; omega
 have sb2 : IntKind.u64.wrap (b : Int) = (b : Int) := by rw [IntKind.wrap_u64]; omega
 have ta : (a : Int).toNat = a := Int.toNat_natCast a; have tbb : (b : Int).toNat = b := Int.toNat_natCast b
 have z0 : s = 0 → x2 = 0 := fun h => by
  rw [hx2, haa, h, show (2 : Nat) ^ (64 - 0) = 18446744073709551616 by decide, Nat.mul_mod_left]
 have Z0 := hid z0
 have OZ1 : Hid (w1 = 0 → bits BinOp.or IntKind.u64 (x2 : Int) 0 = (x1 : Int)) := hid (fun h => by
  have : y1 = 0 := by rw [hy1, h, Nat.zero_mul]
  rw [this] at o1; exact o1)
 have OZ0 : Hid (w0 = 0 → bits BinOp.or IntKind.u64 (x1 : Int) 0 = (X : Int)) := hid (fun h => by
  have : y0 = 0 := by rw [hy0, h, Nat.zero_div]
  rw [this] at o0; exact o0)
 have OZ2 : Hid (w2 = 0 → x2 = 0) := hid (fun h => by rw [hx2, h, Nat.zero_mul])
 have k1 : (n : Int).tdiv 32 = (k : Int) := by rw [Int.tdiv_eq_ediv_of_nonneg (Int.natCast_nonneg n)]; omega
 have k2 : (n : Int) / 32 = (k : Int) := by omega
 have s1 : (n : Int).tmod 32 = (s : Int) := by rw [Int.tmod_eq_emod_of_nonneg (Int.natCast_nonneg n)]; omega
 have s2 : (n : Int) % 32 = (s : Int) := by omega
 have s3 : IntKind.u64.wrap (s : Int) = (s : Int) := by rw [IntKind.wrap_u64]; omega
 have u0 : IntKind.u64.wrap (w0 : Int) = (w0 : Int) := by rw [IntKind.wrap_u64]; omega
 have u1 : IntKind.u64.wrap (w1 : Int) = (w1 : Int) := by rw [IntKind.wrap_u64]; omega
 have u2 : IntKind.u64.wrap (w2 : Int) = (w2 : Int) := by rw [IntKind.wrap_u64]; omega
 have hk2 : k ≤ 1099511627776 := by omega
 have hA64 : a ≤ 64 := by omega
 have hB32 : b ≤ 32 := by omega
 clear hk hs hnks hce hw0 hw1 hw2 tb hx2 hy1 hy0 hx1 z0 haa hbb sh1
 (first | go_enter Tryz.func224, Tryz.ntmps224 | go_enter Tryz.func231, Tryz.ntmps231)
 go_wp2_with fail
 go_loop [7, 8, 9] (fun s7 s8 s9 => (s8 = .int .i64 2 ∧ s7 = .int .u64 0) ∨ (s8 = .int .i64 1 ∧ s7 = .int .u64 x2) ∨ (s8 = .int .i64 0 ∧ s7 = .int .u64 x1) ∨ (s8 = .int .i64 (-1) ∧ s7 = .int .u64 X)) (fun s7 s8 s9 => (intOf s8 + 1).toNat)
 case atStart => exact .inl ⟨rfl, rfl⟩
 case round =>
  rcases hrel with ⟨rfl, rfl⟩ | ⟨rfl, rfl⟩ | ⟨rfl, rfl⟩ | ⟨rfl, rfl⟩
  · by_cases hk : k + 2 < l.length
    · obtain ⟨g, off, rfl, hg, hxa⟩ := HA.out (by omega)
      haveI : Has w g := ⟨hg⟩; have c0 := hxa (k + 2) w2 (by have := W2.out; rw [List.getElem?_eq_getElem hk] at this ⊢; rw [this]; rfl)
      obtain ⟨kk, hkk⟩ : ∃ kk, kk = k + 2 := ⟨_, rfl⟩; rw [← hkk] at c0 hk; have kI : (k : Int) + 2 = (kk : Int) := by omega
      have kl : (kk : Int) < (l.length : Int) := by omega
      have k0 : (0 : Int) ≤ (kk : Int) := by omega
      clear hxa hkk; rcases Nat.eq_zero_or_pos s with hs0 | hs0
      · have hz2 := Z0.out hs0; subst hs0; subst hz2; go_wp2_with fail
        exact ⟨.inr (.inl ⟨by rfl, by rfl⟩), by simp [intOf]⟩
      · have hs1 : (0 : Int) < (s : Int) := by omega
        have hs2 : decide ((s : Int) > 0) = true := decide_eq_true (by omega)
        go_wp2_with fail
        exact ⟨.inr (.inl ⟨by rfl, by rfl⟩), by simp [intOf]⟩
    · have hz : w2 = 0 := by have := W2.out; rw [List.getElem?_eq_none (by omega)] at this; exact this
      have kl : decide ((k : Int) + 2 < (l.length : Int)) = false := decide_eq_false (by omega)
      have oz := OZ2.out hz; clear hz; subst oz; rcases Nat.eq_zero_or_pos s with hs0 | hs0
      · subst hs0; go_wp2_with fail
        exact ⟨.inr (.inl ⟨by rfl, by rfl⟩), by simp [intOf]⟩
      · have hs1 : (0 : Int) < (s : Int) := by omega
        have hs2 : decide ((s : Int) > 0) = true := decide_eq_true (by omega)
        go_wp2_with fail
        exact ⟨.inr (.inl ⟨by rfl, by rfl⟩), by simp [intOf]⟩
  · by_cases hk : k + 1 < l.length
    · obtain ⟨g, off, rfl, hg, hxa⟩ := HA.out (by omega)
      haveI : Has w g := ⟨hg⟩; have c0 := hxa (k + 1) w1 (by have := W1.out; rw [List.getElem?_eq_getElem hk] at this ⊢; rw [this]; rfl)
      obtain ⟨kk, hkk⟩ : ∃ kk, kk = k + 1 := ⟨_, rfl⟩; rw [← hkk] at c0 hk; have kI : (k : Int) + 1 = (kk : Int) := by omega
      have kl : (kk : Int) < (l.length : Int) := by omega
      have k0 : (0 : Int) ≤ (kk : Int) := by omega
      clear hxa hkk; go_wp2_with fail
      exact ⟨.inr (.inr (.inl ⟨by rfl, by rfl⟩)), by simp [intOf]⟩
    · have hz : w1 = 0 := by have := W1.out; rw [List.getElem?_eq_none (by omega)] at this; exact this
      have kl : decide ((k : Int) + 1 < (l.length : Int)) = false := decide_eq_false (by omega)
      have oz := OZ1.out hz; clear hz; go_wp2_with fail
      exact ⟨.inr (.inr (.inl ⟨by rfl, by rfl⟩)), by simp [intOf]⟩
  · by_cases hk : k + 0 < l.length
    · obtain ⟨g, off, rfl, hg, hxa⟩ := HA.out (by omega)
      haveI : Has w g := ⟨hg⟩; have c0 := hxa (k + 0) w0 (by have := W0.out; rw [List.getElem?_eq_getElem hk] at this ⊢; rw [this]; rfl)
      obtain ⟨kk, hkk⟩ : ∃ kk, kk = k + 0 := ⟨_, rfl⟩; rw [← hkk] at c0 hk; have kI : (k : Int) + 0 = (kk : Int) := by omega
      have kl : (kk : Int) < (l.length : Int) := by omega
      have k0 : (0 : Int) ≤ (kk : Int) := by omega
      clear hxa hkk; go_wp2_with fail
      exact ⟨.inr (.inr (.inr ⟨by rfl, by rfl⟩)), by simp [intOf]⟩
    · have hz : w0 = 0 := by have := W0.out; rw [List.getElem?_eq_none (by omega)] at this; exact this
      have kl : decide ((k : Int) + 0 < (l.length : Int)) = false := decide_eq_false (by omega)
      have oz := OZ0.out hz; clear hz; go_wp2_with fail
      exact ⟨.inr (.inr (.inr ⟨by rfl, by rfl⟩)), by simp [intOf]⟩
  · go_wp2_with fail
    go_ret
    exact ⟨rfl, rfl⟩)
theorem btopBits : type_of% (@btopBits_any 224 (.inl rfl)) := @btopBits_any 224 (.inl rfl)
theorem etopBits : type_of% (@btopBits_any 231 (.inr rfl)) := @btopBits_any 231 (.inr rfl)
set_option maxHeartbeats 8000000 in
theorem bblend_any {nX : Nat} (hnX : nX = 225 ∨ nX = 232) (va vb : Value) (m n : Nat) (P Q : Int) (w : World) (ha : Wd w va (words m)) (hb : Wd w vb (words n)) (hm : (words m).length ≤ 549755813888) (hnm : n ≤ m) (hP1 : -1073741824 < P) (hP2 : P < 1073741824) (hQ1 : -1073741824 < Q) (hQ2 : Q < 1073741824) (h0 : 0 ≤ P * m + Q * n) :
 Calls Tryz.prog nX #[va, vb, .int .i64 P, .int .i64 Q] w fun e w' => ∃ v, e = .returned v ∧ Wd w' v (words (P * m + Q * n).toNat) ∧ Fresh w.heap.size v ∧ Below w.heap.size w w' := by
 rcases hnX with rfl | rfl <;> (
 have okm := words_ok m; have okn := words_ok n; have vm := val_words m; have vn := val_words n; have hkl := len_mono hnm; obtain ⟨R, hR⟩ : ∃ R : Int, R = P * m + Q * n := ⟨_, rfl⟩; rw [← hR] at h0 ⊢; obtain ⟨a, ca, rfl, hca, hce⟩ := ha.form; obtain ⟨b, cb, rfl, hcb, hcf⟩ := hb.form; clear ha hb; generalize words m = l at okm vm hca hce hm hkl ⊢; generalize words n = k at okn vn hcb hcf hkl ⊢; have HA := hid hce; have HB := hid hcf; have OKl := hid okm; have OKk := hid okn; have VM := hid vm; have VN := hid vn; have HR := hid hR; have H0 := hid h0; clear hce hcf okm okn vm vn hR h0
 (first | go_enter Tryz.func225, Tryz.ntmps225 | go_enter Tryz.func232, Tryz.ntmps232)
 go_wp2_with (at_make; refine make_words _ rfl _ _ rfl _ (l.length + 1) rfl rfl (by first | rfl | omega | simp) (by omega) ?_; intro w1 hro hb1 hlt1)
 have RO := hro; have B1 := hid hb1; clear hro hb1; go_loopw [10, 11, 12] (fun s10 s11 s12 wr => ∃ (i : Nat) (c : Int) (o : List Nat), s10 = .int .i64 c ∧ s11 = .int .i64 i ∧ i ≤ l.length ∧ -2147483648 ≤ c ∧ c ≤ 2147483648 ∧ o.length = i ∧ Hid (Wok o) ∧ Hid (Ro wr w.heap.size (o ++ List.replicate (l.length + 1 - i) 0)) ∧ Hid ((val o : Int) + 4294967296 ^ i * c = P * (val (l.take i) : Int) + Q * (val (k.take i) : Int)) ∧ Hid (Below w.heap.size w wr)) (fun s10 s11 s12 _ => l.length - (intOf s11).toNat)
 case atStart => exact ⟨0, 0, [], rfl, rfl, Nat.zero_le _, by omega, by omega, rfl, hid Wok.nil, RO, hid (by simp [val]), B1⟩
 case round =>
  obtain ⟨i, c, o, rfl, rfl, hi, hcl, hch, hol, hok, hR, hS, hB⟩ := hrel; haveI : Has wr w.heap.size := ⟨hR.out.lt⟩; by_cases hil : i < l.length
  · obtain ⟨ga, oa, rfl, hga, hxa⟩ := HA.out (by omega)
    obtain ⟨x, hx⟩ : ∃ x, l[i]? = some x := ⟨_, List.getElem?_eq_getElem hil⟩; have hxB := OKl.out.get hx; have cax := cell_below (hxa i x hx) hga hB.out; haveI : Has wr ga := ⟨Nat.lt_of_lt_of_le hga hB.out.size⟩; obtain ⟨nn, hnn⟩ : ∃ nn, l.length + 1 - i = nn + 1 := ⟨l.length - i, by omega⟩
    have hR2 := hR.out; rw [hnn] at hR2; have co := hR2.cell (get_next o nn); have fo := hR2.free o.length; rw [hol] at co fo; have hi0 : (0 : Int) ≤ (i : Int) := by omega
    have hil' : (i : Int) < (l.length : Int) := by omega
    have hil2 : (i : Int) < (l.length : Int) + 1 := by omega
    by_cases hik : i < k.length
    · obtain ⟨gb, ob, rfl, hgb, hyb⟩ := HB.out (by omega)
      obtain ⟨y, hy⟩ : ∃ y, k[i]? = some y := ⟨_, List.getElem?_eq_getElem hik⟩; have hyB := OKk.out.get hy; have cby := cell_below (hyb i y hy) hgb hB.out; haveI : Has wr gb := ⟨Nat.lt_of_lt_of_le hgb hB.out.size⟩; have hik' : (i : Int) < (k.length : Int) := by omega
      obtain ⟨px, hpx⟩ : ∃ px, px = P * (x : Int) := ⟨_, rfl⟩; obtain ⟨b1, b2⟩ := mul_bound P x hP1 hP2 hxB; rw [← hpx] at b1 b2; obtain ⟨t1, ht1⟩ : ∃ t1, t1 = px + c := ⟨_, rfl⟩; obtain ⟨qy, hqy⟩ : ∃ qy, qy = Q * (y : Int) := ⟨_, rfl⟩; obtain ⟨b3, b4⟩ := mul_bound Q y hQ1 hQ2 hyB; rw [← hqy] at b3 b4; obtain ⟨t, ht0⟩ : ∃ t, t = t1 + qy := ⟨_, rfl⟩; have ht : t = P * (x : Int) + c + Q * (y : Int) := by rw [ht0, ht1, hpx, hqy]
      have ST := blend_step (tl := (t % 4294967296).toNat) hol hS.out ht (by omega)
      obtain ⟨tl, htl⟩ : ∃ tl, tl = (t % 4294967296).toNat := ⟨_, rfl⟩; obtain ⟨tc, htc⟩ : ∃ tc, tc = t / 4294967296 := ⟨_, rfl⟩; rw [← htl, ← htc, ← take_cast hx, ← take_cast hy] at ST; have SN := hid ST; have hc1 : -2147483648 ≤ tc := by omega
      have hc2 : tc ≤ 2147483648 := by omega
      have htlB : tl < 4294967296 := by omega
      have e1 : IntKind.i64.wrap (x : Int) = (x : Int) := by rw [IntKind.wrap_i64]; omega
      have e2 : P * (x : Int) = px := hpx.symm; have e3 : IntKind.i64.wrap px = px := by rw [IntKind.wrap_i64]; omega
      have e4 : px + c = t1 := ht1.symm; have e5 : IntKind.i64.wrap t1 = t1 := by rw [IntKind.wrap_i64]; omega
      have f1 : IntKind.i64.wrap (y : Int) = (y : Int) := by rw [IntKind.wrap_i64]; omega
      have f2 : Q * (y : Int) = qy := hqy.symm; have f3 : IntKind.i64.wrap qy = qy := by rw [IntKind.wrap_i64]; omega
      have f4 : t1 + qy = t := ht0.symm; have f5 : IntKind.i64.wrap t = t := by rw [IntKind.wrap_i64]; omega
      have e6 : IntKind.u32.wrap t = (tl : Int) := by rw [IntKind.wrap_u32]; omega
      have e7 : t / 4294967296 = tc := htc.symm; have RN : Hid (Ro (wr.setCell ⟨w.heap.size, i, none⟩ (.int .u32 (tl : Int))) w.heap.size ((o ++ [tl]) ++ List.replicate nn 0)) := hid (by have := hR2.set i tl; rw [← hol, set_next] at this; rw [← hol]; exact this)
      have ON : Hid (Wok (o ++ [tl])) := hid (hok.out.append (Wok.cons htlB Wok.nil)); have BN := hid (below_store (i := i) (v := .int .u32 (tl : Int)) hB.out (Nat.le_refl _)); have hon : (o ++ [tl]).length = i + 1 := by simp [hol]
      have hnn2 : nn = l.length + 1 - (i + 1) := by omega
      clear ST hx hxa hR2 ht ht1 hpx htl htc hy hyb hqy ht0; go_wp2_with fail
      go_roundw
      case rel => exact ⟨i + 1, tc, o ++ [tl], by rfl, by rfl, by omega, hc1, hc2, hon, ON, by rw [← hnn2]; exact RN, SN, BN⟩
      case measure => simp [intOf]; omega
    · have hik' : decide ((i : Int) < (k.length : Int)) = false := decide_eq_false (by omega)
      obtain ⟨px, hpx⟩ : ∃ px, px = P * (x : Int) := ⟨_, rfl⟩; obtain ⟨b1, b2⟩ := mul_bound P x hP1 hP2 hxB; rw [← hpx] at b1 b2; obtain ⟨t1, ht1⟩ : ∃ t1, t1 = px + c := ⟨_, rfl⟩; obtain ⟨t, ht0⟩ : ∃ t, t = t1 := ⟨_, rfl⟩; have ht : t = P * (x : Int) + c + Q * ((0 : Nat) : Int) := by rw [ht0, ht1, hpx]; simp
      have ST := blend_step (tl := (t % 4294967296).toNat) hol hS.out ht (by omega)
      obtain ⟨tl, htl⟩ : ∃ tl, tl = (t % 4294967296).toNat := ⟨_, rfl⟩; obtain ⟨tc, htc⟩ : ∃ tc, tc = t / 4294967296 := ⟨_, rfl⟩; rw [← htl, ← htc, ← take_cast hx, show Q * ((val (k.take i) : Int) + 4294967296 ^ i * ((0 : Nat) : Int)) = Q * (val (k.take (i + 1)) : Int) by rw [take_all (by omega)]; simp] at ST
      have SN := hid ST; have hc1 : -2147483648 ≤ tc := by omega
      have hc2 : tc ≤ 2147483648 := by omega
      have htlB : tl < 4294967296 := by omega
      have e1 : IntKind.i64.wrap (x : Int) = (x : Int) := by rw [IntKind.wrap_i64]; omega
      have e2 : P * (x : Int) = px := hpx.symm; have e3 : IntKind.i64.wrap px = px := by rw [IntKind.wrap_i64]; omega
      have e4 : px + c = t1 := ht1.symm; have e5 : IntKind.i64.wrap t1 = t1 := by rw [IntKind.wrap_i64]; omega
      subst ht0; have e6 : IntKind.u32.wrap t = (tl : Int) := by rw [IntKind.wrap_u32]; omega
      have e7 : t / 4294967296 = tc := htc.symm; have RN : Hid (Ro (wr.setCell ⟨w.heap.size, i, none⟩ (.int .u32 (tl : Int))) w.heap.size ((o ++ [tl]) ++ List.replicate nn 0)) := hid (by have := hR2.set i tl; rw [← hol, set_next] at this; rw [← hol]; exact this)
      have ON : Hid (Wok (o ++ [tl])) := hid (hok.out.append (Wok.cons htlB Wok.nil)); have BN := hid (below_store (i := i) (v := .int .u32 (tl : Int)) hB.out (Nat.le_refl _)); have hon : (o ++ [tl]).length = i + 1 := by simp [hol]
      have hnn2 : nn = l.length + 1 - (i + 1) := by omega
      clear ST hx hxa hR2 ht ht1 hpx htl htc; go_wp2_with fail
      go_roundw
      case rel => exact ⟨i + 1, tc, o ++ [tl], by rfl, by rfl, by omega, hc1, hc2, hon, ON, by rw [← hnn2]; exact RN, SN, BN⟩
      case measure => simp [intOf]; omega
  · have hieq : i = l.length := by omega
    have hR2 := hR.out; rw [show l.length + 1 - i = 0 + 1 by omega] at hR2
    have co := hR2.cell (get_next o 0); have fo := hR2.free o.length; have hS2 := hS.out; rw [List.take_of_length_le (by omega), List.take_of_length_le (by omega), VM.out, VN.out, ← HR.out] at hS2
    obtain ⟨cn, rfl, hcn, hvn⟩ := blend_fin hol hok.out hS2 H0.out (by omega)
    have hRN := hR2.set o.length cn; rw [set_next, List.replicate_zero, List.append_nil, hol, hieq] at hRN; rw [hol, hieq] at co fo; have RN := hid hRN; have BN := hid (below_store (i := l.length) (v := .int .u32 (cn : Int)) hB.out (Nat.le_refl _)); have hcy' : IntKind.u32.wrap (cn : Int) = (cn : Int) := by rw [IntKind.wrap_u32]; omega
    have hlen : (o ++ [cn]).length = l.length + 1 := by simp [hol, hieq]
    have OKN : Hid (Wok (o ++ [cn])) := hid (hok.out.append (Wok.cons hcn Wok.nil)); have HV := hid hvn; have W2 : Hid (Wd (wr.setCell ⟨w.heap.size, l.length, none⟩ (.int .u32 (cn : Int))) (.slice (some ⟨w.heap.size, 0, none⟩) (l.length + 1) (l.length + 1)) (o ++ [cn])) := hid (by have := RN.out.wd (cap := l.length + 1) (by omega); rw [hlen] at this; exact this)
    have hlen2 : (o ++ [cn]).length ≤ 1099511627776 := by omega
    subst hieq; clear hR2 hRN hvn hS2 hcl hch hlen; go_wp2_with fail
    first | (refine (btrim _ _ _ W2.out OKN.out hlen2).mono ?_) | (refine (etrim _ _ _ W2.out OKN.out hlen2).mono ?_)
    rintro e w' ⟨v, rfl, hw, hbl, rfl⟩; rw [HV.out] at hw; have HW := hid hw; clear hw; go_wp2_with fail
    go_ret
    exact ⟨_, rfl, HW.out, (Fresh.own (Nat.le_refl _)).of hbl, BN.out⟩)
theorem bblend : type_of% (@bblend_any 225 (.inl rfl)) := @bblend_any 225 (.inl rfl)
theorem eblend : type_of% (@bblend_any 232 (.inr rfl)) := @bblend_any 232 (.inr rfl)
theorem pow2_of {n : Nat} (h0 : n ≠ 0) (h : tz n + 1 = bl n) : n = 2 ^ tz n := by
 obtain ⟨q, hq⟩ := tz_spec h0; have h1 := bl_lt n; rw [← h, Nat.pow_succ] at h1; obtain ⟨p, hp⟩ : ∃ p, p = 2 ^ tz n := ⟨_, rfl⟩; rw [← hp] at hq h1 ⊢; rcases Nat.eq_zero_or_pos q with e | e
 · rw [e] at hq; omega
 · exfalso
   have h2 : p * 2 < p * (2 * q + 1) := Nat.mul_lt_mul_of_pos_left (by omega) (by rcases Nat.eq_zero_or_pos p with h | h; · rw [h] at hq; omega
                                                                                  · exact h)
   omega
theorem gcd_pow2 {m k : Nat} (hm : m ≠ 0) : Nat.gcd m (2 ^ k) = 2 ^ min (tz m) k := by
 obtain ⟨q, hq⟩ := tz_spec hm; rcases Nat.le_total k (tz m) with h | h
 · rw [Nat.min_eq_right h]; refine Nat.gcd_eq_right ?_
   rw [hq, show tz m = k + (tz m - k) by omega, Nat.pow_add, Nat.mul_assoc]
   exact Nat.dvd_mul_right _ _
 · rw [Nat.min_eq_left h]; obtain ⟨d, rfl⟩ : ∃ d, k = tz m + d := ⟨k - tz m, by omega⟩
   have hc : Nat.gcd (2 * q + 1) (2 ^ d) = 1 := by
    have : Nat.Coprime (2 * q + 1) 2 := by
     unfold Nat.Coprime; rw [Nat.gcd_comm, Nat.gcd_rec, Nat.mul_add_mod]; rfl
    exact Nat.Coprime.pow_right d this
   calc Nat.gcd m (2 ^ (tz m + d)) = Nat.gcd (2 ^ tz m * (2 * q + 1)) (2 ^ tz m * 2 ^ d) := by rw [← hq, Nat.pow_add]
    _ = 2 ^ tz m := by rw [Nat.gcd_mul_left, hc, Nat.mul_one]
structure Co (X Y x y u0 u1 u2 v0 v1 v2 : Nat) (ev : Bool) : Prop where
 L : Lh X Y x y u1 u2 v1 v2 ev
 prev : v0 = 0 ∨ ∃ xp yp, Lh X Y xp yp u0 u1 v0 v1 (!ev) ∧ v1 ≤ yp ∧ v0 + v1 ≤ xp - yp
theorem Co.start {X Y : Nat} (h : Y ≤ X) : Co X Y X Y 0 1 0 0 0 1 false := ⟨Lh.start h, .inl rfl⟩
theorem Co.step {X Y x y u0 u1 u2 v0 v1 v2 : Nat} {ev : Bool} (C : Co X Y x y u0 u1 u2 v0 v1 v2 ev) (hy : 0 < y) (h1 : v2 ≤ y) (h2 : v1 + v2 ≤ x - y) : Co X Y y (x - x / y * y) u1 u2 (u1 + x / y * u2) v1 v2 (v1 + x / y * v2) (!ev) :=
 ⟨C.L.step hy, .inr ⟨x, y, by rw [Bool.not_not]; exact C.L, h1, h2⟩⟩
theorem Co.bound {X Y x y u0 u1 u2 v0 v1 v2 : Nat} {ev : Bool} (C : Co X Y x y u0 u1 u2 v0 v1 v2 ev) (hX : X < 2 ^ 60) (h1 : v2 ≤ y) : y ≤ x ∧ 0 < y ∧ x < 2 ^ 60 ∧ x / y * y ≤ x ∧ u1 < 2 ^ 60 ∧ v1 < 2 ^ 60 ∧ x / y * u2 < 2 ^ 60 ∧ x / y * v2 < 2 ^ 60 ∧ v2 < 2 ^ 60 ∧ x / y < 2 ^ 60 := by
 have hs := C.L.small hX h1; have hxy := C.L.xy; have hv := C.L.v2p; have hX2 := C.L.hX
 have hxX : x ≤ X := by
  rw [hX2]; have := Nat.mul_le_mul_right x hv; omega
 have e := Nat.div_mul_le_self x y; have a := Nat.mul_le_mul_left (x / y) h1
 have u2y : u2 ≤ y := by
  rcases C.L.st with ⟨-, -, h, -⟩ | ⟨-, h, -⟩ <;> omega
 have b := Nat.mul_le_mul_left (x / y) u2y; have c := Nat.div_le_self x y; refine ⟨hxy, by omega, by omega, e, ?_, ?_, by omega, by omega, ?_, by omega⟩
 · have := hs.2.2.1; have : (2 : Nat) ^ 30 < 2 ^ 60 := by decide
   omega
 · have := hs.2.1; have : (2 : Nat) ^ 30 < 2 ^ 60 := by decide
   omega
 · omega
def Fin2 (A B u0 u1 v0 v1 : Nat) (ev : Bool) : Prop :=
 u0 < 1073741824 ∧ u1 < 1073741824 ∧ v0 < 1073741824 ∧ v1 < 1073741824 ∧
 (ev = true → v0 * B ≤ u0 * A ∧ u1 * A ≤ v1 * B ∧ v1 * B - u1 * A < u0 * A - v0 * B ∧ u0 * A - v0 * B ≤ B ∧ Nat.gcd (u0 * A - v0 * B) (v1 * B - u1 * A) = Nat.gcd A B) ∧
 (ev = false → u0 * A ≤ v0 * B ∧ v1 * B ≤ u1 * A ∧ u1 * A - v1 * B < v0 * B - u0 * A ∧ v0 * B - u0 * A ≤ B ∧ Nat.gcd (v0 * B - u0 * A) (u1 * A - v1 * B) = Nat.gcd A B)
theorem Co.fin {A B N x y u0 u1 u2 v0 v1 v2 : Nat} {ev : Bool} (hN : 0 < N) (hX : A / N < 2 ^ 60) (C : Co (A / N) (B / N) x y u0 u1 u2 v0 v1 v2 ev) (hv : v0 ≠ 0) : Fin2 A B u0 u1 v0 v1 ev := by
 rcases C.prev with h | ⟨xp, yp, L, h1, h2⟩
 · exact absurd h hv
 · obtain ⟨b1, b2, b3, b4⟩ := L.small hX h1; have r := lehmer_round hN L h1 h2 hv; have e30 : (2 : Nat) ^ 30 = 1073741824 := by decide
   rw [e30] at b1 b2 b3 b4; refine ⟨b3, b4, b2, b1, fun e => r.1 (by rw [e]; rfl), fun e => r.2 (by rw [e]; rfl)⟩
theorem three_words {n : Nat} (h : 2 < (words n).length) : 18446744073709551616 ≤ n := by
 have hn : n ≠ 0 := fun e => by rw [e, words_0] at h; simp at h
 have := words_top hn; have h2 : 4294967296 ^ 2 ≤ 4294967296 ^ ((words n).length - 1) := Nat.pow_le_pow_right (by decide) (by omega)
 have e : (4294967296 : Nat) ^ 2 = 18446744073709551616 := by decide
 omega
theorem two_words {n : Nat} (h : (words n).length ≤ 2) : n < 18446744073709551616 := by
 have := words_lt n; have h2 : 4294967296 ^ (words n).length ≤ 4294967296 ^ 2 := Nat.pow_le_pow_right (by decide) h
 have e : (4294967296 : Nat) ^ 2 = 18446744073709551616 := by decide
 omega
theorem bl_three {n : Nat} (h : 18446744073709551616 ≤ n) : 64 < bl n := by
 rcases Nat.lt_or_ge 64 (bl n) with h1 | h1
 · exact h1
 · exfalso
   have a := bl_lt n; have b : (2 : Nat) ^ bl n ≤ 2 ^ 64 := Nat.pow_le_pow_right (by decide) h1
   have e : (2 : Nat) ^ 64 = 18446744073709551616 := by decide
   omega
theorem top60 {n k : Nat} (h : bl n = k + 60) : n / 2 ^ k < 1152921504606846976 := by
 rw [Nat.div_lt_iff_lt_mul (Nat.pow_pos (by decide))]
 have a := bl_lt n; rw [h, Nat.pow_add, Nat.mul_comm] at a; have e : (2 : Nat) ^ 60 = 1152921504606846976 := by decide
 rw [e] at a; exact a
theorem gcd_step {x y : Nat} (hy : y ≠ 0) : Nat.gcd y (x % y) = Nat.gcd x y := by
 rw [Nat.gcd_comm x y, Nat.gcd_rec y x, Nat.gcd_comm]
theorem int_le {a b c d : Nat} (h : c * d ≤ a * b) : 0 ≤ (a : Int) * (b : Int) + -(c : Int) * (d : Int) ∧ ((a : Int) * (b : Int) + -(c : Int) * (d : Int)).toNat = a * b - c * d := by
 have e : (a : Int) * (b : Int) + -(c : Int) * (d : Int) = ((a * b - c * d : Nat) : Int) := by
  rw [Int.neg_mul, ← Int.natCast_mul, ← Int.natCast_mul]; omega
 rw [e]; exact ⟨by omega, Int.toNat_natCast _⟩
theorem int_le2 {a b c d : Nat} (h : a * b ≤ c * d) : 0 ≤ -(a : Int) * (b : Int) + (c : Int) * (d : Int) ∧ (-(a : Int) * (b : Int) + (c : Int) * (d : Int)).toNat = c * d - a * b := by
 rw [Int.add_comm]; exact int_le h
end Go.Proofs.YthjeejnggpjnjaaGreatDoor
