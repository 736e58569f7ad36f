/- A part: FL, FM, FN, FO. -/
import Derived.Test.YthjeejnggpjnjaaGreatDoorZP02
set_option linter.unusedSimpArgs false
set_option linter.unusedVariables false
set_option maxRecDepth 100000
set_option maxHeartbeats 16000000
set_option synthInstance.maxHeartbeats 2000000
set_option synthInstance.maxSize 100000
namespace Go.Proofs.YthjeejnggpjnjaaGreatDoor
open Go.RowKit
set_option maxRecDepth 100000
theorem pow_cancel {m n a b : Nat} (c : Nat) (h : m * 2 ^ (a + c) = n * 2 ^ (b + c)) : m * 2 ^ a = n * 2 ^ b := by
 rw [Nat.pow_add, Nat.pow_add, ← Nat.mul_assoc, ← Nat.mul_assoc] at h; exact Nat.eq_of_mul_eq_mul_right (Nat.pow_pos (by decide)) h
theorem log2_shift {n : Nat} (a : Nat) (h : 0 < n) : (n * 2 ^ a).log2 = n.log2 + a := by
 refine log2_of ?_ ?_
 · rw [Nat.pow_add]; exact Nat.mul_le_mul_right _ (Nat.log2_self_le (by omega))
 · rw [show n.log2 + a + 1 = (n.log2 + 1) + a by omega, Nat.pow_add]; exact Nat.mul_lt_mul_of_pos_right Nat.lt_log2_self (Nat.pow_pos (by decide))
theorem near_whole (neg : Bool) {mag k a b : Nat} (h1 : 1 ≤ k) (h2 : k ≤ 9007199254740992) (h : mag * 2 ^ a = k * 2 ^ b) :
 ∃ L f : Nat, Ieee.double.nearest neg mag ((a : Int) - (b : Int)) = Ieee.double.word neg ((L + 1023) * 4503599627370496 + f) ∧ f < 4503599627370496 ∧ L ≤ 53 ∧ k * 4503599627370496 = (4503599627370496 + f) * 2 ^ L := by
 have hm : 0 < mag := by
  rcases Nat.eq_zero_or_pos mag with e | e
  · rw [e, Nat.zero_mul] at h; have := Nat.mul_pos h1 (Nat.pow_pos (n := b) (show 0 < 2 by decide))
    omega
  · exact e
 obtain ⟨L, hL⟩ : ∃ L, L = k.log2 := ⟨_, rfl⟩
 have hlog : mag.log2 + a = L + b := by
  have e := congrArg Nat.log2 h
  rwa [log2_shift a hm, log2_shift b h1, ← hL] at e
 have a1 : 2 ^ L ≤ k := by rw [hL]; exact Nat.log2_self_le (by omega)
 have a2 : k < 2 ^ (L + 1) := by rw [hL]; exact Nat.lt_log2_self
 have hL2 : L ≤ 53 := by
  have h3 : 2 ^ L < 2 ^ 54 := Nat.lt_of_le_of_lt a1 (by omega)
  have := (Nat.pow_lt_pow_iff_right (by decide : 1 < 2)).1 h3
  omega
 -- the number with 53 digits
 obtain ⟨c, hc, c1, c2⟩ : ∃ c, c * 2 ^ L = k * 4503599627370496 ∧ 4503599627370496 ≤ c ∧ c < 9007199254740992 := by
  rcases Nat.lt_or_ge L 53 with q | q
  · obtain ⟨s, hs⟩ : ∃ s, s + L = 52 := ⟨52 - L, by omega⟩
    have e : (2 : Nat) ^ s * 2 ^ L = 4503599627370496 := by rw [← Nat.pow_add, hs]
    refine ⟨k * 2 ^ s, by rw [Nat.mul_assoc, e], ?_, ?_⟩
    · rw [← e, Nat.mul_comm]; exact Nat.mul_le_mul_right _ a1
    · have : k * 2 ^ s < 2 ^ (L + 1) * 2 ^ s := Nat.mul_lt_mul_of_pos_right a2 (Nat.pow_pos (by decide))
      rwa [← Nat.pow_add, show L + 1 + s = 53 by omega] at this
  · obtain rfl : L = 53 := by omega
    obtain rfl : k = 9007199254740992 := by omega
    exact ⟨4503599627370496, by decide, by omega, by omega⟩
 have hmag : mag * 2 ^ (a + 52) = c * 2 ^ (L + b) := by
  rw [Nat.pow_add, ← Nat.mul_assoc, h, Nat.pow_add, ← Nat.mul_assoc, hc, show (2 : Nat) ^ 52 = 4503599627370496 by decide]
  rw [Nat.mul_assoc, Nat.mul_comm (2 ^ b), ← Nat.mul_assoc]
 refine ⟨L, c - 4503599627370496, ?_, by omega, hL2, by rw [show 4503599627370496 + (c - 4503599627370496) = c by omega, hc]⟩
 have hlast : max (((a : Int) - (b : Int)) + (mag.log2 : Nat) - 52) (-1074) = (L : Int) - 52 := by clear hmag h a1 a2 hc; omega
 have fin : min ((L + 1022) * 4503599627370496 + c) 9218868437227405312 = (L + 1023) * 4503599627370496 + (c - 4503599627370496) := by clear hmag h a1 a2 hc hlast; omega
 rcases Nat.le_total (a + 52) (L + b) with q | q
 · obtain ⟨s, hs⟩ : ∃ s, L + b = s + (a + 52) := ⟨L + b - (a + 52), by omega⟩
   have e : mag = c * 2 ^ s := by
    have := pow_cancel (a := 0) (b := s) (a + 52) (m := mag) (n := c) (by rw [Nat.zero_add, hmag, hs])
    rwa [Nat.pow_zero, Nat.mul_one] at this
   rw [e] at hlast ⊢; rw [near_down neg c s _ (by omega) (by rw [hlast]; clear hmag h a1 a2 hc fin e; omega), show (((a : Int) - (b : Int)) + (s : Int) + 1074).toNat = L + 1022 by clear hmag h a1 a2 hc fin e hlast; omega, fin]
 · obtain ⟨s, hs⟩ : ∃ s, a + 52 = s + (L + b) := ⟨a + 52 - (L + b), by omega⟩
   have e : mag * 2 ^ s = c := by
    have := pow_cancel (a := s) (b := 0) (L + b) (m := mag) (n := c) (by rw [Nat.zero_add, ← hmag, hs])
    rwa [Nat.pow_zero, Nat.mul_one] at this
   rw [near_up neg mag s _ hm (by rw [hlast]; clear hmag h a1 a2 hc fin e; omega), show (((a : Int) - (b : Int)) - (s : Int) + 1074).toNat = L + 1022 by clear hmag h a1 a2 hc fin e hlast; omega, e, fin]
theorem word_eq (neg : Bool) (r : Nat) : Ieee.double.word neg r = if neg then 9223372036854775808 + r else r := by
 unfold Ieee.Format.word; rw [D_sw]
def IsI (b : Nat) (n : Int) : Prop := b < 18446744073709551616 ∧ finB b = true ∧ frat b = (n : _root_.Rat)
theorem mkRat_int {z n : Int} {d : Nat} (h : d ≠ 0) : mkRat z d = (n : _root_.Rat) ↔ z = n * (d : Int) := by
 rw [show (n : _root_.Rat) = mkRat n 1 from (Rat.mkRat_self (n : _root_.Rat)).symm, Rat.mkRat_eq_iff h (by decide)]
 constructor
 · intro e; rw [← e]; exact (Int.mul_one z).symm
 · intro e; rw [e]; exact Int.mul_one _
theorem isI_zero (neg : Bool) : IsI (Ieee.double.word neg 0) 0 := by
 cases neg
 · exact ⟨by decide, by decide, by decide +kernel⟩
 · exact ⟨by decide, by decide, by decide +kernel⟩
theorem isI_word (neg : Bool) {k L f : Nat} (hf : f < 4503599627370496) (hL : L ≤ 53) (h : k * 4503599627370496 = (4503599627370496 + f) * 2 ^ L) : IsI (Ieee.double.word neg ((L + 1023) * 4503599627370496 + f)) (sg neg k) := by
 rw [word_eq]; obtain ⟨r, hr⟩ : ∃ r, r = (L + 1023) * 4503599627370496 + f := ⟨_, rfl⟩; have hr1 : r < 9218868437227405312 := by clear h; omega
 have hr2 : r / 4503599627370496 = L + 1023 := by clear h; omega
 have hr3 : r % 4503599627370496 = f := by clear h; omega
 rw [← hr]; clear hr; obtain ⟨b, hb⟩ : ∃ b, b = if neg = true then 9223372036854775808 + r else r := ⟨_, rfl⟩
 rw [← hb]; have b1 : b < 18446744073709551616 := by rw [hb]; split <;> omega
 have b2 : b % 9223372036854775808 = r := by rw [hb]; split <;> omega
 have b3 : fneg b = neg := by
  unfold fneg; cases neg
  · rw [decide_eq_false_iff_not, hb, if_neg (by decide)]; omega
  · rw [decide_eq_true_eq, hb, if_pos rfl]; omega
 have b4 : fexp b = L + 1023 := by unfold fexp; clear h hr3 b3 hb; omega
 have b5 : fman b = f := by unfold fman; clear h b3 hb b4 hr2; omega
 refine ⟨b1, by unfold finB; rw [b2, decide_eq_true_eq]; exact hr1, ?_⟩
 unfold frat fnum fpow; rw [b3, b4, b5, if_neg (by omega), if_neg (by omega), mkRat_int (two_ne _)]
 have key : (f + 4503599627370496) * 2 ^ (L + 1023 - 1075) = k * 2 ^ (1075 - (L + 1023)) := by
  rcases Nat.lt_or_ge L 53 with q | q
  · rw [show L + 1023 - 1075 = 0 by omega, Nat.pow_zero, Nat.mul_one]
    obtain ⟨s, hs⟩ : ∃ s, s + L = 52 := ⟨52 - L, by omega⟩
    rw [show 1075 - (L + 1023) = s by omega]
    have e : (2 : Nat) ^ s * 2 ^ L = 4503599627370496 := by rw [← Nat.pow_add, hs]
    refine Nat.eq_of_mul_eq_mul_right (Nat.pow_pos (n := L) (show 0 < 2 by decide)) ?_
    rw [Nat.mul_assoc, e, h, Nat.add_comm]
  · have e53 : L = 53 := by omega
    clear hr2 b4 b5 hr1 hr3 b1 b2 b3 hb; rw [e53] at h ⊢; have e2 : (2 : Nat) ^ 53 = 9007199254740992 := by decide
    rw [e2] at h; rw [show 53 + 1023 - 1075 = 1 from rfl, show 1075 - (53 + 1023) = 0 from rfl, Nat.pow_one, Nat.pow_zero, Nat.mul_one]
    refine Nat.eq_of_mul_eq_mul_right (show 0 < 4503599627370496 by decide) ?_
    rw [h, Nat.add_comm f, Nat.mul_assoc]
 rw [key]; cases neg
 · show ((k * 2 ^ _ : Nat) : Int) = (k : Int) * _
   rw [Int.natCast_mul]
 · show -((k * 2 ^ _ : Nat) : Int) = -(k : Int) * _
   rw [Int.natCast_mul, Int.neg_mul]
def DI (s : Bool) (m : Nat) (p : Int) (x : Int) : Prop := ∃ a b : Nat, p = (a : Int) - (b : Int) ∧ m * 2 ^ a = x.natAbs * 2 ^ b ∧ (s = true → x ≤ 0) ∧ (s = false → 0 ≤ x)
theorem DI.write {s : Bool} {m : Nat} {p x : Int} (h : DI s m p x) (hx : x.natAbs ≤ 9007199254740992) : IsI (Ieee.double.write (.number s m p)) x := by
 obtain ⟨a, b, rfl, e, h1, h2⟩ := h; show IsI (Ieee.double.nearest s m ((a : Int) - (b : Int))) x
 have hsg : sg s x.natAbs = x := by
  cases s
  · have := h2 rfl; show ((x.natAbs : Nat) : Int) = x; omega
  · have := h1 rfl; show -((x.natAbs : Nat) : Int) = x; omega
 by_cases h0 : x = 0
 · subst h0
   have hm : m = 0 := by
    rw [show (0 : Int).natAbs = 0 from rfl, Nat.zero_mul] at e
    rcases Nat.mul_eq_zero.1 e with k | k
    · exact k
    · have := Nat.pow_pos (n := a) (show 0 < 2 by decide); omega
   rw [hm]; unfold Ieee.Format.nearest; rw [if_pos rfl]; exact isI_zero s
 · obtain ⟨L, f, e1, e2, e3, e4⟩ := near_whole s (by omega) hx e
   rw [e1]; have := isI_word s e2 e3 e4
   rwa [hsg] at this
theorem read_fin {b : Nat} (hb : b < 18446744073709551616) (h : finB b = true) : Ieee.double.read b = .number (fneg b) (fnum b) ((fpow b : Int) - 1075) := by
 unfold finB at h; rw [decide_eq_true_eq] at h; unfold Ieee.Format.read; simp only [D_sw, D_bin, D_inf, D_least]
 have e0 : (b / 9223372036854775808 % 2 == 1) = fneg b := by
  unfold fneg; by_cases k : b / 9223372036854775808 = 1
  · rw [k]; rfl
  · have : b / 9223372036854775808 = 0 := by omega
    rw [this]; rfl
 rw [e0]; by_cases k : b % 9223372036854775808 < 4503599627370496
 · rw [if_pos k]; have e1 : fexp b = 0 := by unfold fexp; omega
   unfold fnum fpow; rw [if_pos e1, if_pos e1]
   congr 1
   unfold fman; omega
 · rw [if_neg k, if_pos h]; have e1 : fexp b ≠ 0 := by unfold fexp; omega
   unfold fnum fpow; rw [if_neg e1, if_neg e1]
   congr 1
   · unfold fman; omega
   · unfold fexp at *; omega
theorem IsI.di {b : Nat} {n : Int} (h : IsI b n) : DI (fneg b) (fnum b) ((fpow b : Int) - 1075) n := by
 obtain ⟨h1, h2, h3⟩ := h; unfold frat at h3; rw [mkRat_int (two_ne _)] at h3; refine ⟨fpow b - 1075, 1075 - fpow b, by omega, ?_, ?_⟩
 · have e := congrArg Int.natAbs h3; rw [sg_abs, Int.natAbs_mul, Int.natAbs_natCast] at e; exact e
 · have hp : (0 : Int) < ((2 ^ (1075 - fpow b) : Nat) : Int) := by have := Nat.pow_pos (n := 1075 - fpow b) (show 0 < 2 by decide); omega
   constructor
   · intro hs; rw [hs] at h3; have h4 : -((fnum b * 2 ^ (fpow b - 1075) : Nat) : Int) = n * ((2 ^ (1075 - fpow b) : Nat) : Int) := h3; rcases Int.lt_or_le 0 n with q | q
     · exfalso
       have := Int.mul_pos q hp; omega
     · exact q
   · intro hs; rw [hs] at h3; have h4 : ((fnum b * 2 ^ (fpow b - 1075) : Nat) : Int) = n * ((2 ^ (1075 - fpow b) : Nat) : Int) := h3; rcases Int.lt_or_le n 0 with q | q
     · exfalso
       have := Int.mul_neg_of_neg_of_pos q hp; omega
     · exact q
theorem DI.mul {s t : Bool} {m n : Nat} {p q x y : Int} (h : DI s m p x) (k : DI t n q y) : DI (s ^^ t) (m * n) (p + q) (x * y) := by
 obtain ⟨a, b, rfl, e, h1, h2⟩ := h; obtain ⟨c, d, rfl, f, k1, k2⟩ := k; refine ⟨a + c, b + d, by omega, ?_, ?_⟩
 · rw [Int.natAbs_mul, Nat.pow_add, Nat.pow_add]
   calc m * n * (2 ^ a * 2 ^ c) = (m * 2 ^ a) * (n * 2 ^ c) := by grind
    _ = _ := by rw [e, f]; grind
 · cases s <;> cases t
   · exact ⟨fun h => absurd h (by decide), fun _ => Int.mul_nonneg (h2 rfl) (k2 rfl)⟩
   · exact ⟨fun _ => Int.mul_nonpos_of_nonneg_of_nonpos (h2 rfl) (k1 rfl), fun h => absurd h (by decide)⟩
   · exact ⟨fun _ => Int.mul_nonpos_of_nonpos_of_nonneg (h1 rfl) (k2 rfl), fun h => absurd h (by decide)⟩
   · exact ⟨fun h => absurd h (by decide), fun _ => Int.mul_nonneg_of_nonpos_of_nonpos (h1 rfl) (k1 rfl)⟩
theorem DI.neg {s : Bool} {m : Nat} {p x : Int} (h : DI s m p x) : DI (!s) m p (-x) := by
 obtain ⟨a, b, rfl, e, h1, h2⟩ := h; refine ⟨a, b, rfl, by rw [Int.natAbs_neg]; exact e, fun h => ?_, fun h => ?_⟩
 · cases s
   · have := h2 rfl; omega
   · exact absurd h (by decide)
 · cases s
   · exact absurd h (by decide)
   · have := h1 rfl; omega
theorem signed_val {s : Bool} {m : Nat} {p x base : Int} (h : DI s m p x) (hb : base ≤ p) {a b : Nat} (ho : base = (a : Int) - (b : Int)) : Ieee.signed s m (p - base).toNat * ((2 ^ a : Nat) : Int) = x * ((2 ^ b : Nat) : Int) := by
 obtain ⟨c, d, rfl, e, h1, h2⟩ := h; obtain ⟨u, hu⟩ : ∃ u, (((c : Int) - (d : Int)) - base).toNat = u := ⟨_, rfl⟩; rw [hu]
 have e1 : m * 2 ^ (u + a) = x.natAbs * 2 ^ b := by
  refine pow_cancel d ?_
  rw [show u + a + d = c + b by omega, Nat.pow_add, ← Nat.mul_assoc, e, Nat.add_comm b d, Nat.pow_add, Nat.mul_assoc]
 have e2 : ((m * 2 ^ u : Nat) : Int) * ((2 ^ a : Nat) : Int) = ((x.natAbs : Nat) : Int) * ((2 ^ b : Nat) : Int) := by
  rw [← Int.natCast_mul, ← Int.natCast_mul, Nat.mul_assoc, ← Nat.pow_add, e1]
 unfold Ieee.signed; rw [Nat.shiftLeft_eq]; cases s
 · rw [if_neg (by decide), e2]
   have := h2 rfl; rw [show ((x.natAbs : Nat) : Int) = x by omega]
 · rw [if_pos rfl, Int.neg_mul, e2]; have := h1 rfl; rw [show ((x.natAbs : Nat) : Int) = -x by omega, Int.neg_mul, Int.neg_neg]
theorem DI.add {s t : Bool} {m n : Nat} {p q x y : Int} (h : DI s m p x) (k : DI t n q y) : ∃ u r v, Ieee.Datum.sum (.number s m p) (.number t n q) = some (.number u r v) ∧ DI u r v (x + y) := by
 obtain ⟨base, hbase⟩ : ∃ base, base = min p q := ⟨_, rfl⟩; have b1 : base ≤ p := by omega
 have b2 : base ≤ q := by omega
 obtain ⟨a, b, ho⟩ : ∃ a b : Nat, base = (a : Int) - (b : Int) := ⟨base.toNat, (-base).toNat, by omega⟩
 have e1 := signed_val h b1 ho; have e2 := signed_val k b2 ho; obtain ⟨tot, ht⟩ : ∃ tot, tot = Ieee.signed s m (p - base).toNat + Ieee.signed t n (q - base).toNat := ⟨_, rfl⟩; have e3 : tot * ((2 ^ a : Nat) : Int) = (x + y) * ((2 ^ b : Nat) : Int) := by rw [ht, Int.add_mul, e1, e2, Int.add_mul]
 refine ⟨if tot = 0 then s && t else decide (tot < 0), tot.natAbs, base, ?_, a, b, ho, ?_, ?_⟩
 · unfold Ieee.Datum.sum
   simp only
   rw [← hbase, ← ht]
 · have := congrArg Int.natAbs e3
   rwa [Int.natAbs_mul, Int.natAbs_mul, Int.natAbs_natCast, Int.natAbs_natCast] at this
 · have pa : (0 : Int) < ((2 ^ a : Nat) : Int) := by have := Nat.pow_pos (n := a) (show 0 < 2 by decide); omega
   have pb : (0 : Int) < ((2 ^ b : Nat) : Int) := by have := Nat.pow_pos (n := b) (show 0 < 2 by decide); omega
   clear ht e1 e2 hbase b1 b2 ho h k; generalize ((2 ^ a : Nat) : Int) = A at *; generalize ((2 ^ b : Nat) : Int) = B at *; generalize x + y = z at *; rcases Int.lt_trichotomy tot 0 with q | q | q
   · have hz : z < 0 := by
      rcases Int.lt_or_le z 0 with r | r
      · exact r
      · have := Int.mul_nonneg r (Int.le_of_lt pb); have := Int.mul_neg_of_neg_of_pos q pa; omega
     rw [if_neg (by omega)]
     exact ⟨fun _ => by omega, fun h => by rw [decide_eq_false_iff_not] at h; omega⟩
   · have hz : z = 0 := by
      rw [q, Int.zero_mul] at e3; rcases Int.mul_eq_zero.1 e3.symm with r | r
      · exact r
      · omega
     rw [hz]; exact ⟨fun _ => by omega, fun _ => by omega⟩
   · have hz : 0 < z := by
      rcases Int.lt_or_le 0 z with r | r
      · exact r
      · have := Int.mul_pos q pa; have := Int.mul_nonpos_of_nonpos_of_nonneg r (Int.le_of_lt pb); omega
     rw [if_neg (by omega)]
     exact ⟨fun h => by rw [decide_eq_true_eq] at h; omega, fun _ => by omega⟩
theorem mul_isI {a b : Nat} {x y : Int} (ha : IsI a x) (hb : IsI b y) (h : (x * y).natAbs ≤ 9007199254740992) : ∃ r, floatBits .mul .f64 a b = some r ∧ IsI r (x * y) := by
 refine ⟨_, ?_, (ha.di.mul hb.di).write h⟩
 show Ieee.double.mul a b = _
 unfold Ieee.Format.mul; rw [read_fin ha.1 ha.2.1, read_fin hb.1 hb.2.1]; rfl
theorem add_isI {a b : Nat} {x y : Int} (ha : IsI a x) (hb : IsI b y) (h : (x + y).natAbs ≤ 9007199254740992) : ∃ r, floatBits .add .f64 a b = some r ∧ IsI r (x + y) := by
 obtain ⟨u, r, v, e, k⟩ := ha.di.add hb.di; refine ⟨_, ?_, k.write h⟩
 show Ieee.double.add a b = _
 unfold Ieee.Format.add; rw [read_fin ha.1 ha.2.1, read_fin hb.1 hb.2.1, e]; rfl
theorem sub_isI {a b : Nat} {x y : Int} (ha : IsI a x) (hb : IsI b y) (h : (x - y).natAbs ≤ 9007199254740992) : ∃ r, floatBits .sub .f64 a b = some r ∧ IsI r (x - y) := by
 obtain ⟨u, r, v, e, k⟩ := ha.di.add hb.di.neg; rw [show x + -y = x - y by omega] at k
 refine ⟨_, ?_, k.write h⟩
 show Ieee.double.sub a b = _
 unfold Ieee.Format.sub; rw [read_fin ha.1 ha.2.1, read_fin hb.1 hb.2.1]; show Option.map _ (Ieee.Datum.sum _ (.number _ _ _)) = _
 rw [e]; rfl
theorem int_isI {n : Int} (h : n.natAbs ≤ 9007199254740992) : IsI (floatOfInt .f64 n) n := by
 have d : DI (decide (n < 0)) n.natAbs 0 n := ⟨0, 0, rfl, rfl, fun h => by rw [decide_eq_true_eq] at h; omega, fun h => by rw [decide_eq_false_iff_not] at h; omega⟩
 exact d.write h
def Gl (w : World) (a : Option Addr) (l : List (Int × Int)) : Prop := ∀ (i : Nat) (x : Int × Int), l[i]? = some x → ∃ g off, a = some ⟨g, off, none⟩ ∧ g < w.heap.size ∧ w.cell? ⟨g, off + i * 2, none⟩ = some (.int .i16 x.1) ∧ w.cell? ⟨g, off + i * 2 + 1, none⟩ = some (.int .i16 x.2)
theorem Gl.grow {w W : World} {a : Option Addr} {l : List (Int × Int)} (h : Gl w a l) (k : Gr w W) : Gl W a l := fun i z hz => by
 obtain ⟨g, off, e, hg, c0, c1⟩ := h i z hz; exact ⟨g, off, e, Nat.lt_of_lt_of_le hg k.out.size, (World.cell?_of_block (w := w) (k.out.block g hg)).trans c0, (World.cell?_of_block (w := w) (k.out.block g hg)).trans c1⟩
def fbit (x : Int × Int) : Nat × Nat := (floatOfInt .f64 x.1, floatOfInt .f64 x.2)
def ok16 (l : List (Int × Int)) : Prop := ∀ x ∈ l, (-32768 ≤ x.1 ∧ x.1 ≤ 32767) ∧ (-32768 ≤ x.2 ∧ x.2 ≤ 32767)
theorem lwGof {w : World} {x y : Int} :
 Calls Tryz.prog 24 #[.agg #[.int .i16 x, .int .i16 y]] w fun e w' => e = .returned (.complex .f64 (floatOfInt .f64 x) (floatOfInt .f64 y)) ∧ Kp0 w w' := by
 go_enter Tryz.func24, Tryz.ntmps24; go_wp2_with fail
 go_ret
 exact ⟨rfl, ⟨Gr.out⟩⟩
theorem lwOf {w : World} {a : Option Addr} {cap : Nat} {l : List (Int × Int)} (h : Gl w a l) (hn : l.length ≤ 1048575) :
 Calls Tryz.prog 22 #[.slice a l.length cap] w fun e w' => ∃ v, e = .returned v ∧ Ox 29 EC w.heap.size w' v (l.map fbit) ∧ Kp0 w w' := by
 have HH := hid h; obtain ⟨n, hn2⟩ : ∃ n, n = l.length := ⟨_, rfl⟩; have HL := hid hn2; rw [← hn2] at hn ⊢; have HN := hid hn; clear h hn2; go_enter Tryz.func22, Tryz.ntmps22; go_wp2_with fail
 go_loopw [3, 4] (fun s3 s4 wx => ∃ j : Nat, s4 = .int .i64 j ∧ j ≤ n ∧ Ox 29 EC w.heap.size wx s3 ((l.take j).map fbit) ∧ Kp0 w wx) (fun _ s4 _ => n - (intOf s4).toNat)
 case atStart => exact ⟨0, rfl, Nat.zero_le _, Ox.nil _ _, ⟨Gr.out⟩⟩
 case round =>
  obtain ⟨j, rfl, hj, hO, ik⟩ := hrel; by_cases hjn : j = n
  · subst hjn; have HO : Hid (Ox 29 EC w.heap.size wr u3 (l.map fbit)) := hid (by rw [HL.out, List.take_length] at hO; exact hO)
    clear hO hj; go_wp2_with fail
    go_ret
    exact ⟨_, rfl, HO.out, ⟨Gr.out⟩⟩
  · have hlt : j < n := by omega
    have hI : (j : Int) < (n : Int) := by omega
    have h0 : (0 : Int) ≤ (j : Int) := by omega
    obtain ⟨x, hx⟩ : ∃ x, l[j]? = some x := ⟨_, List.getElem?_eq_getElem (by rw [← HL.out]; exact hlt)⟩
    obtain ⟨g, off, rfl, hg, c0, c1⟩ := HH.out j x hx; haveI : Has w g := ⟨hg⟩; have HJ := hid hx; have HO := hid hO; have HLT := hid hlt; have HLE := hid (show ((l.take j).map fbit).length + [fbit x].length ≤ 1048576 by rw [List.length_map, List.length_take, List.length_singleton]; have := HN.out; omega)
    have HNX := hid (show (l.take (j + 1)).map fbit = (l.take j).map fbit ++ [fbit x] by rw [List.take_add_one, hx, List.map_append]; rfl)
    clear hx hO hlt hjn hj; go_wp2_with (first | (go_at_call 24; (with_reducible refine Calls.mono (lwGof) ?_); rintro e wc ⟨rfl, _⟩) | (at_builtin; refine app_c rfl _ _ rfl w.heap.size rfl (HO.out.below eok_EC (Gr.out (v := wr))) rfl (Ox.one eok_EC (rfl : EC _ (.complex .f64 (fbit x).1 (fbit x).2) (fbit x))).rw Nat.one_pos HLE.out ?_ ?_; (focus (rw [World.size_alloc]; exact Nat.le_succ_of_le (Gr.out (v := w)).size)); intro g' cap' n' wz hn' ho' hg' hbl; have HN' := hid hn'; have HO' := hid ho'; clear hn' ho'; haveI ka : Kp0 w wz := ⟨hbl w (Nat.le_refl _) (Gr.out (v := w))⟩))
    go_round
    case rel =>
     exact ⟨j + 1, by go_num, HLT.out, by rw [HNX.out]; exact HO'.out.below eok_EC Gr.out, ⟨Gr.out⟩⟩
    case measure => first | (simp [intOf]; done) | (simp [intOf]; omega)
def smallB (m : Int) (l : List (Int × Int)) : Bool := l.all fun x => !(decide (m < x.1) || decide (x.1 < -m) || decide (m < x.2) || decide (x.2 < -m))
theorem smallB_bad {m : Int} {l : List (Int × Int)} {j : Nat} {x : Int × Int} (h : l[j]? = some x) (k : m < x.1 ∨ x.1 < -m ∨ m < x.2 ∨ x.2 < -m) : smallB m l = false := by
 unfold smallB; rw [List.all_eq_false]; refine ⟨x, List.mem_of_getElem? h, ?_⟩
 simp only [Bool.not_eq_true, Bool.not_eq_false', Bool.or_eq_true, decide_eq_true_eq]
 grind
theorem smallB_iff {m : Int} {l : List (Int × Int)} : smallB m l = true ↔ ∀ x ∈ l, (-m ≤ x.1 ∧ x.1 ≤ m) ∧ (-m ≤ x.2 ∧ x.2 ≤ m) := by
 unfold smallB; rw [List.all_eq_true]
 constructor
 · intro h x hx; have := h x hx; simp only [Bool.not_eq_true', Bool.or_eq_false_iff, decide_eq_false_iff_not] at this; omega
 · intro h x hx; have := h x hx; simp only [Bool.not_eq_true', Bool.or_eq_false_iff, decide_eq_false_iff_not]; omega
theorem lwSmall {w : World} {a : Option Addr} {cap : Nat} {m : Int} {l : List (Int × Int)} (h : Gl w a l) (hn : l.length ≤ 1048576) (hm : 0 ≤ m ∧ m ≤ 1000) (ho : ok16 l) :
 Calls Tryz.prog 21 #[.slice a l.length cap, .int .i64 m] w fun e w' => e = .returned (.bool (smallB m l)) ∧ Kp0 w w' := by
 have HH := hid h; have HO := hid ho; have SB := hid (fun (j : Nat) (x : Int × Int) (h : l[j]? = some x) (k : m < x.1 ∨ x.1 < -m ∨ m < x.2 ∨ x.2 < -m) => smallB_bad h k)
 have SI := hid (smallB_iff (m := m) (l := l)); generalize smallB m l = V at *; obtain ⟨n, hn2⟩ : ∃ n, n = l.length := ⟨_, rfl⟩; have HL := hid hn2; rw [← hn2] at hn ⊢; have wm : IntKind.i64.wrap (-m) = -m := by rw [IntKind.wrap_i64]; omega
 clear h hn2 hm ho; go_enter Tryz.func21, Tryz.ntmps21; go_wp2_with fail
 go_loopw [5] (fun s5 wx => ∃ j : Nat, s5 = .int .i64 j ∧ j ≤ n ∧ Hid (∀ i x, i < j → l[i]? = some x → (-m ≤ x.1 ∧ x.1 ≤ m) ∧ (-m ≤ x.2 ∧ x.2 ≤ m)) ∧ Kp0 w wx) (fun s5 _ => n - (intOf s5).toNat)
 case atStart => exact ⟨0, rfl, Nat.zero_le _, hid (fun i x h => absurd h (Nat.not_lt_zero _)), ⟨Gr.out⟩⟩
 case round =>
  obtain ⟨j, rfl, hj, HS, ik⟩ := hrel; by_cases hjn : j = n
  · subst hjn
    have hV : V = true := SI.out.2 (fun x hx => by
     obtain ⟨i, hi⟩ := List.getElem?_of_mem hx; exact HS.out i x (by rw [HL.out]; exact (List.getElem?_eq_some_iff.1 hi).1) hi)
    clear hj; go_wp2_with fail
    go_ret
    first | exact ⟨rfl, ⟨Gr.out⟩⟩ | exact ⟨by rw [hV]; rfl, ⟨Gr.out⟩⟩
  · have hlt : j < n := by omega
    have hI : (j : Int) < (n : Int) := by omega
    have h0 : (0 : Int) ≤ (j : Int) := by omega
    obtain ⟨x, hx⟩ : ∃ x, l[j]? = some x := ⟨_, List.getElem?_eq_getElem (by rw [← HL.out]; exact hlt)⟩
    obtain ⟨g, off, rfl, hg, c0, c1⟩ := HH.out j x hx; obtain ⟨⟨o1, o2⟩, o3, o4⟩ := HO.out x (List.mem_of_getElem? hx); haveI : Has w g := ⟨hg⟩; have w1 : IntKind.i64.wrap x.1 = x.1 := by rw [IntKind.wrap_i64]; omega
    have w2 : IntKind.i64.wrap x.2 = x.2 := by rw [IntKind.wrap_i64]; omega
    have HJ := hid hx; have HLT := hid hlt; have bad : ∀ (k : m < x.1 ∨ x.1 < -m ∨ m < x.2 ∨ x.2 < -m), V = false := SB.out j x hx; have HB := hid bad; clear hx hlt hjn hj bad; by_cases t1 : m < x.1
    · have hV := HB.out (.inl t1); go_wp2_with fail
      go_ret
      first | exact ⟨rfl, ⟨Gr.out⟩⟩ | exact ⟨by rw [hV]; rfl, ⟨Gr.out⟩⟩
    · by_cases t2 : x.1 < -m
      · have hV := HB.out (.inr (.inl t2)); go_wp2_with fail
        go_ret
        first | exact ⟨rfl, ⟨Gr.out⟩⟩ | exact ⟨by rw [hV]; rfl, ⟨Gr.out⟩⟩
      · by_cases t3 : m < x.2
        · have hV := HB.out (.inr (.inr (.inl t3))); go_wp2_with fail
          go_ret
          first | exact ⟨rfl, ⟨Gr.out⟩⟩ | exact ⟨by rw [hV]; rfl, ⟨Gr.out⟩⟩
        · by_cases t4 : x.2 < -m
          · have hV := HB.out (.inr (.inr (.inr t4))); go_wp2_with fail
            go_ret
            first | exact ⟨rfl, ⟨Gr.out⟩⟩ | exact ⟨by rw [hV]; rfl, ⟨Gr.out⟩⟩
          · go_wp2_with fail
            go_round
            case rel =>
             refine ⟨j + 1, by go_num, HLT.out, hid (fun i y hi hy => ?_), ⟨Gr.out⟩⟩
             rcases Nat.lt_or_ge i j with q | q
             · exact HS.out i y q hy
             · obtain rfl : i = j := by omega
               rw [HJ.out] at hy; obtain rfl := Option.some.inj hy; omega
            case measure => first | (simp [intOf]; done) | (simp [intOf]; omega)
def gmul (a b : Int × Int) : Int × Int := (a.1 * b.1 - a.2 * b.2, a.1 * b.2 + a.2 * b.1)
def gadd (a b : Int × Int) : Int × Int := (a.1 + b.1, a.2 + b.2)
def stepC (A B S : List (Int × Int)) (i k : Nat) : List (Int × Int) := S.set (i + k) (gadd (S.getD (i + k) (0, 0)) (gmul (A.getD i (0, 0)) (B.getD k (0, 0))))
def rowC (A B S : List (Int × Int)) (i : Nat) : Nat → List (Int × Int)
 | 0 => S
 | k + 1 => stepC A B (rowC A B S i k) i k
def allC (A B : List (Int × Int)) (n : Nat) : Nat → List (Int × Int)
 | 0 => List.replicate n (0, 0)
 | i + 1 => rowC A B (allC A B n i) i B.length
def convI (A B : List (Int × Int)) : List (Int × Int) := allC A B (A.length + B.length - 1) A.length
theorem stepC_len (A B S : List (Int × Int)) (i k : Nat) : (stepC A B S i k).length = S.length := by unfold stepC; rw [List.length_set]
theorem rowC_len (A B S : List (Int × Int)) (i k : Nat) : (rowC A B S i k).length = S.length := by
 induction k with
 | zero => rfl
 | succ k ih => rw [rowC, stepC_len, ih]
theorem allC_len (A B : List (Int × Int)) (n i : Nat) : (allC A B n i).length = n := by
 induction i with
 | zero => rw [allC, List.length_replicate]
 | succ i ih => rw [allC, rowC_len, ih]
def BsC (c : Nat) (S : List (Int × Int)) : Prop := ∀ j, (S.getD j (0, 0)).1.natAbs ≤ c ∧ (S.getD j (0, 0)).2.natAbs ≤ c
def PrC (c : Nat) (A B : List (Int × Int)) : Prop := ∀ i k, ((A.getD i (0, 0)).1 * (B.getD k (0, 0)).1).natAbs ≤ c ∧ ((A.getD i (0, 0)).2 * (B.getD k (0, 0)).2).natAbs ≤ c ∧ ((A.getD i (0, 0)).1 * (B.getD k (0, 0)).2).natAbs ≤ c ∧ ((A.getD i (0, 0)).2 * (B.getD k (0, 0)).1).natAbs ≤ c
theorem getD_set (S : List (Int × Int)) (i j : Nat) (x : Int × Int) : (S.set i x).getD j (0, 0) = if i = j ∧ i < S.length then x else S.getD j (0, 0) := by
 rw [List.getD_eq_getElem?_getD, List.getElem?_set, List.getD_eq_getElem?_getD]; by_cases h : i = j
 · subst h; by_cases h2 : i < S.length
   · rw [if_pos rfl, if_pos h2, if_pos ⟨rfl, h2⟩]; rfl
   · rw [if_pos rfl, if_neg h2, if_neg (fun k => h2 k.2), List.getElem?_eq_none (by omega)]
 · rw [if_neg h, if_neg (fun k => h k.1)]
theorem stepC_bs {A B S : List (Int × Int)} {c d : Nat} (i k : Nat) (h : BsC d S) (p : PrC c A B) : BsC (d + 2 * c) (stepC A B S i k) := by
 intro j; unfold stepC; rw [getD_set]
 split
 · have a := h (i + k); have b := p i k; unfold gadd gmul
   constructor
   · show (_ + (_ - _) : Int).natAbs ≤ _; omega
   · show (_ + (_ + _) : Int).natAbs ≤ _; omega
 · have := h j; omega
theorem rowC_bs {A B S : List (Int × Int)} {c d : Nat} (i k : Nat) (h : BsC d S) (p : PrC c A B) : BsC (d + k * (2 * c)) (rowC A B S i k) := by
 induction k with
 | zero => rw [Nat.zero_mul, Nat.add_zero]; exact h
 | succ k ih =>
   have := stepC_bs i k ih p; rw [Nat.succ_mul, ← Nat.add_assoc]; exact this
theorem allC_bs {A B : List (Int × Int)} {c : Nat} (n i : Nat) (p : PrC c A B) : BsC (i * B.length * (2 * c)) (allC A B n i) := by
 induction i with
 | zero =>
   intro j; rw [allC, List.getD_eq_getElem?_getD, List.getElem?_replicate]
   split <;> simp
 | succ i ih =>
   have := rowC_bs i B.length ih p; rw [← Nat.add_mul, ← Nat.succ_mul] at this; exact this
def IsIC (u : Nat × Nat) (x : Int × Int) : Prop := IsI u.1 x.1 ∧ IsI u.2 x.2
def Zc (m : List (Nat × Nat)) (S : List (Int × Int)) : Prop := m.length = S.length ∧ ∀ (j : Nat) (x : Int × Int), S[j]? = some x → ∃ u, m[j]? = some u ∧ IsIC u x
theorem Zc.at {m : List (Nat × Nat)} {S : List (Int × Int)} (h : Zc m S) {j : Nat} (hj : j < S.length) : ∃ u, m[j]? = some u ∧ IsIC u (S.getD j (0, 0)) := by
 rw [List.getD_eq_getElem?_getD, List.getElem?_eq_getElem hj]; exact h.2 j _ (List.getElem?_eq_getElem hj)
theorem Zc.set {m : List (Nat × Nat)} {S : List (Int × Int)} (h : Zc m S) (j : Nat) {u : Nat × Nat} {x : Int × Int} (k : IsIC u x) : Zc (m.set j u) (S.set j x) := by
 refine ⟨by rw [List.length_set, List.length_set]; exact h.1, fun i y hy => ?_⟩
 rw [List.getElem?_set] at hy ⊢; by_cases e : j = i
 · subst e; rw [if_pos rfl] at hy ⊢; by_cases h2 : j < S.length
   · rw [if_pos h2] at hy; rw [if_pos (by rw [h.1]; exact h2)]
     exact ⟨u, rfl, (Option.some.inj hy) ▸ k⟩
   · rw [if_neg h2] at hy; cases hy
 · rw [if_neg e] at hy ⊢; exact h.2 i y hy
theorem Zc.zeros (n : Nat) : Zc (List.replicate n (0, 0)) (List.replicate n (0, 0)) := by
 refine ⟨by rw [List.length_replicate, List.length_replicate], fun j x hx => ?_⟩
 rw [List.getElem?_replicate] at hx ⊢
 split at hx
 · rename_i h; rw [if_pos h]; exact ⟨_, rfl, (Option.some.inj hx) ▸ ⟨isI_zero false, isI_zero false⟩⟩
 · cases hx
theorem step_isI {u v t : Nat × Nat} {x y s : Int × Int} {c d : Nat} (hu : IsIC u x) (hv : IsIC v y) (ht : IsIC t s) (p1 : (x.1 * y.1).natAbs ≤ c) (p2 : (x.2 * y.2).natAbs ≤ c) (p3 : (x.1 * y.2).natAbs ≤ c) (p4 : (x.2 * y.1).natAbs ≤ c) (s1 : s.1.natAbs ≤ d) (s2 : s.2.natAbs ≤ d) (h : d + 2 * c ≤ 9007199254740992) :
 ∃ r1 r2 r3 r4 r5 r6 r7 r8, floatBits .mul .f64 u.1 v.1 = some r1 ∧ floatBits .mul .f64 u.2 v.2 = some r2 ∧ floatBits .sub .f64 r1 r2 = some r3 ∧ floatBits .mul .f64 u.1 v.2 = some r4 ∧ floatBits .mul .f64 u.2 v.1 = some r5 ∧ floatBits .add .f64 r4 r5 = some r6 ∧ floatBits .add .f64 t.1 r3 = some r7 ∧ floatBits .add .f64 t.2 r6 = some r8 ∧ IsIC (r7, r8) (gadd s (gmul x y)) := by
 obtain ⟨r1, e1, i1⟩ := mul_isI hu.1 hv.1 (by omega)
 obtain ⟨r2, e2, i2⟩ := mul_isI hu.2 hv.2 (by omega)
 obtain ⟨r3, e3, i3⟩ := sub_isI i1 i2 (by omega)
 obtain ⟨r4, e4, i4⟩ := mul_isI hu.1 hv.2 (by omega)
 obtain ⟨r5, e5, i5⟩ := mul_isI hu.2 hv.1 (by omega)
 obtain ⟨r6, e6, i6⟩ := add_isI i4 i5 (by omega)
 obtain ⟨r7, e7, i7⟩ := add_isI ht.1 i3 (by omega)
 obtain ⟨r8, e8, i8⟩ := add_isI ht.2 i6 (by omega)
 exact ⟨r1, r2, r3, r4, r5, r6, r7, r8, e1, e2, e3, e4, e5, e6, e7, e8, i7, i8⟩
def cV (u : Nat × Nat) : Value := .complex .f64 u.1 u.2
theorem made_c {w : World} {g B n : Nat} (h : w.ownsRow B 29 1 (.slice (some ⟨g, 0, none⟩) n n) n (madeCells (Value.complex .f64 0 0).cells (n * 1)).toList) : Bk w g ((List.replicate n (0, 0)).map cV) 29 := by
 rcases h.2 with ⟨h0, -⟩ | ⟨k, cap, cur, he, hg, hb, h1, h2, h3, h4⟩
 · cases h0
 · simp only [Value.slice.injEq, Option.some.injEq, Addr.mk.injEq] at he; obtain ⟨⟨rfl, -, -⟩, -, rfl⟩ := he; rw [show (Value.complex .f64 0 0).cells = #[Value.complex .f64 0 0] from rfl, toList_madeCells_one, List.take_of_length_le (by rw [Array.length_toList, h3]; exact Nat.le_refl _), Nat.mul_one] at h4
   refine ⟨?_, by decide⟩
   rw [hb]
   have e : cur = ((List.replicate n (0, 0)).map cV).toArray := by
    rw [← Array.toList_inj, h4]; simp [cV]
   rw [e]
theorem make_c {ops : Array Oper} {rest : List Oper} {o : Oper} {a : Act} {Q : Exit → Act → World → Prop} (w : World) (hg : o.guard = none) (l c : Operand) (hop : o.op = Op.makeSlice 27 l c)
 (L : Int) (n : Nat) (hl : a.eval l = .int .i64 L) (hc : a.eval c = .int .i64 L) (hL : L = (n : Int)) (hn : n ≤ 1048576)
 (hK : ∀ w1, Bk w1 w.heap.size ((List.replicate n (0, 0)).map cV) 29 → Kp0 w w1 → wpList Tryz.prog ops Q rest (a.put o.dst (.slice (some ⟨w.heap.size, 0, none⟩) n n)) w1) :
 wpList Tryz.prog ops Q (o :: rest) a w := by
 obtain ⟨ti, hti, htz, hts, htb⟩ := info_parts info29z; refine wpList_make_full w hg l c 27 hop w.heap.size 29 ti _ 1 und27z hti htz hts .i64 .i64 L L n hl hc hL hL (by rw [htb]; omega) (by unfold maxLen; omega) (Nat.le_refl _) (fun w1 hown hgrow => ?_)
 exact hK w1 (made_c hown) ⟨Keeps.below ⟨hgrow.os, hgrow.tape, hgrow.output, hgrow.size, fun k hk _ => hgrow.block k hk (by simp)⟩⟩
theorem cv_at {m : List (Nat × Nat)} {j : Nat} {u : Nat × Nat} (h : m[j]? = some u) : (m.map cV)[j]? = some (.complex .f64 u.1 u.2) := by
 rw [List.getElem?_map, h]; rfl
theorem cv_set (m : List (Nat × Nat)) (j : Nat) (u : Nat × Nat) : (m.map cV).set j (.complex .f64 u.1 u.2) = (m.set j u).map cV := by
 rw [List.map_set]; rfl
theorem lwTimes {w : World} {aa ab : Option Addr} {ca cb c : Nat} {la lb : List (Nat × Nat)} {A B : List (Int × Int)} (ha : Rw 29 EC w (.slice aa la.length ca) la) (hb : Rw 29 EC w (.slice ab lb.length cb) lb) (za : Zc la A) (zb : Zc lb B) (h1 : 1 ≤ A.length) (h2 : A.length ≤ 9) (h3 : 1 ≤ B.length) (h4 : B.length ≤ 5) (hp : PrC c A B) (hc : 92 * c ≤ 9007199254740992) :
 Calls Tryz.prog 23 #[.slice aa la.length ca, .slice ab lb.length cb] w fun e w' => ∃ g n m, e = .returned (.slice (some ⟨g, 0, none⟩) n n) ∧ n = m.length ∧ Bk w' g (m.map cV) 29 ∧ Zc m (convI A B) ∧ Kp0 w w' := by
 obtain ⟨na, hna⟩ : ∃ na, na = A.length := ⟨_, rfl⟩; obtain ⟨nb, hnb⟩ : ∃ nb, nb = B.length := ⟨_, rfl⟩; have HA := hid ha; have HB := hid hb; have ZA := hid za; have ZB := hid zb; have HP := hid hp; rw [za.1, ← hna] at ha HA ⊢; rw [zb.1, ← hnb] at hb HB ⊢; rw [← hna] at h1 h2; rw [← hnb] at h3 h4; have HNA := hid hna; have HNB := hid hnb; obtain ⟨N, hN⟩ : ∃ N, N = na + nb - 1 := ⟨_, rfl⟩; have HN := hid hN; have CV : Hid (convI A B = allC A B N na) := hid (by unfold convI; rw [← hna, ← hnb, hN])
 have BD := hid (fun (i k : Nat) (hi : i < na) (hk : k < nb) => show BsC (90 * c) (rowC A B (allC A B N i) i k) by
  have := rowC_bs i k (allC_bs (A := A) (B := B) N i hp) hp; intro j; have q := this j; rw [← hnb] at q; have e1 : i * nb * (2 * c) + k * (2 * c) = (i * nb + k) * (2 * c) := by rw [Nat.add_mul]
  have e2 : i * nb + k ≤ 44 := by
   have := Nat.mul_le_mul (show i ≤ 8 by omega) h4
   omega
  have e3 : (i * nb + k) * (2 * c) ≤ 44 * (2 * c) := Nat.mul_le_mul_right _ e2; rw [e1] at q; clear e1 e2; generalize (i * nb + k) * (2 * c) = z at *
  omega)
 have HC := hid hc; have sum1 : IntKind.i64.wrap ((na : Int) + (nb : Int)) = (na : Int) + (nb : Int) := by rw [IntKind.wrap_i64]; omega
 have sum2 : IntKind.i64.wrap ((na : Int) + (nb : Int) - 1) = (na : Int) + (nb : Int) - 1 := by rw [IntKind.wrap_i64]; omega
 have B1 := hid h1; have B2 := hid h2; have B3 := hid h3; have B4 := hid h4; clear ha hb za zb hp hna hnb hN hc h1 h2 h3 h4; go_enter Tryz.func23, Tryz.ntmps23; go_wp2_with (at_make; refine make_c _ rfl _ _ rfl _ N rfl rfl (by have := HN.out; have := B1.out; have := B3.out; omega) (by have := HN.out; have := B2.out; have := B4.out; omega) ?_; intro w1 hbk hkp; haveI bk0 : BkC w1 _ _ 29 := ⟨hbk⟩; clear hbk)
 clear sum1 sum2; go_loopw [6, 7, 8, 9] (fun s6 s7 s8 s9 wx => ∃ (i : Nat) (m : List (Nat × Nat)), s6 = .int .i64 i ∧ i ≤ na ∧ m.length = N ∧ BkC wx w.heap.size (m.map cV) 29 ∧ Hid (Zc m (allC A B N i)) ∧ Kp0 w wx) (fun s6 _ _ _ _ => na - (intOf s6).toNat)
 case atStart => exact ⟨0, List.replicate N (0, 0), rfl, Nat.zero_le _, List.length_replicate, inferInstance, hid (Zc.zeros N), ⟨Gr.out⟩⟩
 case round =>
  obtain ⟨i, m, rfl, hi, hm, ib, hz, ik⟩ := hrel; by_cases hin : i = na
  · subst hin; clear hi; go_wp2_with fail
    go_ret
    exact ⟨_, N, m, rfl, hm.symm, ib.out, CV.out ▸ hz.out, ⟨Gr.out⟩⟩
  · have hlt : i < na := by omega
    have hI : (i : Int) < (na : Int) := by omega
    have hI9 : (na : Int) ≤ 9 := by have := B2.out; omega
    have hK5 : (nb : Int) ≤ 5 := by have := B4.out; omega
    have h0 : (0 : Int) ≤ (i : Int) := by omega
    obtain ⟨u, hu, iu⟩ := ZA.out.at (j := i) (by rw [← HNA.out]; exact hlt)
    obtain ⟨gA, oA, qa, rfl, hgA, cA, rfl⟩ := HA.out.at hu; haveI : Has w gA := ⟨hgA⟩; have HU := hid iu; have HLT := hid hlt; have HM := hid hm; clear hu iu hin hi hlt hm; go_wp2_with fail
    go_loopw [7, 8, 9] (fun s7 s8 s9 wx => ∃ (k : Nat) (m : List (Nat × Nat)), s7 = .int .i64 k ∧ k ≤ nb ∧ m.length = N ∧ BkC wx w.heap.size (m.map cV) 29 ∧ Hid (Zc m (rowC A B (allC A B N i) i k)) ∧ Kp0 w wx) (fun s7 _ _ _ => nb - (intOf s7).toNat)
    case atStart => exact ⟨0, m, rfl, Nat.zero_le _, HM.out, inferInstance, hid hz.out, ⟨Gr.out⟩⟩
    case round =>
     obtain ⟨k, m2, rfl, hk, hm2, ib2, hz2, ik2⟩ := hrel; have HM2 := hid hm2; by_cases hkn : k = nb
     · subst hkn; clear hk hm2; go_wp2_with fail
       go_round
       case rel =>
        refine ⟨i + 1, m2, by go_num, HLT.out, HM2.out, ib2, hid ?_, ⟨Gr.out⟩⟩
        show Zc m2 (rowC A B (allC A B N i) i B.length)
        rw [← HNB.out]; exact hz2.out
       case measure => first | (simp [intOf]; done) | (simp [intOf]; omega)
     · have hkt : k < nb := by omega
       have hK : (k : Int) < (nb : Int) := by omega
       have k0 : (0 : Int) ≤ (k : Int) := by omega
       obtain ⟨v, hv, iv⟩ := ZB.out.at (j := k) (by rw [← HNB.out]; exact hkt)
       obtain ⟨gB, oB, qb, rfl, hgB, cB, rfl⟩ := HB.out.at hv; haveI : Has w gB := ⟨hgB⟩; obtain ⟨j, hj⟩ : ∃ j, j = i + k := ⟨_, rfl⟩; have hjN : j < N := by have := HN.out; have := HLT.out; omega
       obtain ⟨t, ht, it⟩ := hz2.out.at (j := j) (by rw [rowC_len, allC_len]; exact hjN)
       have bd := BD.out i k HLT.out hkt j; have pr := HP.out i k; obtain ⟨r1, r2, r3, r4, r5, r6, r7, r8, e1, e2, e3, e4, e5, e6, e7, e8, i7⟩ := step_isI HU.out iv it pr.1 pr.2.1 pr.2.2.1 pr.2.2.2 bd.1 bd.2 (by have := HC.out; omega)
       have k1 := fun w => run_float_arith (P := Tryz.prog) w .mul 56 .f64 _ _ _ e1
       have k2 := fun w => run_float_arith (P := Tryz.prog) w .mul 56 .f64 _ _ _ e2
       have k3 := fun w => run_float_arith (P := Tryz.prog) w .sub 56 .f64 _ _ _ e3
       have k4 := fun w => run_float_arith (P := Tryz.prog) w .mul 56 .f64 _ _ _ e4
       have k5 := fun w => run_float_arith (P := Tryz.prog) w .mul 56 .f64 _ _ _ e5
       have k6 := fun w => run_float_arith (P := Tryz.prog) w .add 56 .f64 _ _ _ e6
       have k7 := fun w => run_float_arith (P := Tryz.prog) w .add 56 .f64 _ _ _ e7
       have k8 := fun w => run_float_arith (P := Tryz.prog) w .add 56 .f64 _ _ _ e8
       have cA' := (cell_kp0 wr gA (oA + i)).trans cA; have cB' := (cell_kp0 wr gB (oB + k)).trans cB; have cO := ib2.out.cell (cv_at ht); have fO := ib2.out.free j; have swk : IntKind.i64.wrap ((i : Int) + (k : Int)) = (j : Int) := by rw [IntKind.wrap_i64]; have := HN.out; have := HLT.out; have := B2.out; have := B4.out; omega
       have hJ : (j : Int) < (N : Int) := by omega
       have j0 : (0 : Int) ≤ (j : Int) := by omega
       have HJ := hid hj; have HKT := hid hkt; have HI7 : Hid (Zc (m2.set j (r7, r8)) (rowC A B (allC A B N i) i (k + 1))) := hid (by rw [rowC]; unfold stepC; rw [← hj]; exact hz2.out.set j i7)
       clear bd pr hv it iv hjN e1 e2 e3 e4 e5 e6 e7 e8 i7 hj hkt hkn hk hm2 hz2; go_upto_region 8 with fail
       go_cut [8] from 23 to 98 (fun s8 wx => s8 = .float .f64 r3 ∧ BkC wx w.heap.size (m2.map cV) 29 ∧ Kp0 w wx)
       case first =>
        go_region
        all_goals (go_wp2_with fail; go_meet; exact ⟨rfl, inferInstance, ⟨Gr.out⟩⟩)
       case rest =>
       obtain ⟨rfl, ib3, ik3⟩ := hcut; generalize hw8 : wc = w8 at *; clear hw8 cA' cB' cO fO k1 k2 k3; have cA' := (cell_kp0 w8 gA (oA + i)).trans cA; have cB' := (cell_kp0 w8 gB (oB + k)).trans cB; go_upto_region 9 with fail
       go_cut [9] from 23 to 98 (fun s9 wx => s9 = .float .f64 r6 ∧ BkC wx w.heap.size (m2.map cV) 29 ∧ Kp0 w wx)
       case first =>
        go_region
        all_goals (go_wp2_with fail; go_meet; exact ⟨rfl, inferInstance, ⟨Gr.out⟩⟩)
       case rest =>
       obtain ⟨rfl, ib4, ik4⟩ := hcut; generalize hw9 : wc = w9 at *; clear hw9 cA' cB' k4 k5 k6; have cO := ib4.out.cell (cv_at ht); have fO := ib4.out.free j; go_upto_region 10 with fail
       refine wp_region_late (S := (fun W => W.cell? ⟨w.heap.size, j, none⟩ = some (.complex .f64 t.1 t.2))) 24 (by kernel_rfl) ?_ (fun hHeld => ?_)
       · (exact cO)
       refine wpAnyL_q 0 rfl ?_
       try simp only [Act.put, sA, sZ, sS]
       refine wpAnyL_q 1 rfl ?_
       try simp only [Act.put, sA, sZ, sS]
       refine wpAnyL_q 2 rfl ?_
       try simp only [Act.put, sA, sZ, sS]
       refine wpAnyL_q 3 rfl ?_
       try simp only [Act.put, sA, sZ, sS]
       refine wpAnyL_q 4 rfl ?_
       try simp only [Act.put, sA, sZ, sS]
       refine wpAnyL_q 5 rfl ?_
       try simp only [Act.put, sA, sZ, sS]
       refine wpAnyL_q 6 rfl ?_
       try simp only [Act.put, sA, sZ, sS]
       refine wpAnyL_q 7 rfl ?_
       try simp only [Act.put, sA, sZ, sS]
       refine wpAnyL_q 8 rfl ?_
       try simp only [Act.put, sA, sZ, sS]
       refine wpAnyL_q 11 rfl ?_
       try simp only [Act.put, sA, sZ, sS]
       refine wpAnyL_q 13 rfl ?_
       try simp only [Act.put, sA, sZ, sS]
       refine wpAnyL_q 14 rfl ?_
       try simp only [Act.put, sA, sZ, sS]
       refine wpAnyL_q 15 rfl ?_
       try simp only [Act.put, sA, sZ, sS]
       refine wpAnyL_q 16 rfl ?_
       try simp only [Act.put, sA, sZ, sS]
       refine wpAnyL_q 17 rfl ?_
       try simp only [Act.put, sA, sZ, sS]
       refine wpAnyL_q 20 rfl ?_
       try simp only [Act.put, sA, sZ, sS]
       refine wpAnyL_r 9 rfl ?_
       try simp only [Act.put, sA, sZ, sS]
       refine wpAnyL_q 10 rfl ?_
       try simp only [Act.put, sA, sZ, sS]
       refine wpAnyL_q 12 rfl ?_
       try simp only [Act.put, sA, sZ, sS]
       refine wpAnyL_r 18 rfl ?_
       try simp only [Act.put, sA, sZ, sS]
       refine wpAnyL_q 19 rfl ?_
       try simp only [Act.put, sA, sZ, sS]
       refine wpAnyL_q 21 rfl ?_
       try simp only [Act.put, sA, sZ, sS]
       refine wpAnyL_q 22 rfl ?_
       try simp only [Act.put, sA, sZ, sS]
       refine wpAnyL_q 23 rfl ?_
       try simp only [Act.put, sA, sZ, sS]
       refine wpAnyL_ready (rs := [24]) (by kernel_rfl) (by simp) ?_
       refine AllReadyL.late rfl (by kernel_rfl) (fun K hK => ?_) AllReadyL.nil
       go_simp
       refine hK.out _ _ ?_
       clear hK K
       try simp only [Act.put, sA, sZ, sS]
       refine wpAnyL_done (by kernel_rfl) ?_ _
       skip
       go_wp2_with fail
       go_round
       case rel =>
        refine ⟨k + 1, m2.set j (r7, r8), by go_num, HKT.out, by rw [List.length_set]; exact HM2.out, ?_, HI7, ⟨Gr.out⟩⟩
        rw [← cv_set]; infer_instance
       case measure => first | (simp [intOf]; done) | (simp [intOf]; omega)
end Go.Proofs.YthjeejnggpjnjaaGreatDoor
