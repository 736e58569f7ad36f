/- The document's checks. -/
import Derived.Test.YtnagagcgmfkjjaaGreatDoorBE
set_option linter.unusedSimpArgs false
set_option linter.unusedVariables false
namespace Go.Proofs.YtnagagcgmfkjjaaGreatDoor
open Go.RowKit
/-! How floats stand to each other. -/
theorem datum_some (x y : Ieee.Datum) (hx : x.isNaN = false) (hy : y.isNaN = false) : ∃ o, x.order y = some o := by
  cases x <;> cases y <;> first | exact ⟨_, rfl⟩ | (exfalso; cases hx; done) | (exfalso; cases hy; done)
theorem datum_below (x y : Ieee.Datum) (hx : x.isNaN = false) (hy : y.isNaN = false) (hn : x.neg = true) (hp : y.neg = false) : x.order y = some .lt ∨ x.order y = some .eq := by
  cases x with
  | nan s t => cases hx
  | infinity s =>
    simp only [Ieee.Datum.neg] at hn
    subst hn
    cases y with
    | nan s t => cases hy
    | infinity t =>
      simp only [Ieee.Datum.neg] at hp
      subst hp
      left; rfl
    | number t n j => left; rfl
  | number s m i =>
    simp only [Ieee.Datum.neg] at hn
    subst hn
    cases y with
    | nan s t => cases hy
    | infinity t =>
      simp only [Ieee.Datum.neg] at hp
      subst hp
      left; rfl
    | number t n j =>
      simp only [Ieee.Datum.neg] at hp
      subst hp
      have h : Ieee.signed true m (i - min i j).toNat ≤ Ieee.signed false n (j - min i j).toNat := by
        show -((m <<< (i - min i j).toNat : Nat) : Int) ≤ ((n <<< (j - min i j).toNat : Nat) : Int)
        exact Int.le_trans (Int.neg_nonpos_of_nonneg (Int.natCast_nonneg _)) (Int.natCast_nonneg _)
      show some (compare _ _) = some .lt ∨ some (compare _ _) = some .eq
      rcases Int.lt_or_eq_of_le h with h | h
      · left; rw [Int.compare_eq_lt.2 h]
      · right; rw [Int.compare_eq_eq.2 h]
theorem datum_eq_comm (x y : Ieee.Datum) : (x.order y == some .eq) = (y.order x == some .eq) := by
  cases x <;> cases y <;> try rfl
  · rename_i s m i t n j
    show (some (compare _ _) == some Ordering.eq) = (some (compare _ _) == some Ordering.eq)
    rw [Int.min_comm j i]
    generalize Ieee.signed s m _ = p
    generalize Ieee.signed t n _ = q
    rw [Bool.eq_iff_iff]
    simp only [beq_iff_eq, Option.some.injEq, Int.compare_eq_eq]
    exact eq_comm
  · rename_i s m i t; cases t <;> rfl
  · rename_i s t n j; cases s <;> rfl
  · rename_i s t; cases s <;> cases t <;> rfl

theorem read_neg (a : Nat) : (Ieee.double.read a).neg = (a / 9223372036854775808 % 2 == 1) := by
  have e1 : Ieee.double.signWeight = 9223372036854775808 := by decide
  unfold Ieee.Format.read
  rw [e1]
  simp only []
  split
  · rfl
  · split
    · rfl
    · split <;> rfl
theorem order_read (a b : Nat) : FloatKind.f64.format.order a b = (Ieee.double.read a).order (Ieee.double.read b) := rfl
theorem fnan_read (a : Nat) : fnan a = (Ieee.double.read a).isNaN := rfl
theorem max_neg : (Ieee.double.read maxReal).neg = false := by kernel_rfl
theorem max_nan : (Ieee.double.read maxReal).isNaN = false := by kernel_rfl
theorem neg_flip (a : Nat) (ha : a < 18446744073709551616) : Op.negFloat .f64 a = if a < 9223372036854775808 then a + 9223372036854775808 else a - 9223372036854775808 := by
  have e : Op.negFloat .f64 a = a ^^^ 2 ^ 63 := rfl
  rw [e]
  by_cases h : a < 9223372036854775808
  · rw [if_pos h]
    have h1 : a ^^^ 2 ^ 63 = 2 ^ 63 * 1 + a := by
      rw [Nat.two_pow_add_eq_or_of_lt (by simpa using h)]
      apply Nat.eq_of_testBit_eq
      intro j
      simp only [Nat.testBit_xor, Nat.testBit_or, Nat.mul_one, Nat.testBit_two_pow]
      by_cases hj : 63 = j
      · subst hj
        have : a.testBit 63 = false := Nat.testBit_lt_two_pow (by simpa using h)
        simp [this]
      · simp [hj]
    rw [h1]
    omega
  · rw [if_neg h]
    obtain ⟨b, hb⟩ : ∃ b, b = a - 9223372036854775808 := ⟨_, rfl⟩
    have hb2 : b < 2 ^ 63 := by omega
    have ha2 : a = 2 ^ 63 * 1 + b := by omega
    rw [ha2, Nat.two_pow_add_eq_or_of_lt hb2]
    have h2 : 2 ^ 63 * 1 + b - 9223372036854775808 = b := by omega
    rw [← Nat.two_pow_add_eq_or_of_lt hb2 1, h2, Nat.two_pow_add_eq_or_of_lt hb2]
    apply Nat.eq_of_testBit_eq
    intro j
    simp only [Nat.testBit_xor, Nat.testBit_or, Nat.mul_one, Nat.testBit_two_pow]
    by_cases hj : 63 = j
    · subst hj
      have : b.testBit 63 = false := Nat.testBit_lt_two_pow hb2
      simp [this]
    · simp [hj]
theorem fle_low (a : Nat) (h1 : 9223372036854775808 ≤ a) (h2 : a < 18446744073709551616) (hn : fnan a = false) : fle a maxReal = true := by
  have hs : (Ieee.double.read a).neg = true := by
    rw [read_neg]
    have : a / 9223372036854775808 % 2 = 1 := by omega
    rw [this]; rfl
  unfold fle
  rw [order_read]
  rcases datum_below (Ieee.double.read a) (Ieee.double.read maxReal) hn max_nan hs max_neg with h | h <;> rw [h] <;> rfl
theorem fle_nan (a m : Nat) (h : fle a m = true) : fnan a = false := by
  cases hn : fnan a
  · rfl
  · unfold fle at h
    rw [order_nan _ _ hn] at h
    cases h
theorem within_two (a : Nat) (ha : a < 18446744073709551616) : fwithin a maxReal = (fle a maxReal && fle (Op.negFloat .f64 a) maxReal) := by
  unfold fwithin
  rw [fabs_eq a ha, neg_flip a ha]
  by_cases h : a < 9223372036854775808
  · rw [if_pos h, Nat.mod_eq_of_lt h]
    cases hf : fle a maxReal
    · rfl
    · have hn := fle_nan _ _ hf
      have hn2 : fnan (a + 9223372036854775808) = false := by
        rw [isNaN_rung] at hn ⊢
        rw [show (a + 9223372036854775808) % 9223372036854775808 = a % 9223372036854775808 by omega]
        exact hn
      rw [fle_low _ (by omega) (by omega) hn2]
      rfl
  · rw [if_neg h, show a % 9223372036854775808 = a - 9223372036854775808 by omega]
    cases hf : fle (a - 9223372036854775808) maxReal
    · simp
    · have hn := fle_nan _ _ hf
      have hn2 : fnan a = false := by
        rw [isNaN_rung] at hn ⊢
        rw [show a % 9223372036854775808 = (a - 9223372036854775808) % 9223372036854775808 by omega]
        exact hn
      rw [fle_low _ (by omega) ha hn2]
      rfl
theorem run_neg (a : Nat) (w : World) : (Op.unary .neg (.float .f64 a)).run Tryz.prog w = .ok (.float .f64 (Op.negFloat .f64 a)) w := rfl
set_option maxRecDepth 100000 in
set_option maxHeartbeats 4000000 in
theorem rwithin_any (a : Nat) (ha : fits a) (w : World) :
    Calls Tryz.prog 72 #[.float .f64 a, .float .f64 4787326403894837248] w fun e w' => e = .returned (.bool (fwithin a maxReal)) ∧ w = w' := by
  have hneg := run_neg
  rw [within_two a ha]
  clear ha
  cases h : fle a maxReal
  all_goals
    have h1 : (FloatKind.f64.format.order a 4787326403894837248 == some .lt || FloatKind.f64.format.order a 4787326403894837248 == some .eq) = _ := h
    have h2 : (FloatKind.f64.format.order (Op.negFloat .f64 a) 4787326403894837248 == some .lt || FloatKind.f64.format.order (Op.negFloat .f64 a) 4787326403894837248 == some .eq) = fle (Op.negFloat .f64 a) maxReal := rfl
    go_enter Tryz.func72, Tryz.ntmps72
    go_wp2
    go_ret
    exact ⟨by simp [h2], rfl⟩
set_option maxRecDepth 100000 in
set_option maxHeartbeats 4000000 in
theorem rcwithin_any (a b : Nat) (ha : fits a) (hb : fits b) (w : World) :
    Calls Tryz.prog 71 #[.complex .f64 a b, .float .f64 4787326403894837248] w fun e w' => e = .returned (.bool (cwithin a b maxReal)) ∧ w = w' := by
  have hc : cwithin a b maxReal = (fwithin a maxReal && fwithin b maxReal) := rfl
  rw [hc]
  have hwa := rwithin_any a ha
  have hwb := rwithin_any b hb
  clear ha hb
  cases h : fwithin a maxReal
  all_goals
    rw [h] at hwa
    go_enter Tryz.func71, Tryz.ntmps71
    go_wp2_with (go_at_call 72; (first | ((with_reducible refine (hwa _).mono ?_); rintro e w' ⟨rfl, rfl⟩) | ((with_reducible refine (hwb _).mono ?_); rintro e w' ⟨rfl, rfl⟩)))
    go_ret
    exact ⟨by simp, rfl⟩
set_option maxRecDepth 100000 in
set_option maxHeartbeats 4000000 in
theorem rreal_any (a b : Nat) (ha : fits a) (hb : fits b) (w : World) :
    Calls Tryz.prog 87 #[.complex .f64 a b] w fun e w' => e = .returned (.bool (cwithin a b maxReal)) ∧ w = w' := by
  go_enter Tryz.func87, Tryz.ntmps87
  go_wp2_with (go_at_call 71; (with_reducible refine (rcwithin_any _ _ ha hb _).mono ?_); rintro e w' ⟨rfl, rfl⟩)
  go_ret
  exact ⟨rfl, rfl⟩
set_option maxRecDepth 100000 in
set_option maxHeartbeats 4000000 in
theorem rnought_any (a b : Nat) (w : World) :
    Calls Tryz.prog 88 #[.complex .f64 a b] w fun e w' => e = .returned (.bool (cnought a b)) ∧ w = w' := by
  cases h : feq a 0
  all_goals
    have h1 : (FloatKind.f64.format.order a 0 == some .eq) = _ := h
    have hc : cnought a b = (feq a 0 && (FloatKind.f64.format.order b 0 == some .eq)) := rfl
    rw [h] at hc
    rw [hc]
    go_enter Tryz.func88, Tryz.ntmps88
    go_wp2
    go_ret
    exact ⟨by simp, rfl⟩
theorem feq_comm (a b : Nat) : feq a b = feq b a := datum_eq_comm _ _
set_option maxRecDepth 100000 in
set_option maxHeartbeats 4000000 in
theorem rwhole89 (a : Nat) (h : fnan a = false) (w : World) :
    Calls Tryz.prog 89 #[.float .f64 a] w fun e w' => e = .returned (.bool (feq (ftrunc a) a)) ∧ w = w' := by
  rw [feq_comm]
  go_enter Tryz.func89, Tryz.ntmps89
  go_wp2_with (go_at_call 104; refine (trunc_any _ h _).mono ?_; rintro e w' ⟨rfl, rfl⟩)
  go_ret
  exact ⟨rfl, rfl⟩
theorem not_ge (p c : Nat) (hp : fnan p = false) (hc : fnan c = false) : (FloatKind.f64.format.order p c == some .lt) = !(fge p c) := by
  obtain ⟨o, ho⟩ := datum_some (Ieee.double.read p) (Ieee.double.read c) hp hc
  unfold fge
  rw [order_read, ho]
  cases o <;> rfl
theorem not_le (p c : Nat) (hp : fnan p = false) (hc : fnan c = false) : (FloatKind.f64.format.order p c == some .gt) = !(fle p c) := by
  obtain ⟨o, ho⟩ := datum_some (Ieee.double.read p) (Ieee.double.read c) hp hc
  unfold fle
  rw [order_read, ho]
  cases o <;> rfl
theorem nan_c1 : fnan 4607182418800017408 = false := by kernel_rfl
theorem nan_c8 : fnan 4620693217682128896 = false := by kernel_rfl
theorem nan_cq : fnan 4598175219545276416 = false := by kernel_rfl
theorem nan_c4 : fnan 4616189618054758400 = false := by kernel_rfl

set_option maxHeartbeats 8000000 in
set_option maxRecDepth 100000 in
theorem relcheck_any (k a1 a2 s1 s2 p : Nat) (ha1 : fits a1) (ha2 : fits a2) (hs1 : fits s1) (hs2 : fits s2) (hp : fits p) (w : World) :
    Calls Tryz.prog 70 #[.agg #[.int .u8 k, .complex .f64 a1 a2, .complex .f64 s1 s2, .float .f64 p]] w fun e w' => e = .returned (.int .i64 (elChk k a1 a2 s1 s2 p)) ∧ Below w.heap.size w w' := by
  have hrA := rreal_any a1 a2 ha1 ha2
  have hrS := rreal_any s1 s2 hs1 hs2
  have hrP := rwithin_any p hp
  have HPF := hid hp
  clear ha1 ha2 hs1 hs2 hp
  unfold elChk
  by_cases hk : k < 1 ∨ 4 < k
  · rw [if_pos hk]
    rcases hk with hk | hk
    · have h0 : k = 0 := by omega
      subst h0
      go_enter Tryz.func70, Tryz.ntmps70
      go_wp2
      go_ret
      exact ⟨rfl, Below.alloc (Below.refl _ _) (Nat.le_refl _) _⟩
    · go_enter Tryz.func70, Tryz.ntmps70
      go_wp2
      go_ret
      exact ⟨rfl, Below.alloc (Below.refl _ _) (Nat.le_refl _) _⟩
  · rw [if_neg hk]
    have hk' : k = 1 ∨ k = 2 ∨ k = 3 ∨ k = 4 := by omega
    clear hk
    cases hA : cwithin a1 a2 maxReal
    · rw [show (false && cwithin s1 s2 maxReal && fwithin p maxReal) = false by rfl]
      rw [hA] at hrA
      rcases hk' with rfl | rfl | rfl | rfl
      all_goals
        go_enter Tryz.func70, Tryz.ntmps70
        go_wp2_with (first | (go_at_call 87; (first | ((refine (hrA _).mono ?_); rintro e w' ⟨rfl, rfl⟩) | ((refine (hrS _).mono ?_); rintro e w' ⟨rfl, rfl⟩))) | (go_at_call 72; ((refine (hrP _).mono ?_); rintro e w' ⟨rfl, rfl⟩)) | (go_at_call 88; ((with_reducible refine (rnought_any _ _ _).mono ?_); rintro e w' ⟨rfl, rfl⟩; (try rw [h1]))) | (go_at_call 89; ((with_reducible refine (rwhole89 _ hN.out _).mono ?_); rintro e w' ⟨rfl, rfl⟩; (try rw [h1]))))
        go_ret
        exact ⟨rfl, Below.alloc (Below.refl _ _) (Nat.le_refl _) _⟩
    · rw [hA] at hrA
      cases hS : cwithin s1 s2 maxReal
      · rw [show (true && false && fwithin p maxReal) = false by rfl]
        rw [hS] at hrS
        rcases hk' with rfl | rfl | rfl | rfl
        all_goals
          go_enter Tryz.func70, Tryz.ntmps70
          go_wp2_with (first | (go_at_call 87; (first | ((refine (hrA _).mono ?_); rintro e w' ⟨rfl, rfl⟩) | ((refine (hrS _).mono ?_); rintro e w' ⟨rfl, rfl⟩))) | (go_at_call 72; ((refine (hrP _).mono ?_); rintro e w' ⟨rfl, rfl⟩)) | (go_at_call 88; ((with_reducible refine (rnought_any _ _ _).mono ?_); rintro e w' ⟨rfl, rfl⟩; (try rw [h1]))) | (go_at_call 89; ((with_reducible refine (rwhole89 _ hN.out _).mono ?_); rintro e w' ⟨rfl, rfl⟩; (try rw [h1]))))
          go_ret
          exact ⟨rfl, Below.alloc (Below.refl _ _) (Nat.le_refl _) _⟩
      · rw [hS] at hrS
        cases hP : fwithin p maxReal
        · rw [show (true && true && false) = false by rfl]
          rw [hP] at hrP
          rcases hk' with rfl | rfl | rfl | rfl
          all_goals
            go_enter Tryz.func70, Tryz.ntmps70
            go_wp2_with (first | (go_at_call 87; (first | ((refine (hrA _).mono ?_); rintro e w' ⟨rfl, rfl⟩) | ((refine (hrS _).mono ?_); rintro e w' ⟨rfl, rfl⟩))) | (go_at_call 72; ((refine (hrP _).mono ?_); rintro e w' ⟨rfl, rfl⟩)) | (go_at_call 88; ((with_reducible refine (rnought_any _ _ _).mono ?_); rintro e w' ⟨rfl, rfl⟩; (try rw [h1]))) | (go_at_call 89; ((with_reducible refine (rwhole89 _ hN.out _).mono ?_); rintro e w' ⟨rfl, rfl⟩; (try rw [h1]))))
            go_ret
            exact ⟨rfl, Below.alloc (Below.refl _ _) (Nat.le_refl _) _⟩
        · rw [show (true && true && true) = true by rfl, if_pos rfl]
          have hN := hid (within_num p _ HPF.out hP)
          rw [hP] at hrP
          rcases hk' with rfl | rfl | rfl | rfl
          · unfold mayS
            rw [if_pos rfl]
            rcases Bool.eq_false_or_eq_true (cnought a1 a2) with h1 | h1 <;> rcases Bool.eq_false_or_eq_true (feq p 0) with h2 | h2
            all_goals
              rw [h1, h2]
              have h2' : (FloatKind.f64.format.order p 0 == some .eq) = _ := h2
              have h2'' : (FloatKind.f64.format.order p 0 != some .eq) = !(feq p 0) := rfl
              rw [h2] at h2''
              go_enter Tryz.func70, Tryz.ntmps70
              go_wp2_with (first | (go_at_call 87; (first | ((refine (hrA _).mono ?_); rintro e w' ⟨rfl, rfl⟩) | ((refine (hrS _).mono ?_); rintro e w' ⟨rfl, rfl⟩))) | (go_at_call 72; ((refine (hrP _).mono ?_); rintro e w' ⟨rfl, rfl⟩)) | (go_at_call 88; ((with_reducible refine (rnought_any _ _ _).mono ?_); rintro e w' ⟨rfl, rfl⟩; (try rw [h1]))) | (go_at_call 89; ((with_reducible refine (rwhole89 _ hN.out _).mono ?_); rintro e w' ⟨rfl, rfl⟩; (try rw [h1]))))
              go_ret
              exact ⟨rfl, Below.alloc (Below.refl _ _) (Nat.le_refl _) _⟩
          · unfold mayS
            rw [if_neg (show ¬ (2 : Nat) = 1 by decide), if_pos (show (2 : Nat) = 2 from rfl)]
            rcases Bool.eq_false_or_eq_true (feq p 0) with h2 | h2
            all_goals
              rw [h2]
              have h2' : (FloatKind.f64.format.order p 0 == some .eq) = _ := h2
              have h2'' : (FloatKind.f64.format.order p 0 != some .eq) = !(feq p 0) := rfl
              rw [h2] at h2''
              go_enter Tryz.func70, Tryz.ntmps70
              go_wp2_with (first | (go_at_call 87; (first | ((refine (hrA _).mono ?_); rintro e w' ⟨rfl, rfl⟩) | ((refine (hrS _).mono ?_); rintro e w' ⟨rfl, rfl⟩))) | (go_at_call 72; ((refine (hrP _).mono ?_); rintro e w' ⟨rfl, rfl⟩)) | (go_at_call 88; ((with_reducible refine (rnought_any _ _ _).mono ?_); rintro e w' ⟨rfl, rfl⟩; (try rw [h1]))) | (go_at_call 89; ((with_reducible refine (rwhole89 _ hN.out _).mono ?_); rintro e w' ⟨rfl, rfl⟩; (try rw [h1]))))
              go_ret
              exact ⟨rfl, Below.alloc (Below.refl _ _) (Nat.le_refl _) _⟩
          · unfold mayS
            rw [if_neg (show ¬ (3 : Nat) = 1 by decide), if_neg (show ¬ (3 : Nat) = 2 by decide), if_pos (show (3 : Nat) = 3 from rfl)]
            rcases Bool.eq_false_or_eq_true (feq (ftrunc p) p) with h1 | h1 <;> rcases Bool.eq_false_or_eq_true (fge p 4607182418800017408) with h2 | h2 <;> rcases Bool.eq_false_or_eq_true (fle p 4620693217682128896) with h3 | h3
            all_goals
              rw [h1, h2, h3]
              have h2' := not_ge p 4607182418800017408 hN.out nan_c1
              have h3' := not_le p 4620693217682128896 hN.out nan_c8
              rw [h2] at h2'
              rw [h3] at h3'
              simp only [Bool.not_true, Bool.not_false] at h2' h3'
              go_enter Tryz.func70, Tryz.ntmps70
              go_wp2_with (first | (go_at_call 87; (first | ((refine (hrA _).mono ?_); rintro e w' ⟨rfl, rfl⟩) | ((refine (hrS _).mono ?_); rintro e w' ⟨rfl, rfl⟩))) | (go_at_call 72; ((refine (hrP _).mono ?_); rintro e w' ⟨rfl, rfl⟩)) | (go_at_call 88; ((with_reducible refine (rnought_any _ _ _).mono ?_); rintro e w' ⟨rfl, rfl⟩; (try rw [h1]))) | (go_at_call 89; ((with_reducible refine (rwhole89 _ hN.out _).mono ?_); rintro e w' ⟨rfl, rfl⟩; (try rw [h1]))))
              go_ret
              exact ⟨rfl, Below.alloc (Below.refl _ _) (Nat.le_refl _) _⟩
          · unfold mayS
            rw [if_neg (show ¬ (4 : Nat) = 1 by decide), if_neg (show ¬ (4 : Nat) = 2 by decide), if_neg (show ¬ (4 : Nat) = 3 by decide)]
            rcases Bool.eq_false_or_eq_true (fge p 4598175219545276416) with h2 | h2 <;> rcases Bool.eq_false_or_eq_true (fle p 4616189618054758400) with h3 | h3
            all_goals
              rw [h2, h3]
              have h2' := not_ge p 4598175219545276416 hN.out nan_cq
              have h3' := not_le p 4616189618054758400 hN.out nan_c4
              rw [h2] at h2'
              rw [h3] at h3'
              simp only [Bool.not_true, Bool.not_false] at h2' h3'
              go_enter Tryz.func70, Tryz.ntmps70
              go_wp2_with (first | (go_at_call 87; (first | ((refine (hrA _).mono ?_); rintro e w' ⟨rfl, rfl⟩) | ((refine (hrS _).mono ?_); rintro e w' ⟨rfl, rfl⟩))) | (go_at_call 72; ((refine (hrP _).mono ?_); rintro e w' ⟨rfl, rfl⟩)) | (go_at_call 88; ((with_reducible refine (rnought_any _ _ _).mono ?_); rintro e w' ⟨rfl, rfl⟩; (try rw [h1]))) | (go_at_call 89; ((with_reducible refine (rwhole89 _ hN.out _).mono ?_); rintro e w' ⟨rfl, rfl⟩; (try rw [h1]))))
              go_ret
              exact ⟨rfl, Below.alloc (Below.refl _ _) (Nat.le_refl _) _⟩
set_option maxRecDepth 100000 in
set_option maxHeartbeats 8000000 in
theorem rflow_check (l : List El) (hp : ∀ x ∈ l, fits x.2.1.1 ∧ fits x.2.1.2 ∧ fits x.2.2.1.1 ∧ fits x.2.2.1.2 ∧ fits x.2.2.2) (B0 : Nat) (sv : Value) (w : World) (ho : w.ownsRow B0 56 4 sv l.length (l.flatMap elCells)) (hn : l.length ≤ 70000) :
    Calls Tryz.prog 47 #[.agg #[sv]] w fun e w' => e = .returned (.int .i64 (flowChk l)) ∧ Below w.heap.size w w' := by
  obtain ⟨a, cap, rfl, hcells⟩ := own_form ho
  have OWN := hid ho
  clear ho
  have HC := hid hcells
  clear hcells
  unfold flowChk
  by_cases hlen : 256 < l.length
  · rw [if_pos hlen]
    go_enter Tryz.func47, Tryz.ntmps47
    go_wp2_with fail
    go_ret
    exact ⟨rfl, Below.alloc (Below.refl _ _) (Nat.le_refl _) _⟩
  · rw [if_neg hlen]
    obtain ⟨Q, hQ⟩ : ∃ Q, Q = firstBad (l.map elChkS) := ⟨_, rfl⟩
    rw [← hQ]
    have HQ := hid hQ
    clear hQ
    go_enter Tryz.func47, Tryz.ntmps47
    go_wp2_with fail
    go_loopw [3] (fun t wr => ∃ k : Nat, t = .int .i64 k ∧ k ≤ l.length ∧ Below w.heap.size w wr ∧ Hid (wr.heap[w.heap.size]? = some (.cells #[.slice a l.length cap] 25 (0, 0))) ∧ Hid (∀ j, j < k → (l.map elChkS)[j]? = some 0)) (fun t _ => l.length - (intOf t).toNat)
    case atStart => exact ⟨0, rfl, Nat.zero_le _, Below.alloc (Below.refl _ _) (Nat.le_refl _) _, hid (by simp only [block_at]), hid (fun j hj => by omega)⟩
    case round =>
      obtain ⟨k, rfl, hk, hb, hbox, hall⟩ := hrel
      have bx := cell_of_block hbox.out 0
      simp at bx
      haveI : Has wr w.heap.size := ⟨lt_of_block hbox.out⟩
      by_cases hkn : k < l.length
      · obtain ⟨g, rfl, hce⟩ := HC.out (by omega)
        have hx : l[k]? = some l[k] := List.getElem?_eq_getElem hkn
        have hpx := hp l[k] (List.getElem_mem hkn)
        obtain ⟨x, hxx⟩ : ∃ x, x = l[k] := ⟨_, rfl⟩
        rw [← hxx] at hx hpx
        have hlenx : (l.flatMap elCells).length = 4 * l.length := by rw [OWN.out.1, Nat.mul_comm]
        have hcw : ∀ j, j < 4 → wr.cell? ⟨g, k * 4 + j, none⟩ = (elCells x)[j]? := fun j hj => by
          have h1 := hce (k * 4 + j) (by rw [hlenx]; omega)
          rw [flat_at elCells 4 (fun _ => rfl) l k j x hx hj] at h1
          rw [← h1]
          exact (Keeps.of_below (S := []) hb).cell (q := ⟨g, k * 4 + j, none⟩) (World.block_lt_of_cell? _ _ (h1.trans (List.getElem?_eq_getElem (by exact hj)))) (by simp)
        have c0 : wr.cell? ⟨g, k * 4, none⟩ = some (.int .u8 x.1) := hcw 0 (by omega)
        have c1 : wr.cell? ⟨g, k * 4 + 1, none⟩ = some (.complex .f64 x.2.1.1 x.2.1.2) := hcw 1 (by omega)
        have c2 : wr.cell? ⟨g, k * 4 + 2, none⟩ = some (.complex .f64 x.2.2.1.1 x.2.2.1.2) := hcw 2 (by omega)
        have c3 : wr.cell? ⟨g, k * 4 + 3, none⟩ = some (.float .f64 x.2.2.2) := hcw 3 (by omega)
        have hglt := World.block_lt_of_cell? _ _ c0
        haveI : Has wr g := ⟨hglt⟩
        clear hcw hce hxx
        have hsz := hb.size
        have HB := hid hb
        have hmk : (l.map elChkS)[k]? = some (elChkS x) := by rw [List.getElem?_map, hx]; rfl
        by_cases hz : elChkS x = 0
        · have hall' : Hid (∀ j, j < k + 1 → (l.map elChkS)[j]? = some 0) := hid (fun j hj => by
            rcases Nat.lt_or_eq_of_le (Nat.le_of_lt_succ hj) with h | rfl
            · exact hall.out j h
            · rw [hmk, hz])
          clear hall hmk hx hb
          go_wp2_with fail
          refine (relcheck_any x.1 x.2.1.1 x.2.1.2 x.2.2.1.1 x.2.2.1.2 x.2.2.2 hpx.1 hpx.2.1 hpx.2.2.1 hpx.2.2.2.1 hpx.2.2.2.2 _).mono ?_
          rintro e w' ⟨rfl, hb2⟩
          rw [show elChk x.1 x.2.1.1 x.2.1.2 x.2.2.1.1 x.2.2.1.2 x.2.2.2 = 0 from hz]
          go_wp2_with fail
          go_roundw
          case rel => exact ⟨k + 1, by rfl, by omega, HB.out.trans (hb2.mono hsz), hid ((hb2.block _ (lt_of_block hbox.out)).trans hbox.out), hall'⟩
          case measure => simp [intOf]; omega
        · have hq := firstBad_split (l.map elChkS) k _ hmk hall.out
          rw [if_neg hz, ← HQ.out] at hq
          have hz' : (elChk x.1 x.2.1.1 x.2.1.2 x.2.2.1.1 x.2.2.1.2 x.2.2.2 != 0) = true := by simpa [elChkS] using hz
          have HQ2 := hid hq
          clear hall hmk hx hb hq
          go_wp2_with fail
          refine (relcheck_any x.1 x.2.1.1 x.2.1.2 x.2.2.1.1 x.2.2.1.2 x.2.2.2 hpx.1 hpx.2.1 hpx.2.2.1 hpx.2.2.2.1 hpx.2.2.2.2 _).mono ?_
          rintro e w' ⟨rfl, hb2⟩
          go_wp2_with fail
          go_ret
          exact ⟨by rw [HQ2.out]; rfl, HB.out.trans (hb2.mono hsz)⟩
      · obtain rfl : k = l.length := by omega
        have hfin := firstBad_all (l.map elChkS) (fun j hj => hall.out j (by simpa using hj))
        have HF := hid hfin
        clear hfin hall
        go_wp2_with fail
        go_ret
        exact ⟨by rw [HQ.out, HF.out]; rfl, hb⟩
set_option maxRecDepth 100000 in
set_option maxHeartbeats 8000000 in
theorem rwhirl_check (l : List Wh) (hp : ∀ x ∈ l, fits x.1.1 ∧ fits x.1.2 ∧ fits x.2) (B0 : Nat) (sv : Value) (w : World) (ho : w.ownsRow B0 60 2 sv l.length (l.flatMap whCells)) (hn : l.length ≤ 70000) :
    Calls Tryz.prog 48 #[sv] w fun e w' => e = .returned (.int .i64 (whirlChk l)) ∧ Below w.heap.size w w' := by
  obtain ⟨a, cap, rfl, hcells⟩ := own_form ho
  have OWN := hid ho
  clear ho
  have HC := hid hcells
  clear hcells
  unfold whirlChk
  by_cases hlen : 4096 < l.length
  · rw [if_pos hlen]
    go_enter Tryz.func48, Tryz.ntmps48
    go_wp2_with fail
    go_ret
    exact ⟨rfl, Below.refl _ _⟩
  · rw [if_neg hlen]
    obtain ⟨Q, hQ⟩ : ∃ Q, Q = firstBad (l.map whChkS) := ⟨_, rfl⟩
    rw [← hQ]
    have HQ := hid hQ
    clear hQ
    go_enter Tryz.func48, Tryz.ntmps48
    go_wp2_with fail
    go_loopw [3] (fun t wr => ∃ k : Nat, t = .int .i64 k ∧ k ≤ l.length ∧ Below w.heap.size w wr ∧ Hid (∀ j, j < k → (l.map whChkS)[j]? = some 0)) (fun t _ => l.length - (intOf t).toNat)
    case atStart => exact ⟨0, rfl, Nat.zero_le _, Below.refl _ _, hid (fun j hj => by omega)⟩
    case round =>
      obtain ⟨k, rfl, hk, hb, hall⟩ := hrel
      by_cases hkn : k < l.length
      · obtain ⟨g, rfl, hce⟩ := HC.out (by omega)
        have hx : l[k]? = some l[k] := List.getElem?_eq_getElem hkn
        have hpx := hp l[k] (List.getElem_mem hkn)
        obtain ⟨x, hxx⟩ : ∃ x, x = l[k] := ⟨_, rfl⟩
        rw [← hxx] at hx hpx
        have HPX := hid hpx
        clear hpx
        have hlenx : (l.flatMap whCells).length = 2 * l.length := by rw [OWN.out.1, Nat.mul_comm]
        have hcw : ∀ j, j < 2 → wr.cell? ⟨g, k * 2 + j, none⟩ = (whCells x)[j]? := fun j hj => by
          have h1 := hce (k * 2 + j) (by rw [hlenx]; omega)
          rw [flat_at whCells 2 (fun _ => rfl) l k j x hx hj] at h1
          rw [← h1]
          exact (Keeps.of_below (S := []) hb).cell (q := ⟨g, k * 2 + j, none⟩) (World.block_lt_of_cell? _ _ (h1.trans (List.getElem?_eq_getElem (by exact hj)))) (by simp)
        have c0 : wr.cell? ⟨g, k * 2, none⟩ = some (.complex .f64 x.1.1 x.1.2) := hcw 0 (by omega)
        have c1 : wr.cell? ⟨g, k * 2 + 1, none⟩ = some (.float .f64 x.2) := hcw 1 (by omega)
        have hglt := World.block_lt_of_cell? _ _ c0
        haveI : Has wr g := ⟨hglt⟩
        clear hcw hce hxx
        have hsz := hb.size
        have HB := hid hb
        have hmk : (l.map whChkS)[k]? = some (whChkS x) := by rw [List.getElem?_map, hx]; rfl
        cases hA : cwithin x.1.1 x.1.2 maxReal
        · have hA' : cwithin x.1.1 x.1.2 4787326403894837248 = false := hA
          have hB' : True := trivial
          cases hB : fwithin x.2 maxReal
          all_goals
            have hz : whChkS x = 5 := by unfold whChkS; rw [hA, hB]; rfl
            have hq := firstBad_split (l.map whChkS) k _ hmk hall.out
            rw [hz, if_neg (by decide), ← HQ.out] at hq
            have HQ2 := hid hq
            clear hall hmk hx hb hq
            go_wp2_with (first | (go_at_call 71; ((with_reducible refine (rcwithin_any _ _ HPX.out.1 HPX.out.2.1 _).mono ?_); rintro e w' ⟨rfl, rfl⟩; rw [hA])) | (go_at_call 72; ((with_reducible refine (rwithin_any _ HPX.out.2.2 _).mono ?_); rintro e w' ⟨rfl, rfl⟩; rw [hB])))
            go_ret
            exact ⟨by rw [HQ2.out]; rfl, HB.out.trans ((Below.refl _ _).mono hsz)⟩
        · have hA' : cwithin x.1.1 x.1.2 4787326403894837248 = true := hA
          cases hB : fwithin x.2 maxReal
          · have hB' : fwithin x.2 4787326403894837248 = false := hB
            have hz : whChkS x = 5 := by unfold whChkS; rw [hA, hB]; rfl
            have hq := firstBad_split (l.map whChkS) k _ hmk hall.out
            rw [hz, if_neg (by decide), ← HQ.out] at hq
            have HQ2 := hid hq
            clear hall hmk hx hb hq
            go_wp2_with (first | (go_at_call 71; ((with_reducible refine (rcwithin_any _ _ HPX.out.1 HPX.out.2.1 _).mono ?_); rintro e w' ⟨rfl, rfl⟩; rw [hA])) | (go_at_call 72; ((with_reducible refine (rwithin_any _ HPX.out.2.2 _).mono ?_); rintro e w' ⟨rfl, rfl⟩; rw [hB])))
            go_ret
            exact ⟨by rw [HQ2.out]; rfl, HB.out.trans ((Below.refl _ _).mono hsz)⟩
          · have hB' : fwithin x.2 4787326403894837248 = true := hB
            have hz : whChkS x = 0 := by unfold whChkS; rw [hA, hB]; rfl
            have hall' : Hid (∀ j, j < k + 1 → (l.map whChkS)[j]? = some 0) := hid (fun j hj => by
              rcases Nat.lt_or_eq_of_le (Nat.le_of_lt_succ hj) with h | rfl
              · exact hall.out j h
              · rw [hmk, hz])
            clear hall hmk hx hb
            go_wp2_with (first | (go_at_call 71; ((with_reducible refine (rcwithin_any _ _ HPX.out.1 HPX.out.2.1 _).mono ?_); rintro e w' ⟨rfl, rfl⟩; rw [hA])) | (go_at_call 72; ((with_reducible refine (rwithin_any _ HPX.out.2.2 _).mono ?_); rintro e w' ⟨rfl, rfl⟩; rw [hB])))
            go_roundw
            case rel => exact ⟨k + 1, by rfl, by omega, HB.out.trans ((Below.refl _ _).mono hsz), hall'⟩
            case measure => simp [intOf]; omega
      · obtain rfl : k = l.length := by omega
        have hfin := firstBad_all (l.map whChkS) (fun j hj => hall.out j (by simpa using hj))
        have HF := hid hfin
        clear hfin hall
        go_wp2_with fail
        go_ret
        exact ⟨by rw [HQ.out, HF.out]; rfl, hb⟩
end Go.Proofs.YtnagagcgmfkjjaaGreatDoor
