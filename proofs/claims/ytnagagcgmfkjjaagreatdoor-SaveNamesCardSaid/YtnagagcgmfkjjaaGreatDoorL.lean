/- When an element may be. -/
import Derived.Test.YtnagagcgmfkjjaaGreatDoorK
import Derived.Test.YtnagagcgmfkjjaaGreatDoorE
set_option linter.unusedSimpArgs false
set_option linter.unusedVariables false
namespace Go.Proofs.YtnagagcgmfkjjaaGreatDoor
open Go.RowKit

def feq (a b : Nat) : Bool := FloatKind.f64.format.order a b == some .eq
def fge (a b : Nat) : Bool := FloatKind.f64.format.order a b == some .gt || FloatKind.f64.format.order a b == some .eq
def fle (a b : Nat) : Bool := FloatKind.f64.format.order a b == some .lt || FloatKind.f64.format.order a b == some .eq
def fabs (a : Nat) : Nat := (bits .andNot .u64 (a : Int) 9223372036854775808).toNat
def fwithin (a m : Nat) : Bool := fle (fabs a) m
def cwithin (a b m : Nat) : Bool := fwithin a m && fwithin b m
theorem abs_any (a : Nat) (w : World) :
    Calls Tryz.prog 86 #[.float .f64 a] w fun e w' => e = .returned (.float .f64 (fabs a)) ∧ w = w' := by
  have h1 := f64bits_run
  have h2 := f64from_run
  go_enter Tryz.func86, Tryz.ntmps86
  go_wp2
  go_ret
  exact ⟨rfl, rfl⟩
theorem within_any (a m : Nat) (w : World) :
    Calls Tryz.prog 66 #[.float .f64 a, .float .f64 m] w fun e w' => e = .returned (.bool (fwithin a m)) ∧ w = w' := by
  go_enter Tryz.func66, Tryz.ntmps66
  go_wp2_with (go_at_call 86; refine (abs_any _ _).mono ?_; rintro e w' ⟨rfl, rfl⟩)
  go_ret
  exact ⟨rfl, rfl⟩
theorem pwithin_any (a b m : Nat) (w : World) :
    Calls Tryz.prog 65 #[.complex .f64 a b, .float .f64 m] w fun e w' => e = .returned (.bool (cwithin a b m)) ∧ w = w' := by
  cases h : fwithin a m
  all_goals
    have hc : cwithin a b m = (fwithin a m && fwithin b m) := rfl
    rw [h] at hc
    rw [hc]
    go_enter Tryz.func65, Tryz.ntmps65
    go_wp2_with (go_at_call 66; refine (within_any _ _ _).mono ?_; rintro e w' ⟨rfl, rfl⟩; try rw [h])
    go_ret
    exact ⟨by simp, rfl⟩
/-- The greatest number that may be. -/
def maxReal : Nat := 4787326403894837248
theorem reals_any (a b : Nat) (w : World) :
    Calls Tryz.prog 83 #[.complex .f64 a b] w fun e w' => e = .returned (.bool (cwithin a b maxReal)) ∧ w = w' := by
  go_enter Tryz.func83, Tryz.ntmps83
  go_wp2_with (go_at_call 65; refine (pwithin_any _ _ _ _).mono ?_; rintro e w' ⟨rfl, rfl⟩)
  go_ret
  exact ⟨rfl, rfl⟩
def cnought (a b : Nat) : Bool := feq a 0 && feq b 0
theorem nought_any (a b : Nat) (w : World) :
    Calls Tryz.prog 84 #[.complex .f64 a b] w fun e w' => e = .returned (.bool (cnought a b)) ∧ w = w' := by
  cases h : feq a 0
  all_goals
    have h1 : (FloatKind.f64.format.order a 0 == some .eq) = _ := h
    have hc : cnought a b = (feq a 0 && (FloatKind.f64.format.order b 0 == some .eq)) := rfl
    rw [h] at hc
    rw [hc]
    go_enter Tryz.func84, Tryz.ntmps84
    go_wp2
    go_ret
    exact ⟨by simp, rfl⟩
/-- A float cut to its whole part. -/
def ftrunc (a : Nat) : Nat := FloatKind.f64.encode ((FloatKind.f64.decode a).integral .zero)
def fnan (a : Nat) : Bool := (FloatKind.f64.decode a).isNaN
theorem trunc_law (a : Nat) (h : (FloatKind.f64.decode a).isNaN = false) : Go.Extern.MathFloor.toIntegral "math.archTrunc" .zero #[.float .f64 a] = pure (.float .f64 (ftrunc a)) := by
  unfold ftrunc
  obtain ⟨N, hN⟩ : ∃ N : Bool → Nat → Sem Value, Go.Extern.MathFloor.toIntegral "math.archTrunc" .zero #[.float .f64 a] = Go.Extern.MathFloor.toIntegral.match_1 (fun _ => Sem Value) (FloatKind.f64.decode a) N (fun d => pure (.float .f64 (FloatKind.f64.encode (d.integral .zero)))) := ⟨_, rfl⟩
  rw [hN]
  generalize FloatKind.f64.decode a = d at h ⊢
  cases d with
  | nan s t => cases h
  | number s m p => rfl
  | infinity s => rfl
theorem arch_trunc0 (a : Nat) (w : World) : (callFunc 121 #[.float .f64 a]).run Tryz.prog w = (Next.value <$> Go.Extern.MathFloor.toIntegral "math.archTrunc" .zero #[.float .f64 a]).run Tryz.prog w := by kernel_rfl
theorem arch_trunc (a : Nat) (h : fnan a = false) (w : World) : (callFunc 121 #[.float .f64 a]).run Tryz.prog w = .ok (.value (.float .f64 (ftrunc a))) w := by
  rw [arch_trunc0, trunc_law a h]
  rfl
theorem isNaN_rung (a : Nat) : fnan a = decide (9218868437227405312 < a % 9223372036854775808) := by
  have e1 : Ieee.double.signWeight = 9223372036854775808 := by decide
  have e2 : Ieee.double.binade = 4503599627370496 := by decide
  have e3 : Ieee.double.infRung = 9218868437227405312 := by decide
  show (Ieee.double.read a).isNaN = _
  unfold Ieee.Format.read
  rw [e1, e2, e3]
  simp only []
  split
  · exact (decide_eq_false_iff_not.2 (by omega)).symm
  · split
    · exact (decide_eq_false_iff_not.2 (by omega)).symm
    · split
      · exact (decide_eq_false_iff_not.2 (by omega)).symm
      · exact (decide_eq_true_iff.2 (by omega)).symm
theorem fabs_eq (a : Nat) (h : a < 18446744073709551616) : fabs a = a % 9223372036854775808 := by
  have h1 := u64_andNot_nat a 9223372036854775808 h (by omega)
  unfold fabs
  have e : (9223372036854775808 : Int) = ((9223372036854775808 : Nat) : Int) := rfl
  rw [e, h1, Int.toNat_natCast]
  rw [show 18446744073709551615 - 9223372036854775808 = 2 ^ 63 - 1 by decide, Nat.and_two_pow_sub_one_eq_mod]
theorem order_nan (a b : Nat) (h : fnan a = true) : FloatKind.f64.format.order a b = none := by
  show (Ieee.double.read a).order (Ieee.double.read b) = none
  have h' : (Ieee.double.read a).isNaN = true := h
  cases hd : Ieee.double.read a <;> rw [hd] at h'
  · cases h'
  · cases h'
  · rfl
theorem within_num (a m : Nat) (ha : a < 18446744073709551616) (h : fwithin a m = true) : fnan a = false := by
  cases hn : fnan a
  · rfl
  · exfalso
    have : fnan (fabs a) = true := by
      rw [isNaN_rung] at hn ⊢
      rw [fabs_eq a ha]
      simpa using hn
    unfold fwithin fle at h
    rw [order_nan _ _ this] at h
    cases h
theorem trunc_any (a : Nat) (h : fnan a = false) (w : World) :
    Calls Tryz.prog 104 #[.float .f64 a] w fun e w' => e = .returned (.float .f64 (ftrunc a)) ∧ w = w' := by
  have h1 := fun w => arch_trunc a h w
  clear h
  go_enter Tryz.func104, Tryz.ntmps104
  go_wp2
  go_ret
  exact ⟨rfl, rfl⟩
theorem whole85 (a : Nat) (h : fnan a = false) (w : World) :
    Calls Tryz.prog 85 #[.float .f64 a] w fun e w' => e = .returned (.bool (feq (ftrunc a) a)) ∧ w = w' := by
  go_enter Tryz.func85, Tryz.ntmps85
  go_wp2_with (go_at_call 104; refine (trunc_any _ h _).mono ?_; rintro e w' ⟨rfl, rfl⟩)
  go_ret
  exact ⟨rfl, rfl⟩
/-- May an element's kind have its numbers? -/
def mayS (k a1 a2 p : Nat) : Bool :=
  if k = 1 then cnought a1 a2 && feq p 0
  else if k = 2 then feq p 0
  else if k = 3 then (feq (ftrunc p) p && fge p 4607182418800017408) && fle p 4620693217682128896
  else fge p 4598175219545276416 && fle p 4616189618054758400
/-- The code that an element's check tells. -/
def elChk (k a1 a2 s1 s2 p : Nat) : Int :=
  if k < 1 ∨ 4 < k then 150
  else if cwithin a1 a2 maxReal && cwithin s1 s2 maxReal && fwithin p maxReal then (if mayS k a1 a2 p then 0 else 150)
  else 5
set_option maxHeartbeats 4000000 in
set_option maxRecDepth 100000 in
theorem elcheck_any (k a1 a2 s1 s2 p : Nat) (hp : p < 18446744073709551616) (w : World) :
    Calls Tryz.prog 64 #[.agg #[.int .u8 k, .complex .f64 a1 a2, .complex .f64 s1 s2, .float .f64 p]] w fun e w' => e = .returned (.int .i64 (elChk k a1 a2 s1 s2 p)) ∧ Below w.heap.size w w' := by
  unfold elChk
  by_cases hk : k < 1 ∨ 4 < k
  · rw [if_pos hk]
    rcases hk with hk | hk
    · have h0 : k = 0 := by omega
      subst h0
      go_enter Tryz.func64, Tryz.ntmps64
      go_wp2
      go_ret
      exact ⟨rfl, Below.alloc (Below.refl _ _) (Nat.le_refl _) _⟩
    · go_enter Tryz.func64, Tryz.ntmps64
      go_wp2
      go_ret
      exact ⟨rfl, Below.alloc (Below.refl _ _) (Nat.le_refl _) _⟩
  · rw [if_neg hk]
    have hk' : k = 1 ∨ k = 2 ∨ k = 3 ∨ k = 4 := by omega
    clear hk
    cases hA : cwithin a1 a2 maxReal
    · rw [show (false && cwithin s1 s2 maxReal && fwithin p maxReal) = false by rfl]
      rcases hk' with rfl | rfl | rfl | rfl
      all_goals
        go_enter Tryz.func64, Tryz.ntmps64
        go_wp2_with (first | (go_at_call 83; ((with_reducible refine (reals_any _ _ _).mono ?_); rintro e w' ⟨rfl, rfl⟩; (try rw [hA]); (try rw [hS]))) | (go_at_call 66; ((with_reducible refine (within_any _ _ _).mono ?_); rintro e w' ⟨rfl, rfl⟩; (try rw [hP]))) | (go_at_call 84; ((with_reducible refine (nought_any _ _ _).mono ?_); rintro e w' ⟨rfl, rfl⟩)) | (go_at_call 85; ((with_reducible refine (whole85 _ hN.out _).mono ?_); rintro e w' ⟨rfl, rfl⟩)))
        go_ret
        exact ⟨rfl, Below.alloc (Below.refl _ _) (Nat.le_refl _) _⟩
    · cases hS : cwithin s1 s2 maxReal
      · rw [show (true && false && fwithin p maxReal) = false by rfl]
        rcases hk' with rfl | rfl | rfl | rfl
        all_goals
          go_enter Tryz.func64, Tryz.ntmps64
          go_wp2_with (first | (go_at_call 83; ((with_reducible refine (reals_any _ _ _).mono ?_); rintro e w' ⟨rfl, rfl⟩; (try rw [hA]); (try rw [hS]))) | (go_at_call 66; ((with_reducible refine (within_any _ _ _).mono ?_); rintro e w' ⟨rfl, rfl⟩; (try rw [hP]))) | (go_at_call 84; ((with_reducible refine (nought_any _ _ _).mono ?_); rintro e w' ⟨rfl, rfl⟩)) | (go_at_call 85; ((with_reducible refine (whole85 _ hN.out _).mono ?_); rintro e w' ⟨rfl, rfl⟩)))
          go_ret
          exact ⟨rfl, Below.alloc (Below.refl _ _) (Nat.le_refl _) _⟩
      · cases hP : fwithin p maxReal
        · rw [show (true && true && false) = false by rfl]
          have hP' : fwithin p 4787326403894837248 = false := hP
          rcases hk' with rfl | rfl | rfl | rfl
          all_goals
            go_enter Tryz.func64, Tryz.ntmps64
            go_wp2_with (first | (go_at_call 83; ((with_reducible refine (reals_any _ _ _).mono ?_); rintro e w' ⟨rfl, rfl⟩; (try rw [hA]); (try rw [hS]))) | (go_at_call 66; ((with_reducible refine (within_any _ _ _).mono ?_); rintro e w' ⟨rfl, rfl⟩; (try rw [hP]))) | (go_at_call 84; ((with_reducible refine (nought_any _ _ _).mono ?_); rintro e w' ⟨rfl, rfl⟩)) | (go_at_call 85; ((with_reducible refine (whole85 _ hN.out _).mono ?_); rintro e w' ⟨rfl, rfl⟩)))
            go_ret
            exact ⟨rfl, Below.alloc (Below.refl _ _) (Nat.le_refl _) _⟩
        · rw [show (true && true && true) = true by rfl, if_pos rfl]
          have hN := hid (within_num p _ hp hP)
          have hP' : fwithin p 4787326403894837248 = true := hP
          rcases hk' with rfl | rfl | rfl | rfl
          · unfold mayS
            rw [if_pos rfl]
            rcases Bool.eq_false_or_eq_true (cnought a1 a2) with h1 | h1 <;> rcases Bool.eq_false_or_eq_true (feq p 0) with h2 | h2
            all_goals
              rw [h1, h2]
              have h2' : (FloatKind.f64.format.order p 0 == some .eq) = _ := h2
              go_enter Tryz.func64, Tryz.ntmps64
              go_wp2_with (first | (go_at_call 83; ((with_reducible refine (reals_any _ _ _).mono ?_); rintro e w' ⟨rfl, rfl⟩; (try rw [hA]); (try rw [hS]))) | (go_at_call 66; ((with_reducible refine (within_any _ _ _).mono ?_); rintro e w' ⟨rfl, rfl⟩; (try rw [hP']))) | (go_at_call 84; ((with_reducible refine (nought_any _ _ _).mono ?_); rintro e w' ⟨rfl, rfl⟩; (try rw [h1]))) | (go_at_call 85; ((with_reducible refine (whole85 _ hN.out _).mono ?_); rintro e w' ⟨rfl, rfl⟩; (try rw [h1]))))
              go_ret
              exact ⟨rfl, Below.alloc (Below.refl _ _) (Nat.le_refl _) _⟩
          · unfold mayS
            rw [if_neg (show ¬ (2 : Nat) = 1 by decide), if_pos (show (2 : Nat) = 2 from rfl)]
            rcases Bool.eq_false_or_eq_true (feq p 0) with h2 | h2
            all_goals
              rw [h2]
              have h2' : (FloatKind.f64.format.order p 0 == some .eq) = _ := h2
              go_enter Tryz.func64, Tryz.ntmps64
              go_wp2_with (first | (go_at_call 83; ((with_reducible refine (reals_any _ _ _).mono ?_); rintro e w' ⟨rfl, rfl⟩; (try rw [hA]); (try rw [hS]))) | (go_at_call 66; ((with_reducible refine (within_any _ _ _).mono ?_); rintro e w' ⟨rfl, rfl⟩; (try rw [hP']))) | (go_at_call 84; ((with_reducible refine (nought_any _ _ _).mono ?_); rintro e w' ⟨rfl, rfl⟩; (try rw [h1]))) | (go_at_call 85; ((with_reducible refine (whole85 _ hN.out _).mono ?_); rintro e w' ⟨rfl, rfl⟩; (try rw [h1]))))
              go_ret
              exact ⟨rfl, Below.alloc (Below.refl _ _) (Nat.le_refl _) _⟩
          · unfold mayS
            rw [if_neg (show ¬ (3 : Nat) = 1 by decide), if_neg (show ¬ (3 : Nat) = 2 by decide), if_pos (show (3 : Nat) = 3 from rfl)]
            rcases Bool.eq_false_or_eq_true (feq (ftrunc p) p) with h1 | h1 <;> rcases Bool.eq_false_or_eq_true (fge p 4607182418800017408) with h2 | h2 <;> rcases Bool.eq_false_or_eq_true (fle p 4620693217682128896) with h3 | h3
            all_goals
              rw [h1, h2, h3]
              have h2' : (FloatKind.f64.format.order p 4607182418800017408 == some .gt || FloatKind.f64.format.order p 4607182418800017408 == some .eq) = _ := h2
              have h3' : (FloatKind.f64.format.order p 4620693217682128896 == some .lt || FloatKind.f64.format.order p 4620693217682128896 == some .eq) = _ := h3
              go_enter Tryz.func64, Tryz.ntmps64
              go_wp2_with (first | (go_at_call 83; ((with_reducible refine (reals_any _ _ _).mono ?_); rintro e w' ⟨rfl, rfl⟩; (try rw [hA]); (try rw [hS]))) | (go_at_call 66; ((with_reducible refine (within_any _ _ _).mono ?_); rintro e w' ⟨rfl, rfl⟩; (try rw [hP']))) | (go_at_call 84; ((with_reducible refine (nought_any _ _ _).mono ?_); rintro e w' ⟨rfl, rfl⟩; (try rw [h1]))) | (go_at_call 85; ((with_reducible refine (whole85 _ hN.out _).mono ?_); rintro e w' ⟨rfl, rfl⟩; (try rw [h1]))))
              go_ret
              exact ⟨rfl, Below.alloc (Below.refl _ _) (Nat.le_refl _) _⟩
          · unfold mayS
            rw [if_neg (show ¬ (4 : Nat) = 1 by decide), if_neg (show ¬ (4 : Nat) = 2 by decide), if_neg (show ¬ (4 : Nat) = 3 by decide)]
            rcases Bool.eq_false_or_eq_true (fge p 4598175219545276416) with h2 | h2 <;> rcases Bool.eq_false_or_eq_true (fle p 4616189618054758400) with h3 | h3
            all_goals
              rw [h2, h3]
              have h2' : (FloatKind.f64.format.order p 4598175219545276416 == some .gt || FloatKind.f64.format.order p 4598175219545276416 == some .eq) = _ := h2
              have h3' : (FloatKind.f64.format.order p 4616189618054758400 == some .lt || FloatKind.f64.format.order p 4616189618054758400 == some .eq) = _ := h3
              go_enter Tryz.func64, Tryz.ntmps64
              go_wp2_with (first | (go_at_call 83; ((with_reducible refine (reals_any _ _ _).mono ?_); rintro e w' ⟨rfl, rfl⟩; (try rw [hA]); (try rw [hS]))) | (go_at_call 66; ((with_reducible refine (within_any _ _ _).mono ?_); rintro e w' ⟨rfl, rfl⟩; (try rw [hP']))) | (go_at_call 84; ((with_reducible refine (nought_any _ _ _).mono ?_); rintro e w' ⟨rfl, rfl⟩; (try rw [h1]))) | (go_at_call 85; ((with_reducible refine (whole85 _ hN.out _).mono ?_); rintro e w' ⟨rfl, rfl⟩; (try rw [h1]))))
              go_ret
              exact ⟨rfl, Below.alloc (Below.refl _ _) (Nat.le_refl _) _⟩
end Go.Proofs.YtnagagcgmfkjjaaGreatDoor
