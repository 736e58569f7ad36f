/- The greatest common divisor: plain laws. The greatest common divisor. Words are added to a row from a place on. -/
import Derived.Test.YtcoillcppmibgaaGreatDoorD09
import Derived.Deep.LoopGhost
set_option linter.unusedSimpArgs false
set_option linter.unusedVariables false
namespace Go.Proofs.YtcoillcppmibgaaGreatDoor
section
open Go.RowKit
namespace Big
theorem pow2_of {n : Nat} (h0 : n ≠ 0) (h : tz n + 1 = bl n) : n = 2 ^ tz n := by
  obtain ⟨q, hq⟩ := tz_spec h0
  have h1 := bl_lt n
  rw [← h, Nat.pow_succ] at h1
  obtain ⟨p, hp⟩ : ∃ p, p = 2 ^ tz n := ⟨_, rfl⟩
  rw [← hp] at hq h1 ⊢
  rcases Nat.eq_zero_or_pos q with e | e
  · rw [e] at hq; omega
  · exfalso
    have h2 : p * 2 < p * (2 * q + 1) := Nat.mul_lt_mul_of_pos_left (by omega) (by rcases Nat.eq_zero_or_pos p with h | h; · rw [h] at hq; omega
                                                                                   · exact h)
    omega
theorem gcd_pow2 {m k : Nat} (hm : m ≠ 0) : Nat.gcd m (2 ^ k) = 2 ^ min (tz m) k := by
  obtain ⟨q, hq⟩ := tz_spec hm
  rcases Nat.le_total k (tz m) with h | h
  · rw [Nat.min_eq_right h]
    refine Nat.gcd_eq_right ?_
    rw [hq, show tz m = k + (tz m - k) by omega, Nat.pow_add, Nat.mul_assoc]
    exact Nat.dvd_mul_right _ _
  · rw [Nat.min_eq_left h]
    obtain ⟨d, rfl⟩ : ∃ d, k = tz m + d := ⟨k - tz m, by omega⟩
    have hc : Nat.gcd (2 * q + 1) (2 ^ d) = 1 := by
      have : Nat.Coprime (2 * q + 1) 2 := by
        unfold Nat.Coprime
        rw [Nat.gcd_comm, Nat.gcd_rec, Nat.mul_add_mod]
        rfl
      exact Nat.Coprime.pow_right d this
    calc Nat.gcd m (2 ^ (tz m + d)) = Nat.gcd (2 ^ tz m * (2 * q + 1)) (2 ^ tz m * 2 ^ d) := by rw [← hq, Nat.pow_add]
      _ = 2 ^ tz m := by rw [Nat.gcd_mul_left, hc, Nat.mul_one]
/-- Where the steps stand, and the step ahead. -/
structure Co (X Y x y u0 u1 u2 v0 v1 v2 : Nat) (ev : Bool) : Prop where
  L : Lh X Y x y u1 u2 v1 v2 ev
  prev : v0 = 0 ∨ ∃ xp yp, Lh X Y xp yp u0 u1 v0 v1 (!ev) ∧ v1 ≤ yp ∧ v0 + v1 ≤ xp - yp
theorem Co.start {X Y : Nat} (h : Y ≤ X) : Co X Y X Y 0 1 0 0 0 1 false := ⟨Lh.start h, .inl rfl⟩
theorem Co.step {X Y x y u0 u1 u2 v0 v1 v2 : Nat} {ev : Bool} (C : Co X Y x y u0 u1 u2 v0 v1 v2 ev) (hy : 0 < y) (h1 : v2 ≤ y) (h2 : v1 + v2 ≤ x - y) : Co X Y y (x - x / y * y) u1 u2 (u1 + x / y * u2) v1 v2 (v1 + x / y * v2) (!ev) :=
  ⟨C.L.step hy, .inr ⟨x, y, by rw [Bool.not_not]; exact C.L, h1, h2⟩⟩
theorem Co.bound {X Y x y u0 u1 u2 v0 v1 v2 : Nat} {ev : Bool} (C : Co X Y x y u0 u1 u2 v0 v1 v2 ev) (hX : X < 2 ^ 60) (h1 : v2 ≤ y) : y ≤ x ∧ 0 < y ∧ x < 2 ^ 60 ∧ x / y * y ≤ x ∧ u1 < 2 ^ 60 ∧ v1 < 2 ^ 60 ∧ x / y * u2 < 2 ^ 60 ∧ x / y * v2 < 2 ^ 60 ∧ v2 < 2 ^ 60 ∧ x / y < 2 ^ 60 := by
  have hs := C.L.small hX h1
  have hxy := C.L.xy
  have hv := C.L.v2p
  have hX2 := C.L.hX
  have hxX : x ≤ X := by
    rw [hX2]
    have := Nat.mul_le_mul_right x hv
    omega
  have e := Nat.div_mul_le_self x y
  have a := Nat.mul_le_mul_left (x / y) h1
  have u2y : u2 ≤ y := by
    rcases C.L.st with ⟨-, -, h, -⟩ | ⟨-, h, -⟩ <;> omega
  have b := Nat.mul_le_mul_left (x / y) u2y
  have c := Nat.div_le_self x y
  refine ⟨hxy, by omega, by omega, e, ?_, ?_, by omega, by omega, ?_, by omega⟩
  · have := hs.2.2.1; have : (2 : Nat) ^ 30 < 2 ^ 60 := by decide
    omega
  · have := hs.2.1; have : (2 : Nat) ^ 30 < 2 ^ 60 := by decide
    omega
  · omega
/-- What a round makes of both. -/
def Fin2 (A B u0 u1 v0 v1 : Nat) (ev : Bool) : Prop :=
  u0 < 1073741824 ∧ u1 < 1073741824 ∧ v0 < 1073741824 ∧ v1 < 1073741824 ∧
  (ev = true → v0 * B ≤ u0 * A ∧ u1 * A ≤ v1 * B ∧ v1 * B - u1 * A < u0 * A - v0 * B ∧ u0 * A - v0 * B ≤ B ∧ Nat.gcd (u0 * A - v0 * B) (v1 * B - u1 * A) = Nat.gcd A B) ∧
  (ev = false → u0 * A ≤ v0 * B ∧ v1 * B ≤ u1 * A ∧ u1 * A - v1 * B < v0 * B - u0 * A ∧ v0 * B - u0 * A ≤ B ∧ Nat.gcd (v0 * B - u0 * A) (u1 * A - v1 * B) = Nat.gcd A B)
theorem Co.fin {A B N x y u0 u1 u2 v0 v1 v2 : Nat} {ev : Bool} (hN : 0 < N) (hX : A / N < 2 ^ 60) (C : Co (A / N) (B / N) x y u0 u1 u2 v0 v1 v2 ev) (hv : v0 ≠ 0) : Fin2 A B u0 u1 v0 v1 ev := by
  rcases C.prev with h | ⟨xp, yp, L, h1, h2⟩
  · exact absurd h hv
  · obtain ⟨b1, b2, b3, b4⟩ := L.small hX h1
    have r := lehmer_round hN L h1 h2 hv
    have e30 : (2 : Nat) ^ 30 = 1073741824 := by decide
    rw [e30] at b1 b2 b3 b4
    refine ⟨b3, b4, b2, b1, fun e => r.1 (by rw [e]; rfl), fun e => r.2 (by rw [e]; rfl)⟩
theorem three_words {n : Nat} (h : 2 < (words n).length) : 18446744073709551616 ≤ n := by
  have hn : n ≠ 0 := fun e => by rw [e, words_0] at h; simp at h
  have := words_top hn
  have h2 : 4294967296 ^ 2 ≤ 4294967296 ^ ((words n).length - 1) := Nat.pow_le_pow_right (by decide) (by omega)
  have e : (4294967296 : Nat) ^ 2 = 18446744073709551616 := by decide
  omega
theorem two_words {n : Nat} (h : (words n).length ≤ 2) : n < 18446744073709551616 := by
  have := words_lt n
  have h2 : 4294967296 ^ (words n).length ≤ 4294967296 ^ 2 := Nat.pow_le_pow_right (by decide) h
  have e : (4294967296 : Nat) ^ 2 = 18446744073709551616 := by decide
  omega
theorem bl_three {n : Nat} (h : 18446744073709551616 ≤ n) : 64 < bl n := by
  rcases Nat.lt_or_ge 64 (bl n) with h1 | h1
  · exact h1
  · exfalso
    have a := bl_lt n
    have b : (2 : Nat) ^ bl n ≤ 2 ^ 64 := Nat.pow_le_pow_right (by decide) h1
    have e : (2 : Nat) ^ 64 = 18446744073709551616 := by decide
    omega
theorem top60 {n k : Nat} (h : bl n = k + 60) : n / 2 ^ k < 1152921504606846976 := by
  rw [Nat.div_lt_iff_lt_mul (Nat.pow_pos (by decide))]
  have a := bl_lt n
  rw [h, Nat.pow_add, Nat.mul_comm] at a
  have e : (2 : Nat) ^ 60 = 1152921504606846976 := by decide
  rw [e] at a
  exact a
theorem gcd_step {x y : Nat} (hy : y ≠ 0) : Nat.gcd y (x % y) = Nat.gcd x y := by
  rw [Nat.gcd_comm x y, Nat.gcd_rec y x, Nat.gcd_comm]
theorem int_le {a b c d : Nat} (h : c * d ≤ a * b) : 0 ≤ (a : Int) * (b : Int) + -(c : Int) * (d : Int) ∧ ((a : Int) * (b : Int) + -(c : Int) * (d : Int)).toNat = a * b - c * d := by
  have e : (a : Int) * (b : Int) + -(c : Int) * (d : Int) = ((a * b - c * d : Nat) : Int) := by
    rw [Int.neg_mul, ← Int.natCast_mul, ← Int.natCast_mul]; omega
  rw [e]
  exact ⟨by omega, Int.toNat_natCast _⟩
theorem int_le2 {a b c d : Nat} (h : a * b ≤ c * d) : 0 ≤ -(a : Int) * (b : Int) + (c : Int) * (d : Int) ∧ (-(a : Int) * (b : Int) + (c : Int) * (d : Int)).toNat = c * d - a * b := by
  rw [Int.add_comm]
  exact int_le h

end Big
end
section
open Go.RowKit
namespace Big
theorem bl_len (n : Nat) : bl n ≤ 32 * (words n).length := by
  by_cases h : n = 0
  · rw [h]; simp [bl]
  · have hl : (words n).length ≠ 0 := fun e => h (words_len0.1 e)
    obtain ⟨x, hx⟩ : ∃ x, (words n)[(words n).length - 1]? = some x := ⟨_, List.getElem?_eq_getElem (by omega)⟩
    have := bl_words h hx
    have := bl_le32 ((words_ok n).get hx)
    omega
theorem tz_bl {n : Nat} (h : n ≠ 0) : tz n ≤ bl n := by
  obtain ⟨q, hq⟩ := tz_spec h
  have h1 := bl_lt n
  rcases Nat.lt_or_ge (bl n) (tz n) with h2 | h2
  · exfalso
    have h3 : (2 : Nat) ^ bl n ≤ 2 ^ tz n := Nat.pow_le_pow_right (by decide) (by omega)
    have h4 := Nat.mul_le_mul_left (2 ^ tz n) (show 1 ≤ 2 * q + 1 by omega)
    omega
  · exact h2
set_option maxRecDepth 100000 in
set_option maxHeartbeats 32000000 in
theorem bcommon (va vb : Value) (m n : Nat) (w : World) (ha : Wd w va (words m)) (hb : Wd w vb (words n)) (hm : (words m).length ≤ 137438953472) (hn : (words n).length ≤ 137438953472) (hvr : Vr w) :
    Calls Tryz.prog 120 #[va, vb] w fun e w' => ∃ v, e = .returned v ∧ Wd w' v (words (Nat.gcd m n)) ∧ Fresh w.heap.size v ∧ Below w.heap.size w w' := by
  have CM := bcmp va vb m n w ha hb (by omega) (by omega)
  obtain ⟨G, hG⟩ : ∃ G, G = Nat.gcd m n := ⟨_, rfl⟩
  rw [← hG]
  have HG := hid hG
  have HWA := hid ha
  have HWB := hid hb
  obtain ⟨cc, hcc⟩ : ∃ cc, cc = cmpN m n := ⟨_, rfl⟩
  rw [← hcc] at CM
  have HCC := hid hcc
  clear ha hb hG hcc
  go_enter Tryz.func120, Tryz.ntmps120
  go_upto_if 25 with (go_at_call 119; refine CM.mono ?_; rintro e w' ⟨rfl, hdr⟩; obtain ⟨kd, rfl⟩ := hdr)
  go_cut [0, 1] from 25 to 27 (fun s0 s1 wx => ∃ A B : Nat, Hid (Wd wx s0 (words A)) ∧ Hid (Wd wx s1 (words B)) ∧ B ≤ A ∧ Hid (Nat.gcd A B = G) ∧ (words A).length ≤ 137438953472 ∧ Hid (Below w.heap.size w wx))
  case first =>
    by_cases hmn : m < n
    · have hc : decide (cc < 0) = true := decide_eq_true (by rw [HCC.out]; unfold cmpN; rw [if_pos hmn]; decide)
      simp only [hc]
      go_wp2_with fail
      go_meet
      exact ⟨n, m, hid HWB.out, hid HWA.out, by omega, hid (by rw [HG.out, Nat.gcd_comm]), hn, hid ((Keeps.refl _ [] _).drewN _).below⟩
    · have hc : decide (cc < 0) = false := decide_eq_false (by rw [HCC.out]; unfold cmpN; rw [if_neg hmn]; by_cases h : n < m <;> simp [h])
      simp only [hc]
      go_wp2_with fail
      go_meet
      exact ⟨m, n, hid HWA.out, hid HWB.out, by omega, hid (by rw [HG.out]), hm, hid ((Keeps.refl _ [] _).drewN _).below⟩
  case rest =>
    obtain ⟨A, B, hWA, hWB, hBA, hGG, hlA, hBL⟩ := hcut
    clear CM HCC HWA HWB HG hm hn
    have hvc := hvr.below hBL.out
    have HVC := hid hvc
    have HZA := hid (fun w' (h : Below wc.heap.size wc w') => bzeros u0 A w' (hWA.out.below h) (by omega) (hvc.below h))
    have HZB := hid (fun w' (h : Below wc.heap.size wc w') => bzeros u1 B w' (hWB.out.below h) (by have := len_mono hBA; omega) (hvc.below h))
    have HTA := hid (bbitLen u0 A wc hWA.out (by omega))
    have HTB := hid (bbitLen u1 B wc hWB.out (by have := len_mono hBA; omega))
    have HUP := hid (fun (v : Value) (k : Nat) w' (h : Wd w' v (words 1)) (hk : k ≤ 4398046511104) => bup v 1 k w' h (by rw [show words 1 = [1] by rw [words_pos (by decide)]; simp [words_0]]; simp) hk)
    have htzA : tz A ≤ 4398046511104 := by
      rcases Nat.eq_zero_or_pos A with h | h
      · rw [h]; simp [tz]
      · have := tz_bl (show A ≠ 0 by omega)
        have := bl_len A
        omega
    have htzB : tz B ≤ 4398046511104 := by
      rcases Nat.eq_zero_or_pos B with h | h
      · rw [h]; simp [tz]
      · have := tz_bl (show B ≠ 0 by omega)
        have := bl_len B
        have := len_mono hBA
        omega
    have hblA : bl A ≤ 4398046511104 := by have := bl_len A; omega
    have hblB : bl B ≤ 4398046511104 := by have := bl_len B; have := len_mono hBA; omega
    have HG1 : Hid (B ≠ 0 → tz B + 1 = bl B → 1 * 2 ^ min (tz A) (tz B) = G) := hid (fun h0 h => by
      rw [Nat.one_mul, ← hGG.out]
      have e := pow2_of h0 h
      conv => rhs; rw [e]
      exact (gcd_pow2 (by omega)).symm)
    have HG2 : Hid (A ≠ 0 → B ≠ 0 → tz A + 1 = bl A → 1 * 2 ^ min (tz A) (tz B) = G) := hid (fun h0 h1 h => by
      rw [Nat.one_mul, ← hGG.out]
      have e := pow2_of h0 h
      conv => rhs; rw [e]
      rw [Nat.gcd_comm, Nat.min_comm]
      exact (gcd_pow2 h1).symm)
    obtain ⟨a, ca, rfl, hca, -⟩ := hWA.out.form
    obtain ⟨b, cb, rfl, hcb, -⟩ := hWB.out.form
    have ez : (words 0).length = 0 := by rw [words_0]; rfl
    obtain ⟨zA, hzA⟩ : ∃ zA, zA = tz A := ⟨_, rfl⟩
    obtain ⟨zB, hzB⟩ : ∃ zB, zB = tz B := ⟨_, rfl⟩
    obtain ⟨bA, hbA⟩ : ∃ bA, bA = bl A := ⟨_, rfl⟩
    obtain ⟨bB, hbB⟩ : ∃ bB, bB = bl B := ⟨_, rfl⟩
    simp only [← hzA, ← hzB, ← hbA, ← hbB] at HZA HZB HTA HTB HG1 HG2 htzA htzB hblA hblB
    clear hzA hzB hbA hbB
    go_upto_region 3 with fail
    go_cut [38] from 28 to 38 (fun s wx => wx = wc ∧ s = .bool (decide (B ≠ 0 ∧ zB + 1 = bB)))
    case first =>
      by_cases hB0 : B = 0
      · have e : decide (B ≠ 0 ∧ zB + 1 = bB) = false := decide_eq_false (by omega)
        have c : decide (((words B).length : Int) > 0) = false := decide_eq_false (by rw [hB0, ez]; omega)
        have c' : decide ((0 : Int) < ((words B).length : Int)) = false := decide_eq_false (by rw [hB0, ez]; omega)
        have l0 : ((words B).length : Int) ≤ 0 := by rw [hB0, ez]; omega
        have E := hid e
        clear hB0 e
        go_wp2_with fail
        go_meet
        exact ⟨rfl, by first | exact congrArg Value.bool E.out.symm | exact congrArg Value.bool (LN.out.trans E.out.symm)⟩
      · have hl : (words B).length ≠ 0 := fun e => hB0 (words_len0.1 e)
        have c : decide (((words B).length : Int) > 0) = true := decide_eq_true (by omega)
        have c' : decide ((0 : Int) < ((words B).length : Int)) = true := decide_eq_true (by omega)
        have l0 : (0 : Int) < ((words B).length : Int) := by omega
        by_cases ht : zB + 1 = bB
        · have e : decide (B ≠ 0 ∧ zB + 1 = bB) = true := decide_eq_true ⟨hB0, ht⟩
          have c2 : ((zB : Int) + 1 == (bB : Int)) = true := beq_iff_eq.2 (by omega)
          have E := hid e
          clear hB0 e hl ht
          go_wp2_with (first | (go_at_call 129; refine (HZB.out _ (Below.refl _ _)).mono ?_; rintro e w'' ⟨rfl, hw⟩; obtain rfl := hw.symm) | (go_at_call 130; refine HTB.out.mono ?_; rintro e w'' ⟨rfl, hw⟩; obtain rfl := hw.symm))
          go_meet
          exact ⟨rfl, by first | exact congrArg Value.bool E.out.symm | exact congrArg Value.bool (LN.out.trans E.out.symm)⟩
        · have e : decide (B ≠ 0 ∧ zB + 1 = bB) = false := decide_eq_false (fun h => ht h.2)
          have c2 : ((zB : Int) + 1 == (bB : Int)) = false := beq_eq_false_iff_ne.2 (by omega)
          have E := hid e
          clear hB0 e hl ht
          go_wp2_with (first | (go_at_call 129; refine (HZB.out _ (Below.refl _ _)).mono ?_; rintro e w'' ⟨rfl, hw⟩; obtain rfl := hw.symm) | (go_at_call 130; refine HTB.out.mono ?_; rintro e w'' ⟨rfl, hw⟩; obtain rfl := hw.symm))
          go_meet
          exact ⟨rfl, by first | exact congrArg Value.bool E.out.symm | exact congrArg Value.bool (LN.out.trans E.out.symm)⟩
    case rest =>
      obtain ⟨rfl, rfl⟩ := hcut
      by_cases hP : B ≠ 0 ∧ zB + 1 = bB
      · have e : decide (B ≠ 0 ∧ zB + 1 = bB) = true := decide_eq_true hP
        simp only [e]
        have HR := hid (HG1.out hP.1 hP.2)
        clear hP e HG1 HG2
        have R1 : Hid (Wd (wc.alloc (.cells #[.int .u32 1] 129)) (.slice (some ⟨wc.heap.size, 0, none⟩) 1 1) (words 1)) := hid (by
          have r : Ro (wc.alloc (.cells #[.int .u32 1] 129)) wc.heap.size [1] := by unfold Ro; simp only [block_at]; rfl
          rw [show words 1 = [1] by rw [words_pos (by decide)]; simp [words_0]]
          exact r.wd (cap := 1) (Nat.le_refl _))
        have BA : Hid (Below wc.heap.size wc (wc.alloc (.cells #[.int .u32 1] 129))) := hid (Below.alloc (Below.refl _ _) (Nat.le_refl _) _)
        have HR2 : Hid (∀ z, (z = zA ∧ zA ≤ zB ∨ z = zB ∧ zB ≤ zA) → 1 * 2 ^ z = G) := hid (fun z hz => by
          rw [← HR.out]
          rcases hz with ⟨rfl, h⟩ | ⟨rfl, h⟩
          · rw [Nat.min_eq_left h]
          · rw [Nat.min_eq_right h])
        clear HR
        go_wp2_with (first | (go_at_call 129; (with_reducible refine (HZA.out _ BA.out).mono ?_); rintro e w'' ⟨rfl, hw⟩; obtain rfl := hw.symm) | (go_at_call 129; (with_reducible refine (HZB.out _ BA.out).mono ?_); rintro e w'' ⟨rfl, hw⟩; obtain rfl := hw.symm) | (go_at_call 84; (first | (with_reducible refine (HUP.out _ _ _ R1.out htzA).mono ?_) | (with_reducible refine (HUP.out _ _ _ R1.out htzB).mono ?_)); rintro e w2 ⟨v, rfl, hw, hf, hb⟩))
        all_goals
          go_ret
          refine ⟨_, rfl, by first | (rw [← HR2.out zA (by omega)]; exact hw) | (rw [← HR2.out zB (by omega)]; exact hw), fun g hg => ?_, ?_⟩
          · have := hf g hg
            have := BA.out.size
            have := hBL.out.size
            omega
          · exact Below.trans hBL.out (below_low (Below.trans BA.out (below_low hb BA.out.size)) hBL.out.size)
      · have e : decide (B ≠ 0 ∧ zB + 1 = bB) = false := decide_eq_false hP
        simp only [e]
        clear e HG1
        go_upto_region 5 with fail
        go_cut [61] from 46 to 61 (fun s wx => wx = wc ∧ s = .bool (decide (A ≠ 0 ∧ zA + 1 = bA ∧ B ≠ 0)))
        case first =>
          clear hP
          have lB : decide (((words B).length : Int) > 0) = decide (B ≠ 0) := by
            by_cases h : B = 0
            · rw [h, ez]; decide
            · have hl : (words B).length ≠ 0 := fun e => h (words_len0.1 e)
              rw [decide_eq_true (by omega), decide_eq_true h]
          have lB' : decide ((0 : Int) < ((words B).length : Int)) = decide (B ≠ 0) := lB
          by_cases hA0 : A = 0
          · have e : decide (A ≠ 0 ∧ zA + 1 = bA ∧ B ≠ 0) = false := decide_eq_false (by omega)
            have c : decide (((words A).length : Int) > 0) = false := decide_eq_false (by rw [hA0, ez]; omega)
            have c' : decide ((0 : Int) < ((words A).length : Int)) = false := decide_eq_false (by rw [hA0, ez]; omega)
            have l0 : ((words A).length : Int) ≤ 0 := by rw [hA0, ez]; omega
            have E := hid e
            clear hA0 e lB lB'
            go_wp2_with fail
            go_meet
            exact ⟨rfl, by first | exact congrArg Value.bool E.out.symm | exact congrArg Value.bool (LN.out.trans E.out.symm)⟩
          · have hl : (words A).length ≠ 0 := fun e => hA0 (words_len0.1 e)
            have c : decide (((words A).length : Int) > 0) = true := decide_eq_true (by omega)
            have c' : decide ((0 : Int) < ((words A).length : Int)) = true := decide_eq_true (by omega)
            have l0 : (0 : Int) < ((words A).length : Int) := by omega
            by_cases ht : zA + 1 = bA
            · have c2 : ((zA : Int) + 1 == (bA : Int)) = true := beq_iff_eq.2 (by omega)
              by_cases hB0 : B = 0
              · have e : decide (A ≠ 0 ∧ zA + 1 = bA ∧ B ≠ 0) = false := decide_eq_false (fun h => h.2.2 hB0)
                have d : decide (B ≠ 0) = false := decide_eq_false (fun h => h hB0)
                rw [d] at lB lB'
                have l1 : ((words B).length : Int) ≤ 0 := by rw [hB0, ez]; omega
                have LN : Hid (decide (0 < (words B).length) = false) := hid (decide_eq_false (by omega))
                have E := hid e
                clear hA0 e hl ht hB0 d
                go_wp2_with (first | (go_at_call 129; refine (HZA.out _ (Below.refl _ _)).mono ?_; rintro e w'' ⟨rfl, hw⟩; obtain rfl := hw.symm) | (go_at_call 130; refine HTA.out.mono ?_; rintro e w'' ⟨rfl, hw⟩; obtain rfl := hw.symm))
                go_meet
                exact ⟨rfl, by first | exact congrArg Value.bool E.out.symm | exact congrArg Value.bool (LN.out.trans E.out.symm)⟩
              · have e : decide (A ≠ 0 ∧ zA + 1 = bA ∧ B ≠ 0) = true := decide_eq_true ⟨hA0, ht, hB0⟩
                have d : decide (B ≠ 0) = true := decide_eq_true hB0
                rw [d] at lB lB'
                have hlB : (words B).length ≠ 0 := fun e => hB0 (words_len0.1 e)
                have l1 : (0 : Int) < ((words B).length : Int) := by omega
                have LN : Hid (decide (0 < (words B).length) = true) := hid (decide_eq_true (by omega))
                have E := hid e
                clear hA0 e hl ht hB0 d hlB
                go_wp2_with (first | (go_at_call 129; refine (HZA.out _ (Below.refl _ _)).mono ?_; rintro e w'' ⟨rfl, hw⟩; obtain rfl := hw.symm) | (go_at_call 130; refine HTA.out.mono ?_; rintro e w'' ⟨rfl, hw⟩; obtain rfl := hw.symm))
                go_meet
                exact ⟨rfl, by first | exact congrArg Value.bool E.out.symm | exact congrArg Value.bool (LN.out.trans E.out.symm)⟩
            · have e : decide (A ≠ 0 ∧ zA + 1 = bA ∧ B ≠ 0) = false := decide_eq_false (fun h => ht h.2.1)
              have c2 : ((zA : Int) + 1 == (bA : Int)) = false := beq_eq_false_iff_ne.2 (by omega)
              have E := hid e
              clear hA0 e hl ht lB lB'
              go_wp2_with (first | (go_at_call 129; refine (HZA.out _ (Below.refl _ _)).mono ?_; rintro e w'' ⟨rfl, hw⟩; obtain rfl := hw.symm) | (go_at_call 130; refine HTA.out.mono ?_; rintro e w'' ⟨rfl, hw⟩; obtain rfl := hw.symm))
              go_meet
              exact ⟨rfl, by first | exact congrArg Value.bool E.out.symm | exact congrArg Value.bool (LN.out.trans E.out.symm)⟩
        case rest =>
          obtain ⟨rfl, rfl⟩ := hcut
          by_cases hP2 : A ≠ 0 ∧ zA + 1 = bA ∧ B ≠ 0
          · have e : decide (A ≠ 0 ∧ zA + 1 = bA ∧ B ≠ 0) = true := decide_eq_true hP2
            simp only [e]
            have HR := hid (HG2.out hP2.1 hP2.2.2 hP2.2.1)
            clear hP2 hP e HG2
            have R1 : Hid (Wd (wc.alloc (.cells #[.int .u32 1] 129)) (.slice (some ⟨wc.heap.size, 0, none⟩) 1 1) (words 1)) := hid (by
              have r : Ro (wc.alloc (.cells #[.int .u32 1] 129)) wc.heap.size [1] := by unfold Ro; simp only [block_at]; rfl
              rw [show words 1 = [1] by rw [words_pos (by decide)]; simp [words_0]]
              exact r.wd (cap := 1) (Nat.le_refl _))
            have BA : Hid (Below wc.heap.size wc (wc.alloc (.cells #[.int .u32 1] 129))) := hid (Below.alloc (Below.refl _ _) (Nat.le_refl _) _)
            have HR2 : Hid (∀ z, (z = zA ∧ zA ≤ zB ∨ z = zB ∧ zB ≤ zA) → 1 * 2 ^ z = G) := hid (fun z hz => by
              rw [← HR.out]
              rcases hz with ⟨rfl, h⟩ | ⟨rfl, h⟩
              · rw [Nat.min_eq_left h]
              · rw [Nat.min_eq_right h])
            clear HR
            go_wp2_with (first | (go_at_call 129; (with_reducible refine (HZA.out _ BA.out).mono ?_); rintro e w'' ⟨rfl, hw⟩; obtain rfl := hw.symm) | (go_at_call 129; (with_reducible refine (HZB.out _ BA.out).mono ?_); rintro e w'' ⟨rfl, hw⟩; obtain rfl := hw.symm) | (go_at_call 84; (first | (with_reducible refine (HUP.out _ _ _ R1.out htzA).mono ?_) | (with_reducible refine (HUP.out _ _ _ R1.out htzB).mono ?_)); rintro e w2 ⟨v, rfl, hw, hf, hb⟩))
            all_goals
              go_ret
              refine ⟨_, rfl, by first | (rw [← HR2.out zA (by omega)]; exact hw) | (rw [← HR2.out zB (by omega)]; exact hw), fun g hg => ?_, ?_⟩
              · have := hf g hg
                have := BA.out.size
                have := hBL.out.size
                omega
              · exact Below.trans hBL.out (below_low (Below.trans BA.out (below_low hb BA.out.size)) hBL.out.size)
          · have e : decide (A ≠ 0 ∧ zA + 1 = bA ∧ B ≠ 0) = false := decide_eq_false hP2
            simp only [e]
            clear hP2 hP e HG2 HZA HZB HTA HTB HUP htzA htzB hblA hblB
            clear zA zB bA bB hca hcb HVC hvc
            go_wp2_with fail
            go_loopg [0, 1, 5, 6, 7, 8, 9, 10, 11, 12, 13, 14, 15, 16, 17] B (fun k s0 s1 s5 s6 s7 s8 s9 s10 s11 s12 s13 s14 s15 s16 s17 wr => ∃ A B : Nat, Hid (Wd wr s0 (words A)) ∧ Hid (Wd wr s1 (words B)) ∧ B ≤ A ∧ Hid (Nat.gcd A B = G) ∧ (words A).length ≤ 137438953472 ∧ B = k ∧ Hid (Below w.heap.size w wr))
            case atStart => exact ⟨A, B, hWA, hWB, hBA, hGG, hlA, rfl, hBL⟩
            case round =>
              clear hWA hWB hBA hGG hlA hBL
              clear A B
              obtain ⟨A, B, hWA, hWB, hBA, hGG, hlA, rfl, hBL⟩ := hrel
              have hlB := len_mono hBA
              by_cases h2 : 2 < (words B).length
              · obtain ⟨nn, hnn⟩ : ∃ nn, nn = bl A - 60 := ⟨_, rfl⟩
                have hB3 := three_words h2
                have hA3 : 18446744073709551616 ≤ A := by omega
                have hbl := bl_three hA3
                have hblA : bl A = nn + 60 := by omega
                have hbl2 : bl A ≤ 32 * (words A).length := by
                  have hA0 : A ≠ 0 := by omega
                  obtain ⟨x, hx⟩ : ∃ x, (words A)[(words A).length - 1]? = some x := ⟨_, List.getElem?_eq_getElem (by omega)⟩
                  have := bl_words hA0 hx
                  have := bl_le32 ((words_ok A).get hx)
                  omega
                have hX60 := top60 hblA
                have hnnB : nn ≤ 35184372088832 := by omega
                have hBT := bbitLen _ A wr hWA.out (by omega)
                have hTA := btopBits _ A nn wr hWA.out (by omega) (by omega)
                have hTB := btopBits _ B nn wr hWB.out (by omega) (by omega)
                have hYX : B / 2 ^ nn ≤ A / 2 ^ nn := Nat.div_le_div_right hBA
                have hNp : 0 < 2 ^ nn := Nat.pow_pos (by decide)
                have e60 : (2 : Nat) ^ 60 = 1152921504606846976 := by decide
                have hFIN : Hid (∀ x y u0 u1 u2 v0 v1 v2 ev, Co (A / 2 ^ nn) (B / 2 ^ nn) x y u0 u1 u2 v0 v1 v2 ev → v0 ≠ 0 → Fin2 A B u0 u1 v0 v1 ev) := hid (fun x y u0 u1 u2 v0 v1 v2 ev C hv => Co.fin hNp (by omega) C hv)
                clear e60
                rw [Nat.mod_eq_of_lt (by omega)] at hTA hTB
                generalize A / 2 ^ nn = X at hX60 hTA hYX hFIN
                generalize B / 2 ^ nn = Y at hTB hYX hFIN
                have e5 : (bl A : Int) - 60 = (nn : Int) := by omega
                generalize bl A = bA at hBT e5
                have HDV := hid (fun w' (h : Below wr.heap.size wr w') => bdiv u0 u1 A B w' (hWA.out.below h) (hWB.out.below h) hlA (by omega) (by omega))
                have HBL1 := hid (fun (P Q : Int) w' (h : Below wr.heap.size wr w') => bblend u0 u1 A B P Q w' (hWA.out.below h) (hWB.out.below h) (by omega) hBA)
                obtain ⟨a, ca, rfl, hca, -⟩ := hWA.out.form
                obtain ⟨b, cb, rfl, hcb, -⟩ := hWB.out.form
                obtain ⟨la, hla⟩ : ∃ la, la = (words A).length := ⟨_, rfl⟩
                obtain ⟨lb, hlb⟩ : ∃ lb, lb = (words B).length := ⟨_, rfl⟩
                have HLA := hid hla
                have HLB := hid hlb
                simp only [← hla, ← hlb] at hWA hWB hBT hTA hTB HDV HBL1 hca hcb h2 hlA hlB ⊢
                clear hla hlb hblA hbl hbl2 hnn hB3 hA3 hNp
                have h2' : (2 : Int) < (lb : Int) := by omega
                go_upto_block 2 with (first | (go_at_call 130; refine hBT.mono ?_; rintro e w' ⟨rfl, hw⟩; obtain rfl := hw.symm) | (go_at_call 131; (with_reducible refine hTA.mono ?_); rintro e w' ⟨rfl, hw⟩; obtain rfl := hw.symm) | (go_at_call 131; (with_reducible refine hTB.mono ?_); rintro e w' ⟨rfl, hw⟩; obtain rfl := hw.symm))
                go_cut [8, 9, 11, 12, 14] from 81 to 117 (fun s8 s9 s11 s12 s14 wx => wx = wr ∧ ∃ (p0 p1 q0 q1 : Nat) (ev : Bool), s8 = .int .u64 p0 ∧ s9 = .int .u64 p1 ∧ s11 = .int .u64 q0 ∧ s12 = .int .u64 q1 ∧ s14 = .bool ev ∧ Hid (q0 ≠ 0 → Fin2 A B p0 p1 q0 q1 ev))
                case first =>
                  clear HDV HBL1 hBT hTA hTB
                  go_wp2_with fail
                  go_loop [6, 7, 8, 9, 10, 11, 12, 13, 14, 15] (fun s6 s7 s8 s9 s10 s11 s12 s13 s14 s15 => ∃ (x y p0 p1 p2 q0 q1 q2 : Nat) (ev : Bool), s6 = .int .u64 x ∧ s7 = .int .u64 y ∧ s8 = .int .u64 p0 ∧ s9 = .int .u64 p1 ∧ s10 = .int .u64 p2 ∧ s11 = .int .u64 q0 ∧ s12 = .int .u64 q1 ∧ s13 = .int .u64 q2 ∧ s14 = .bool ev ∧ Hid (Co X Y x y p0 p1 p2 q0 q1 q2 ev)) (fun s6 s7 s8 s9 s10 s11 s12 s13 s14 s15 => (intOf s7).toNat)
                  case atStart => exact ⟨X, Y, 0, 1, 0, 0, 0, 1, false, rfl, rfl, rfl, rfl, rfl, rfl, rfl, rfl, rfl, hid (Co.start hYX)⟩
                  case round =>
                    obtain ⟨x, y, p0, p1, p2, q0, q1, q2, ev, rfl, rfl, rfl, rfl, rfl, rfl, rfl, rfl, rfl, hC⟩ := hrel
                    rcases Nat.lt_or_ge y q2 with h1 | h1
                    · have c1 : decide ((y : Int) ≥ (q2 : Int)) = false := decide_eq_false (by omega)
                      have c2 : decide ((q2 : Int) ≤ (y : Int)) = false := decide_eq_false (by omega)
                      have i1 : (y : Int) < (q2 : Int) := by omega
                      clear h1
                      go_wp2_with fail
                      go_meet
                      exact ⟨rfl, p0, p1, q0, q1, ev, rfl, rfl, rfl, rfl, rfl, hid (hFIN.out _ _ _ _ _ _ _ _ _ hC.out)⟩
                    · obtain ⟨z1, z2, z3, z4, z5, z6, z7, z8, z9, z10⟩ := hC.out.bound (by rw [show (2 : Nat) ^ 60 = 1152921504606846976 by decide]; exact hX60) h1
                      have e60 : (2 : Nat) ^ 60 = 1152921504606846976 := by decide
                      rw [e60] at z3 z5 z6 z7 z8 z9 z10
                      clear e60
                      obtain ⟨d, hd⟩ : ∃ d, d = x - y := ⟨_, rfl⟩
                      obtain ⟨sm, hsm⟩ : ∃ sm, sm = q1 + q2 := ⟨_, rfl⟩
                      have c1 : decide ((y : Int) ≥ (q2 : Int)) = true := decide_eq_true (by omega)
                      have c2 : decide ((q2 : Int) ≤ (y : Int)) = true := decide_eq_true (by omega)
                      have i1 : (q2 : Int) ≤ (y : Int) := by omega
                      have k1 : IntKind.u64.wrap ((x : Int) - (y : Int)) = (d : Int) := by rw [IntKind.wrap_u64]; omega
                      have k2 : IntKind.u64.wrap ((q1 : Int) + (q2 : Int)) = (sm : Int) := by rw [IntKind.wrap_u64]; omega
                      rcases Nat.lt_or_ge d sm with h2 | h2
                      · have c3 : decide ((d : Int) ≥ (sm : Int)) = false := decide_eq_false (by omega)
                        have c4 : decide ((sm : Int) ≤ (d : Int)) = false := decide_eq_false (by omega)
                        have i2 : (d : Int) < (sm : Int) := by omega
                        clear h1 h2 z1 z2 z3 z4 z5 z6 z7 z8 z9 z10 hd hsm
                        go_wp2_with fail
                        go_meet
                        exact ⟨rfl, p0, p1, q0, q1, ev, rfl, rfl, rfl, rfl, rfl, hid (hFIN.out _ _ _ _ _ _ _ _ _ hC.out)⟩
                      · have c3 : decide ((d : Int) ≥ (sm : Int)) = true := decide_eq_true (by omega)
                        have c4 : decide ((sm : Int) ≤ (d : Int)) = true := decide_eq_true (by omega)
                        have i2 : (sm : Int) ≤ (d : Int) := by omega
                        have i3 : (0 : Int) < (y : Int) := by omega
                        have CN := hC.out.step z2 h1 (by omega)
                        have hzl : x - x / y * y < y := by
                          have := Nat.mod_lt x z2
                          have := Nat.div_add_mod' x y
                          omega
                        obtain ⟨qq, hqq⟩ : ∃ qq, qq = x / y := ⟨_, rfl⟩
                        have t1 : (x : Int).tdiv (y : Int) = (qq : Int) := by rw [Int.tdiv_eq_ediv_of_nonneg (by omega), hqq]; simp
                        have t2 : (x : Int) / (y : Int) = (qq : Int) := by rw [hqq]; simp
                        have t3 : IntKind.u64.wrap (qq : Int) = (qq : Int) := by rw [IntKind.wrap_u64]; omega
                        rw [← hqq] at CN hzl z4 z7 z8 z10
                        obtain ⟨qy, hqy⟩ : ∃ qy, qy = qq * y := ⟨_, rfl⟩
                        obtain ⟨z, hz⟩ : ∃ z, z = x - qy := ⟨_, rfl⟩
                        obtain ⟨r1, hr1⟩ : ∃ r1, r1 = qq * p2 := ⟨_, rfl⟩
                        obtain ⟨r2, hr2⟩ : ∃ r2, r2 = qq * q2 := ⟨_, rfl⟩
                        obtain ⟨p3, hp3⟩ : ∃ p3, p3 = p1 + r1 := ⟨_, rfl⟩
                        obtain ⟨q3, hq3⟩ : ∃ q3, q3 = q1 + r2 := ⟨_, rfl⟩
                        have m1 : (qq : Int) * (y : Int) = (qy : Int) := by rw [hqy]; simp
                        have m2 : (qq : Int) * (p2 : Int) = (r1 : Int) := by rw [hr1]; simp
                        have m3 : (qq : Int) * (q2 : Int) = (r2 : Int) := by rw [hr2]; simp
                        rw [← hqy] at CN hzl z4
                        rw [← hz] at CN hzl
                        rw [← hr1] at CN z7
                        rw [← hr2] at CN z8
                        rw [← hp3, ← hq3] at CN
                        have w1 : IntKind.u64.wrap ((qq : Int) * (y : Int)) = (qy : Int) := by rw [m1, IntKind.wrap_u64]; omega
                        have w2 : IntKind.u64.wrap ((x : Int) - (qy : Int)) = (z : Int) := by rw [IntKind.wrap_u64]; omega
                        have w3 : IntKind.u64.wrap ((qq : Int) * (p2 : Int)) = (r1 : Int) := by rw [m2, IntKind.wrap_u64]; omega
                        have w4 : IntKind.u64.wrap ((p1 : Int) + (r1 : Int)) = (p3 : Int) := by rw [IntKind.wrap_u64]; omega
                        have w5 : IntKind.u64.wrap ((qq : Int) * (q2 : Int)) = (r2 : Int) := by rw [m3, IntKind.wrap_u64]; omega
                        have w6 : IntKind.u64.wrap ((q1 : Int) + (r2 : Int)) = (q3 : Int) := by rw [IntKind.wrap_u64]; omega
                        have y1 : ((y : Int) == 0) = false := beq_eq_false_iff_ne.2 (by omega)
                        have CNH := hid CN
                        have HZ := hid hzl
                        clear CN hzl h1 h2 z1 z2 z3 z4 z5 z6 z7 z8 z9 z10 hd hsm hqq hqy hz hr1 hr2 hp3 hq3 hC m1 m2 m3
                        go_wp2_with fail
                        exact ⟨⟨y, z, p1, p2, p3, q1, q2, q3, !ev, by rfl, by rfl, by rfl, by rfl, by rfl, by rfl, by rfl, by rfl, by rfl, CNH⟩, by have := HZ.out; simp [intOf]; omega⟩
                case rest =>
                  obtain ⟨rfl, p0, p1, q0, q1, ev, rfl, rfl, rfl, rfl, rfl, hF⟩ := hcut
                  clear hBT hTA hTB hFIN hYX hX60
                  have hB0 : 0 < B := by
                    rcases Nat.eq_zero_or_pos B with h | h
                    · have := HLB.out; rw [h, words_0] at this; simp at this; omega
                    · exact h
                  by_cases hq0 : q0 = 0
                  · subst hq0
                    clear hF HBL1
                    go_wp2_with (go_at_call 132; refine (HDV.out _ (Below.refl _ _)).mono ?_; rintro e w' ⟨vq, vr, rfl, hwq, hwr, hfq, hfr, hbq⟩)
                    go_roundg (A % B)
                    case measure => exact Nat.mod_lt _ hB0
                    case rel => exact ⟨B, A % B, hid (hWB.out.below hbq), hid hwr, Nat.le_of_lt (Nat.mod_lt _ hB0), hid (by rw [gcd_step (by omega)]; exact hGG.out), by have := HLB.out; omega, rfl, hid (Below.trans hBL.out (below_low hbq hBL.out.size))⟩
                  · obtain ⟨f1, f2, f3, f4, f5, f6⟩ := hF.out hq0
                    have hq1 : ((q0 : Int) == 0) = false := beq_eq_false_iff_ne.2 (by omega)
                    have x1 : IntKind.i64.wrap (p0 : Int) = (p0 : Int) := by rw [IntKind.wrap_i64]; omega
                    have x2 : IntKind.i64.wrap (p1 : Int) = (p1 : Int) := by rw [IntKind.wrap_i64]; omega
                    have x3 : IntKind.i64.wrap (q0 : Int) = (q0 : Int) := by rw [IntKind.wrap_i64]; omega
                    have x4 : IntKind.i64.wrap (q1 : Int) = (q1 : Int) := by rw [IntKind.wrap_i64]; omega
                    have x5 : IntKind.i64.wrap (-(p0 : Int)) = -(p0 : Int) := by rw [IntKind.wrap_i64]; omega
                    have x6 : IntKind.i64.wrap (-(p1 : Int)) = -(p1 : Int) := by rw [IntKind.wrap_i64]; omega
                    have x7 : IntKind.i64.wrap (-(q0 : Int)) = -(q0 : Int) := by rw [IntKind.wrap_i64]; omega
                    have x8 : IntKind.i64.wrap (-(q1 : Int)) = -(q1 : Int) := by rw [IntKind.wrap_i64]; omega
                    clear HDV hq0
                    cases ev with
                    | true =>
                      obtain ⟨g1, g2, g3, g4, g5⟩ := f5 rfl
                      obtain ⟨h1, h2⟩ := int_le (a := p0) (b := A) (c := q0) (d := B) g1
                      obtain ⟨h3, h4⟩ := int_le2 (a := p1) (b := A) (c := q1) (d := B) g2
                      have B1 := hid (fun w' h => HBL1.out ((p0 : Int)) (-(q0 : Int)) w' h (by omega) (by omega) (by omega) (by omega) h1)
                      have B2 := hid (fun w' h => HBL1.out (-(p1 : Int)) ((q1 : Int)) w' h (by omega) (by omega) (by omega) (by omega) h3)
                      rw [h2] at B1
                      rw [h4] at B2
                      clear h1 h2 h3 h4
                      obtain ⟨A2, hA2⟩ : ∃ A2, A2 = p0 * A - q0 * B := ⟨_, rfl⟩
                      obtain ⟨B2v, hB2v⟩ : ∃ B2v, B2v = q1 * B - p1 * A := ⟨_, rfl⟩
                      rw [← hA2] at B1 g3 g4 g5
                      rw [← hB2v] at B2 g3 g5
                      have G5 : Hid (Nat.gcd A2 B2v = G) := hid (by rw [g5]; exact hGG.out)
                      clear hA2 hB2v g1 g2 g5 f1 f2 f3 f4 f5 f6 HBL1 hF
                      go_wp2_with (first | (go_at_call 133; (with_reducible refine (B1.out _ (Below.refl _ _)).mono ?_); rintro e w1 ⟨v1, rfl, hw1, hf1, hb1⟩) | (go_at_call 133; (with_reducible refine (B2.out _ hb1).mono ?_); rintro e w2 ⟨v2, rfl, hw2, hf2, hb2⟩))
                      go_roundg B2v
                      case measure => omega
                      case rel => exact ⟨A2, B2v, hid (hw1.below hb2), hid hw2, by omega, G5, by have := len_mono g4; have := HLB.out; omega, rfl, hid (Below.trans hBL.out (below_low (Below.trans hb1 (below_low hb2 hb1.size)) hBL.out.size))⟩
                    | false =>
                      obtain ⟨g1, g2, g3, g4, g5⟩ := f6 rfl
                      obtain ⟨h1, h2⟩ := int_le2 (a := p0) (b := A) (c := q0) (d := B) g1
                      obtain ⟨h3, h4⟩ := int_le (a := p1) (b := A) (c := q1) (d := B) g2
                      have B1 := hid (fun w' h => HBL1.out (-(p0 : Int)) ((q0 : Int)) w' h (by omega) (by omega) (by omega) (by omega) h1)
                      have B2 := hid (fun w' h => HBL1.out ((p1 : Int)) (-(q1 : Int)) w' h (by omega) (by omega) (by omega) (by omega) h3)
                      rw [h2] at B1
                      rw [h4] at B2
                      clear h1 h2 h3 h4
                      obtain ⟨A2, hA2⟩ : ∃ A2, A2 = q0 * B - p0 * A := ⟨_, rfl⟩
                      obtain ⟨B2v, hB2v⟩ : ∃ B2v, B2v = p1 * A - q1 * B := ⟨_, rfl⟩
                      rw [← hA2] at B1 g3 g4 g5
                      rw [← hB2v] at B2 g3 g5
                      have G5 : Hid (Nat.gcd A2 B2v = G) := hid (by rw [g5]; exact hGG.out)
                      clear hA2 hB2v g1 g2 g5 f1 f2 f3 f4 f5 f6 HBL1 hF
                      go_wp2_with (first | (go_at_call 133; (with_reducible refine (B1.out _ (Below.refl _ _)).mono ?_); rintro e w1 ⟨v1, rfl, hw1, hf1, hb1⟩) | (go_at_call 133; (with_reducible refine (B2.out _ hb1).mono ?_); rintro e w2 ⟨v2, rfl, hw2, hf2, hb2⟩))
                      go_roundg B2v
                      case measure => omega
                      case rel => exact ⟨A2, B2v, hid (hw1.below hb2), hid hw2, by omega, G5, by have := len_mono g4; have := HLB.out; omega, rfl, hid (Below.trans hBL.out (below_low (Below.trans hb1 (below_low hb2 hb1.size)) hBL.out.size))⟩
              · have hlb2 : (words B).length ≤ 2 := by omega
                have hB64 := two_words hlb2
                have hc2 : decide ((2 : Int) < ((words B).length : Int)) = false := decide_eq_false (by omega)
                have hc3 : decide (((words B).length : Int) > 2) = false := decide_eq_false (by omega)
                have HCP := hid (bcopied u0 (words A) wr hWA.out (by omega))
                have HDV := hid (fun h0 => bdiv u0 u1 A B wr hWA.out hWB.out hlA (by omega) h0)
                have HTB := hid (fun w' (h : Below wr.heap.size wr w') => btoUint u1 B w' (hWB.out.below h) (by omega))
                rw [Nat.mod_eq_of_lt hB64] at HTB
                obtain ⟨a, ca, rfl, hca, -⟩ := hWA.out.form
                obtain ⟨b, cb, rfl, hcb, -⟩ := hWB.out.form
                by_cases hB0 : B = 0
                · subst hB0
                  have hG2 : G = A := by rw [← hGG.out, Nat.gcd_zero_right]
                  have hz : (words 0).length = 0 := by rw [words_0]; rfl
                  rw [hz] at hc2 hc3 hcb ⊢
                  have HG2 := hid hG2
                  clear hG2 HDV HTB hWA hWB
                  go_wp2_with (go_at_call 92; refine HCP.out.mono ?_; rintro e w' ⟨g, rfl, hro, hg, hbl⟩)
                  go_ret
                  exact ⟨_, rfl, by rw [HG2.out]; exact hro.wd (Nat.le_refl _), Fresh.own (Nat.le_trans hBL.out.size hg), Below.trans hBL.out (below_low hbl hBL.out.size)⟩
                · have hlb0 : ((words B).length : Int) ≠ 0 := fun e => hB0 (words_len0.1 (by omega))
                  have hlb1 : (((words B).length : Int) == 0) = false := beq_eq_false_iff_ne.2 hlb0
                  have HDV2 := hid (HDV.out hB0)
                  have hAB : A % B < B := Nat.mod_lt _ (by omega)
                  have hAB2 : A % B < 18446744073709551616 := by omega
                  have HTR := hid (fun v w' (h : Wd w' v (words (A % B))) => btoUint v (A % B) w' h (by have := len_mono (Nat.le_of_lt hAB); omega))
                  rw [Nat.mod_eq_of_lt hAB2] at HTR
                  have HGC : Hid (Nat.gcd B (A % B) = G) := hid (by rw [gcd_step hB0]; exact hGG.out)
                  have HBL : Hid (Below w.heap.size w wr) := hBL
                  clear HDV HCP hWA hWB hGG hAB hlb0 hc3
                  generalize A % B = rr at *
                  go_wp2_with (first | (go_at_call 132; refine HDV2.out.mono ?_; rintro e w' ⟨vq, vr, rfl, hwq, hwr, hfq, hfr, hbq⟩) | (go_at_call 134; (with_reducible refine (HTB.out _ hbq).mono ?_); rintro e w'' ⟨rfl, hw⟩; obtain rfl := hw.symm) | (go_at_call 134; (with_reducible refine (HTR.out _ _ hwr).mono ?_); rintro e w'' ⟨rfl, hw⟩; obtain rfl := hw.symm))
                  have B3 : Hid (Below w.heap.size w w') := hid (Below.trans HBL.out (below_low hbq HBL.out.size))
                  clear hwq hwr hfq hfr hbq HTB HTR HDV2
                  go_loopw [20, 21] (fun s20 s21 wx => ∃ x y : Nat, s20 = .int .u64 x ∧ s21 = .int .u64 y ∧ x < 18446744073709551616 ∧ y < 18446744073709551616 ∧ Hid (Nat.gcd x y = G) ∧ Hid (Drawn w' wx)) (fun s20 s21 _ => (intOf s21).toNat)
                  case atStart => exact ⟨B, rr, rfl, rfl, hB64, hAB2, HGC, hid (Drawn.refl _)⟩
                  case round =>
                    obtain ⟨x, y, rfl, rfl, hx, hy, hg, hdr⟩ := hrel
                    obtain ⟨qd, rfl⟩ := hdr.out
                    clear HGC
                    by_cases hy0 : y = 0
                    · subst hy0
                      have hg2 : G = x := by rw [← hg.out, Nat.gcd_zero_right]
                      have HG2 := hid hg2
                      have HFU := hid (fun w' => bfromUint x hx w')
                      clear hg2
                      go_wp2_with (go_at_call 115; refine (HFU.out _).mono ?_; rintro e w2 ⟨v, rfl, hw, hf, hb⟩)
                      go_ret
                      have BD := Below.trans B3.out (below_low ((Keeps.refl _ [] _).drewN qd).below B3.out.size)
                      exact ⟨_, rfl, by rw [HG2.out]; exact hw, fun g hgg => Nat.le_trans BD.size (hf g hgg), Below.trans BD (below_low hb BD.size)⟩
                    · have y1 : ((y : Int) == 0) = false := beq_eq_false_iff_ne.2 (by omega)
                      have y2 : ((y : Int) != 0) = true := by simp [bne, y1]
                      have hgn : Hid (Nat.gcd y (x % y) = G) := hid (by rw [gcd_step hy0]; exact hg.out)
                      have hzl : x % y < y := Nat.mod_lt _ (by omega)
                      have t1 : (x : Int).tmod (y : Int) = ((x % y : Nat) : Int) := by rw [Int.tmod_eq_emod_of_nonneg (by omega)]; simp
                      have t2 : (x : Int) % (y : Int) = ((x % y : Nat) : Int) := by simp
                      clear hg
                      generalize x % y = z at *
                      have t3 : IntKind.u64.wrap (z : Int) = (z : Int) := by rw [IntKind.wrap_u64]; omega
                      have HZ := hid hzl
                      have hzB : z < 18446744073709551616 := by omega
                      clear hzl
                      go_wp2_with fail
                      go_quiet (fail)
                      go_wp2_with fail
                      go_roundw
                      case rel => exact ⟨y, z, by rfl, by rfl, hy, hzB, hgn, hid (by first | exact ⟨_, rfl⟩ | (repeat' (first | exact hdr.out | (refine Drawn.more ?_ _))))⟩
                      case measure => have := HZ.out; simp [intOf]; omega
end Big
end
section
open Go.RowKit
namespace Big
set_option maxRecDepth 100000 in
set_option maxHeartbeats 8000000 in
theorem baddAt0 (g p dl cap : Nat) (A D : List Nat) (vb : Value) (n : Nat) (w : World) (hR : Ro w g (A ++ D)) (hA : A.length = p) (hD : D.length = dl) (hok : Wok D) (hb : Wd w vb (words n)) (hne : ∀ k, vb.ownBlock = some k → k ≠ g) (hlt : val D + n < 4294967296 ^ dl) (hpd : p + dl ≤ 1099511627776) :
    Calls Tryz.prog 112 #[.slice (some ⟨g, 0, none⟩) (p + dl) cap, vb, .int .i64 p] w fun e w' => e = .returned (.tuple #[]) ∧ ∃ D', D'.length = dl ∧ Wok D' ∧ val D' = val D + n ∧ Ro w' g (A ++ D') ∧ Keeps w.heap.size [g] w w' := by
  have okn := words_ok n
  have vn := val_words n
  have hll : (words n).length ≤ dl := words_len_le (by omega)
  obtain ⟨b, cb, rfl, hcb, hcf⟩ := hb.form
  clear hb
  generalize words n = l at okn vn hll hcb hcf ⊢
  have HB := hid hcf
  have HNE := hid hne
  have OKl := hid okn
  have VN := hid vn
  have HR := hid hR
  have HA := hid hA
  have HD := hid hD
  have OKD := hid hok
  have HLT := hid hlt
  haveI : Has w g := ⟨hR.lt⟩
  clear hcf hne okn vn hR hA hD hok hlt
  go_enter Tryz.func112, Tryz.ntmps112
  go_wp2_with fail
  go_loopw [6, 7, 8] (fun s6 s7 s8 wr => ∃ (i c : Nat) (o : List Nat), s6 = .int .u64 c ∧ s7 = .int .i64 i ∧ i ≤ dl ∧ c ≤ 1 ∧ o.length = i ∧ Hid (Wok o) ∧ Hid (Ro wr g (A ++ (o ++ D.drop i))) ∧ Hid (val o + 4294967296 ^ i * c = val (D.take i) + val (l.take i)) ∧ Hid (Keeps w.heap.size [g] w wr)) (fun s6 s7 s8 _ => dl - (intOf s7).toNat)
  case atStart => exact ⟨0, 0, [], rfl, rfl, Nat.zero_le _, by omega, rfl, hid Wok.nil, HR, hid rfl, hid (Keeps.refl _ _ _)⟩
  case round =>
    obtain ⟨i, c, o, rfl, rfl, hi, hc, hol, hok, hR, hS, hK⟩ := hrel
    haveI : Has wr g := ⟨hR.out.lt⟩
    have hi0 : (0 : Int) ≤ (i : Int) := by omega
    have hdl := HD.out
    by_cases hil : i < l.length
    · have hil' : (i : Int) < (l.length : Int) := by omega
      obtain ⟨gb, ob, rfl, hgb, hyb⟩ := HB.out (by omega)
      have hgne : gb ≠ g := HNE.out gb rfl
      obtain ⟨y, hy⟩ : ∃ y, l[i]? = some y := ⟨_, List.getElem?_eq_getElem hil⟩
      have hyB := OKl.out.get hy
      have cy := cell_keeps (B := 0) (hyb i y hy) hgb hK.out (by simpa using hgne)
      haveI : Has wr gb := ⟨Nat.lt_of_lt_of_le hgb hK.out.size⟩
      obtain ⟨x, hx⟩ : ∃ x, D[i]? = some x := ⟨_, List.getElem?_eq_getElem (by omega)⟩
      have hxB := OKD.out.get hx
      have hR2 := hR.out
      rw [drop_at hx] at hR2
      have co := hR2.cell (get_mid A o (D.drop (i + 1)) x)
      have fo := hR2.free (A.length + o.length)
      obtain ⟨t, ht⟩ : ∃ t, t = x + y + c := ⟨_, rfl⟩
      have ST := add_back hol hS.out t ht
      rw [← val_take hx, ← val_take hy] at ST
      have hR3 := hR2.set (A.length + o.length) (t % 4294967296)
      rw [set_mid] at hR3
      obtain ⟨q, hq⟩ : ∃ q, q = p + i := ⟨_, rfl⟩
      rw [HA.out, hol, ← hq] at co fo hR3
      have q1 : (p : Int) + (i : Int) = (q : Int) := by omega
      have q2 : (0 : Int) ≤ (q : Int) := by omega
      have q3 : (q : Int) < (p : Int) + (dl : Int) := by omega
      have htB : t / 4294967296 ≤ 1 := by omega
      have e1 : IntKind.u64.wrap (x : Int) = (x : Int) := by rw [IntKind.wrap_u64]; omega
      have e2 : IntKind.u64.wrap (y : Int) = (y : Int) := by rw [IntKind.wrap_u64]; omega
      obtain ⟨xc, hxc⟩ : ∃ xc, xc = x + c := ⟨_, rfl⟩
      have e3 : IntKind.u64.wrap ((x : Int) + (c : Int)) = (xc : Int) := by rw [IntKind.wrap_u64]; omega
      have e3b : (x : Int) + (c : Int) = (xc : Int) := by omega
      have e4 : IntKind.u64.wrap ((xc : Int) + (y : Int)) = (t : Int) := by rw [IntKind.wrap_u64]; omega
      have e4b : (xc : Int) + (y : Int) = (t : Int) := by omega
      have e5 : IntKind.u32.wrap (t : Int) = ((t % 4294967296 : Nat) : Int) := by rw [IntKind.wrap_u32]; omega
      have e6 : (t : Int) / 4294967296 = ((t / 4294967296 : Nat) : Int) := by omega
      have RN : Hid (Ro (wr.setCell ⟨g, q, none⟩ (.int .u32 ((t % 4294967296 : Nat) : Int))) g (A ++ ((o ++ [t % 4294967296]) ++ D.drop (i + 1)))) := hid hR3
      have ON : Hid (Wok (o ++ [t % 4294967296])) := hid (hok.out.append (Wok.cons (Nat.mod_lt _ (by decide)) Wok.nil))
      have KN : Hid (Keeps w.heap.size [g] w (wr.setCell ⟨g, q, none⟩ (.int .u32 ((t % 4294967296 : Nat) : Int)))) := hid (hK.out.set (Or.inl (by simp)) _ _)
      have SN := hid ST
      have hon : (o ++ [t % 4294967296]).length = i + 1 := by simp [hol]
      have hi2 : i + 1 ≤ dl := by omega
      clear hx hy hyb hxc hR2 hR3 ST hq ht hR hS
      generalize t % 4294967296 = tl at e5 RN ON KN SN hon ⊢
      generalize t / 4294967296 = th at e6 htB SN ⊢
      go_wp2_with fail
      go_roundw
      case rel => exact ⟨i + 1, th, o ++ [tl], by rfl, by rfl, hi2, htB, hon, ON, RN, SN, KN⟩
      case measure => simp [intOf]; omega
    · rcases Nat.eq_zero_or_pos c with hc0 | hc0
      · subst hc0
        have hS2 := hS.out
        rw [List.take_of_length_le (show l.length ≤ i by omega), VN.out, Nat.mul_zero, Nat.add_zero] at hS2
        have hil' : (l.length : Int) ≤ (i : Int) := by omega
        have hil2 : decide ((i : Int) < (l.length : Int)) = false := decide_eq_false (by omega)
        have F : Hid (∃ D', D'.length = dl ∧ Wok D' ∧ val D' = val D + n ∧ Ro wr g (A ++ D')) := hid (by
          refine ⟨o ++ D.drop i, by simp [hol]; omega, hok.out.append (OKD.out.drop i), ?_, hR.out⟩
          have a1 := val_append (D.take i) (D.drop i)
          rw [List.take_append_drop, List.length_take, Nat.min_eq_left (by omega)] at a1
          rw [val_append, hol, hS2, a1]
          omega)
        clear hS2 hR hS
        go_wp2_with fail
        go_end0
        obtain ⟨D', d1, d2, d3, d4⟩ := F.out
        exact ⟨rfl, D', d1, d2, d3, d4, hK.out⟩
      · obtain rfl : c = 1 := by omega
        have hil' : (l.length : Int) ≤ (i : Int) := by omega
        have hil2 : decide ((i : Int) < (l.length : Int)) = false := decide_eq_false (by omega)
        have hidl : i < dl := by
          rcases Nat.lt_or_ge i dl with h | h
          · exact h
          · exfalso
            have hS2 := hS.out
            have : i = dl := by omega
            subst this
            rw [List.take_of_length_le (show l.length ≤ i by omega), List.take_of_length_le (show D.length ≤ i by omega), VN.out] at hS2
            have := HLT.out
            omega
        obtain ⟨x, hx⟩ : ∃ x, D[i]? = some x := ⟨_, List.getElem?_eq_getElem (by omega)⟩
        have hxB := OKD.out.get hx
        have hR2 := hR.out
        rw [drop_at hx] at hR2
        have co := hR2.cell (get_mid A o (D.drop (i + 1)) x)
        have fo := hR2.free (A.length + o.length)
        obtain ⟨t, ht⟩ : ∃ t, t = x + 0 + 1 := ⟨_, rfl⟩
        have ST := add_back (v := 0) hol hS.out t ht
        rw [← val_take hx, show val (l.take i) + 4294967296 ^ i * 0 = val (l.take (i + 1)) by rw [take_all (by omega)]; simp] at ST
        have hR3 := hR2.set (A.length + o.length) (t % 4294967296)
        rw [set_mid] at hR3
        obtain ⟨q, hq⟩ : ∃ q, q = p + i := ⟨_, rfl⟩
        rw [HA.out, hol, ← hq] at co fo hR3
        have q1 : (p : Int) + (i : Int) = (q : Int) := by omega
        have q2 : (0 : Int) ≤ (q : Int) := by omega
        have q3 : (q : Int) < (p : Int) + (dl : Int) := by omega
        have htB : t / 4294967296 ≤ 1 := by omega
        have e1 : IntKind.u64.wrap (x : Int) = (x : Int) := by rw [IntKind.wrap_u64]; omega
        have e3 : IntKind.u64.wrap ((x : Int) + 1) = (t : Int) := by rw [IntKind.wrap_u64]; omega
        have e3b : (x : Int) + 1 = (t : Int) := by omega
        have e5 : IntKind.u32.wrap (t : Int) = ((t % 4294967296 : Nat) : Int) := by rw [IntKind.wrap_u32]; omega
        have e6 : (t : Int) / 4294967296 = ((t / 4294967296 : Nat) : Int) := by omega
        have RN : Hid (Ro (wr.setCell ⟨g, q, none⟩ (.int .u32 ((t % 4294967296 : Nat) : Int))) g (A ++ ((o ++ [t % 4294967296]) ++ D.drop (i + 1)))) := hid hR3
        have ON : Hid (Wok (o ++ [t % 4294967296])) := hid (hok.out.append (Wok.cons (Nat.mod_lt _ (by decide)) Wok.nil))
        have KN : Hid (Keeps w.heap.size [g] w (wr.setCell ⟨g, q, none⟩ (.int .u32 ((t % 4294967296 : Nat) : Int)))) := hid (hK.out.set (Or.inl (by simp)) _ _)
        have SN := hid ST
        have hon : (o ++ [t % 4294967296]).length = i + 1 := by simp [hol]
        have hi2 : i + 1 ≤ dl := by omega
        clear hx hR2 hR3 ST hq ht hR hS
        generalize t % 4294967296 = tl at e5 RN ON KN SN hon ⊢
        generalize t / 4294967296 = th at e6 htB SN ⊢
        go_wp2_with fail
        go_roundw
        case rel => exact ⟨i + 1, th, o ++ [tl], by rfl, by rfl, hi2, htB, hon, ON, RN, SN, KN⟩
        case measure => simp [intOf]; omega

theorem baddAt (g p cap : Nat) (L : List Nat) (vb : Value) (n : Nat) (w : World) (hR : Ro w g L) (hok : Wok L) (hb : Wd w vb (words n)) (hne : ∀ k, vb.ownBlock = some k → k ≠ g) (hp : p ≤ L.length) (hlt : val L + 4294967296 ^ p * n < 4294967296 ^ L.length) (hL : L.length ≤ 1099511627776) (N : Nat) (hN : N = L.length) :
    Calls Tryz.prog 112 #[.slice (some ⟨g, 0, none⟩) N cap, vb, .int .i64 p] w fun e w' => e = .returned (.tuple #[]) ∧ ∃ L', L'.length = L.length ∧ Wok L' ∧ val L' = val L + 4294967296 ^ p * n ∧ Ro w' g L' ∧ Keeps w.heap.size [g] w w' := by
  have hd : (L.drop p).length = L.length - p := List.length_drop
  have ht : (L.take p).length = p := by rw [List.length_take]; omega
  have a1 := val_append (L.take p) (L.drop p)
  rw [List.take_append_drop, ht] at a1
  have h := baddAt0 g p (L.length - p) cap (L.take p) (L.drop p) vb n w (by rw [List.take_append_drop]; exact hR) ht hd (hok.drop p) hb hne (by
    have e : 4294967296 ^ L.length = 4294967296 ^ p * 4294967296 ^ (L.length - p) := by rw [← Nat.pow_add]; congr 1; omega
    rw [e] at hlt
    refine Nat.lt_of_mul_lt_mul_left (a := 4294967296 ^ p) ?_
    rw [Nat.mul_add]
    omega) (by omega)
  rw [show p + (L.length - p) = N by omega] at h
  refine h.mono ?_
  rintro e w' ⟨rfl, D', d1, d2, d3, d4, d5⟩
  refine ⟨rfl, L.take p ++ D', by rw [List.length_append, ht, d1]; omega, (hok.take p).append d2, ?_, d4, d5⟩
  rw [val_append, ht, d3, Nat.mul_add]
  omega

end Big
end
end Go.Proofs.YtcoillcppmibgaaGreatDoor
