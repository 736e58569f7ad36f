/- A part: FT, FU. -/
import Derived.Test.YthjeejnggpjnjaaGreatDoorZQ05
set_option linter.unusedSimpArgs false
set_option linter.unusedVariables false
set_option maxRecDepth 100000
set_option maxHeartbeats 16000000
set_option synthInstance.maxHeartbeats 2000000
set_option synthInstance.maxSize 100000
namespace Go.Proofs.YthjeejnggpjnjaaGreatDoor
open Go.RowKit
set_option maxRecDepth 100000
def facZ (z : Int × Int) : List (Int × Int) := [(-z.1, -z.2), (1, 0)]
def polyN (Z : List (Int × Int)) : Nat → List (Int × Int)
 | 0 => [(1, 0)]
 | i + 1 => convI (polyN Z i) (facZ (Z.getD i (0, 0)))
theorem polyN_len (Z : List (Int × Int)) (i : Nat) : (polyN Z i).length = i + 1 := by
 induction i with
 | zero => rfl
 | succ i ih => rw [polyN, convI_len, ih]; show i + 1 + 2 - 1 = _; omega
theorem gz3 (y : Int × Int) : gadd y (0, 0) = y := by unfold gadd; simp
theorem gz4 (y : Int × Int) : gadd (0, 0) y = y := by unfold gadd; simp
theorem conv_two (A : List (Int × Int)) (p q : Int × Int) (i : Nat) (hi : i ≤ A.length) : ∀ j, (allC A [p, q] (A.length + 1) i).getD j (0, 0) = gadd (if j < i then gmul (A.getD j (0, 0)) p else (0, 0)) (if 1 ≤ j ∧ j ≤ i then gmul (A.getD (j - 1) (0, 0)) q else (0, 0)) := by
 induction i with
 | zero =>
   intro j; rw [allC, if_neg (by omega), if_neg (by omega), List.getD_eq_getElem?_getD, List.getElem?_replicate]
   split <;> rfl
 | succ i ih =>
   intro j; have ih := ih (by omega)
   rw [allC]; show (rowC A [p, q] (allC A [p, q] (A.length + 1) i) i 2).getD j (0, 0) = _
   rw [rowC, rowC, rowC]; unfold stepC; rw [getD_set, List.length_set, allC_len, getD_set, allC_len, getD_set, allC_len]; rw [ih, ih, ih]; show (if i + 1 = j ∧ i + 1 < A.length + 1 then gadd _ (gmul (A.getD i (0, 0)) q) else if i + 0 = j ∧ i + 0 < A.length + 1 then gadd _ (gmul (A.getD i (0, 0)) p) else _) = _
   rcases Nat.lt_trichotomy j i with h | h | h
   · rw [if_neg (show ¬ (i + 1 = j ∧ i + 1 < A.length + 1) by omega), if_neg (show ¬ (i + 0 = j ∧ i + 0 < A.length + 1) by omega), if_pos h, if_pos (show j < i + 1 by omega)]
     congr 1
     by_cases k : 1 ≤ j
     · rw [if_pos ⟨k, by omega⟩, if_pos ⟨k, by omega⟩]
     · rw [if_neg (fun h => k h.1), if_neg (fun h => k h.1)]
   · subst h; rw [if_neg (show ¬ (j + 1 = j ∧ j + 1 < A.length + 1) by omega), if_pos (show j + 0 = j ∧ j + 0 < A.length + 1 by omega), Nat.add_zero, if_neg (Nat.lt_irrefl j), gz4, if_pos (show j < j + 1 by omega)]
     by_cases k : 1 ≤ j
     · rw [if_pos ⟨k, Nat.le_refl j⟩, if_pos ⟨k, by omega⟩]
       unfold gadd; ext <;> (simp only; omega)
     · rw [if_neg (fun h => k h.1), if_neg (fun h => k h.1), gz3, gz4]
   · by_cases e : j = i + 1
     · subst e; rw [if_pos (show i + 1 = i + 1 ∧ i + 1 < A.length + 1 by omega), if_neg (show ¬ (i + 0 = i + 1 ∧ i + 0 < A.length + 1) by omega), if_neg (show ¬ i + 1 < i by omega), if_neg (show ¬ (1 ≤ i + 1 ∧ i + 1 ≤ i) by omega), if_neg (Nat.lt_irrefl (i + 1)), if_pos (show 1 ≤ i + 1 ∧ i + 1 ≤ i + 1 by omega), gz3, Nat.add_sub_cancel]
     · rw [if_neg (show ¬ (i + 1 = j ∧ i + 1 < A.length + 1) by omega), if_neg (show ¬ (i + 0 = j ∧ i + 0 < A.length + 1) by omega), if_neg (show ¬ j < i by omega), if_neg (show ¬ (1 ≤ j ∧ j ≤ i) by omega), if_neg (show ¬ j < i + 1 by omega), if_neg (show ¬ (1 ≤ j ∧ j ≤ i + 1) by omega)]
def nI (x : Int × Int) : Int := x.1 * x.1 + x.2 * x.2
theorem sqI (x : Int) : 0 ≤ x * x := by
 rcases Int.le_total 0 x with h | h
 · exact Int.mul_nonneg h h
 · exact Int.mul_nonneg_of_nonpos_of_nonpos h h
theorem nI_nonneg (x : Int × Int) : 0 ≤ nI x := Int.add_nonneg (sqI _) (sqI _)
theorem nI_mul (x y : Int × Int) : nI (gmul x y) = nI x * nI y := by unfold nI gmul; grind
theorem nI_add (x y : Int × Int) : 28 * nI (gadd x y) ≤ 29 * nI x + 812 * nI y := by
 have a := sqI (x.1 - 28 * y.1); have b := sqI (x.2 - 28 * y.2); unfold nI gadd
 grind
theorem nI_20 {x : Int × Int} (h1 : x.1.natAbs ≤ 20) (h2 : x.2.natAbs ≤ 20) : nI x ≤ 800 := by
 have q : ∀ a : Int, a.natAbs ≤ 20 → a * a ≤ 400 := by
  intro a h; have : (a * a).natAbs ≤ 20 * 20 := by rw [Int.natAbs_mul]; exact Nat.mul_le_mul h h
  omega
 have := q _ h1; have := q _ h2; unfold nI; omega
theorem poly_bound {Z : List (Int × Int)} (hZ : BsC 20 Z) (i : Nat) : ∀ j, (28 : Int) ^ i * nI ((polyN Z i).getD j (0, 0)) ≤ 24012 ^ i := by
 induction i with
 | zero =>
   intro j; rw [polyN]; rcases j with _ | j
   · decide
   · show (28 : Int) ^ 0 * nI (([] : List (Int × Int)).getD j (0, 0)) ≤ 24012 ^ 0
     rw [List.getD_nil]
     decide
 | succ i ih =>
   intro j; rw [polyN]; unfold convI; have hl : (polyN Z i).length + (facZ (Z.getD i (0, 0))).length - 1 = (polyN Z i).length + 1 := by show _ + 2 - 1 = _; omega
   rw [hl]; show (28 : Int) ^ (i + 1) * nI ((allC (polyN Z i) [(-(Z.getD i (0, 0)).1, -(Z.getD i (0, 0)).2), (1, 0)] _ _).getD j (0, 0)) ≤ _
   rw [conv_two _ _ _ _ (Nat.le_refl _)]; generalize hx : (if j < (polyN Z i).length then gmul ((polyN Z i).getD j (0, 0)) (-(Z.getD i (0, 0)).1, -(Z.getD i (0, 0)).2) else (0, 0)) = x
   generalize hy : (if 1 ≤ j ∧ j ≤ (polyN Z i).length then gmul ((polyN Z i).getD (j - 1) (0, 0)) (1, 0) else (0, 0)) = y
   have p28 : (0 : Int) < 28 ^ i := Int.pow_pos (by decide)
   have z20 : nI (-(Z.getD i (0, 0)).1, -(Z.getD i (0, 0)).2) ≤ 800 := nI_20 (by rw [Int.natAbs_neg]; exact (hZ i).1) (by rw [Int.natAbs_neg]; exact (hZ i).2)
   have z0 := nI_nonneg (-(Z.getD i (0, 0)).1, -(Z.getD i (0, 0)).2)
   have bx : (28 : Int) ^ i * nI x ≤ 800 * 24012 ^ i := by
    rw [← hx]
    split
    · rw [nI_mul]; have a := ih j; have b := Int.mul_le_mul_of_nonneg_right a z0; have c := Int.mul_le_mul_of_nonneg_left z20 (show (0 : Int) ≤ 24012 ^ i from Int.le_of_lt (Int.pow_pos (by decide)))
      rw [← Int.mul_assoc]; refine Int.le_trans b ?_
      rw [Int.mul_comm 800]; exact c
    · rw [show nI (0, 0) = 0 by decide, Int.mul_zero]
      exact Int.mul_nonneg (by decide) (Int.le_of_lt (Int.pow_pos (by decide)))
   have by' : (28 : Int) ^ i * nI y ≤ 24012 ^ i := by
    rw [← hy]
    split
    · rw [nI_mul, show nI (1, 0) = 1 by decide, Int.mul_one]
      exact ih _
    · rw [show nI (0, 0) = 0 by decide, Int.mul_zero]
      exact Int.le_of_lt (Int.pow_pos (by decide))
   have k := nI_add x y; have m := Int.mul_le_mul_of_nonneg_left k (Int.le_of_lt p28); rw [Int.pow_succ, Int.pow_succ]; generalize (28 : Int) ^ i = P at *; generalize (24012 : Int) ^ i = R at *; have e1 : P * 28 * nI (gadd x y) = P * (28 * nI (gadd x y)) := Int.mul_assoc _ _ _; have e2 : P * (29 * nI x + 812 * nI y) = 29 * (P * nI x) + 812 * (P * nI y) := by grind
   rw [e1]; omega
theorem sq_small {P R : Int} {x y : Int} (hP : 0 < P) (h : P * (x * x + y * y) ≤ R) (hR : R < P * (1099511627776 * 1099511627776)) : x.natAbs ≤ 1099511627776 := by
 rcases Nat.lt_or_ge 1099511627776 x.natAbs with k | k
 · exfalso
   have a : 1099511627776 * 1099511627776 ≤ x.natAbs * x.natAbs := Nat.mul_le_mul (Nat.le_of_lt k) (Nat.le_of_lt k); have b : ((x.natAbs * x.natAbs : Nat) : Int) = x * x := by rw [Int.natCast_mul, Int.natAbs_mul_self']
   have c : (1099511627776 * 1099511627776 : Int) ≤ x * x + y * y := by have := sqI y; omega
   have d := Int.mul_le_mul_of_nonneg_left c (Int.le_of_lt hP); omega
 · exact k
theorem poly_bs {Z : List (Int × Int)} (hZ : BsC 20 Z) {i : Nat} (hi : i ≤ 8) : BsC 1099511627776 (polyN Z i) := by
 intro j; have h := poly_bound hZ i j
 have num : (24012 : Int) ^ i < 28 ^ i * (1099511627776 * 1099511627776) := by
  have : ∀ i, i < 9 → (24012 : Int) ^ i < 28 ^ i * (1099511627776 * 1099511627776) := by decide +kernel
  exact this i (by omega)
 have p28 : (0 : Int) < 28 ^ i := Int.pow_pos (by decide)
 unfold nI at h; refine ⟨sq_small p28 h num, sq_small (y := ((polyN Z i).getD j (0, 0)).1) p28 ?_ num⟩
 rw [Int.add_comm]; exact h
theorem poly_pr {Z : List (Int × Int)} (hZ : BsC 20 Z) {i : Nat} (hi : i ≤ 8) : PrC (1099511627776 * 20) (polyN Z i) (facZ (Z.getD i (0, 0))) := by
 refine pr_of (poly_bs hZ hi) (fun j => ?_)
 have z := hZ i; rcases j with _ | _ | j
 · show (-(Z.getD i (0, 0)).1).natAbs ≤ 20 ∧ (-(Z.getD i (0, 0)).2).natAbs ≤ 20
   rw [Int.natAbs_neg, Int.natAbs_neg]; exact z
 · show (1 : Int).natAbs ≤ 20 ∧ (0 : Int).natAbs ≤ 20
   decide
 · show ((([] : List (Int × Int)).getD j (0, 0)).1).natAbs ≤ 20 ∧ ((([] : List (Int × Int)).getD j (0, 0)).2).natAbs ≤ 20
   rw [List.getD_nil]
   decide
def inZ (lo hi z : Int × Int) : Bool := decide (lo.1 < z.1) && decide (z.1 < hi.1) && decide (lo.2 < z.2) && decide (z.2 < hi.2)
def onZ (lo hi z : Int × Int) : Bool := !inZ lo hi z && (decide (lo.1 ≤ z.1) && decide (z.1 ≤ hi.1) && decide (lo.2 ≤ z.2) && decide (z.2 ≤ hi.2))
theorem hor_fac (z : Int × Int) (w : Cx) : hor ((facZ z).map qx) w = mns w (qx z) := by
 unfold facZ; rw [List.map_cons, List.map_cons, List.map_nil, hor_cons, hor_cons]; show pls (((-z.1 : Int) : Qt), ((-z.2 : Int) : Qt)) (tim w (pls (((1 : Int) : Qt), ((0 : Int) : Qt)) (tim w (0, 0)))) = mns w ((z.1 : Qt), (z.2 : Qt))
 rw [Rat.intCast_neg, Rat.intCast_neg, show ((1 : Int) : Qt) = 1 from rfl, show ((0 : Int) : Qt) = 0 from rfl]
 unfold pls tim mns
 ext <;> grind
theorem hor_poly (Z : List (Int × Int)) (i : Nat) (w : Cx) : hor ((polyN Z (i + 1)).map qx) w = tim (hor ((polyN Z i).map qx) w) (mns w (qx (Z.getD i (0, 0)))) := by
 have hl : 1 ≤ (facZ (Z.getD i (0, 0))).length := by show 1 ≤ 2; omega
 rw [polyN, hor_conv w (by rw [polyN_len]; omega) hl, hor_fac]
theorem line_on {lo hi z : Int × Int} (h1 : lo.1 < hi.1) (h2 : lo.2 < hi.2) (h : onZ lo hi z = true) : ¬ Bord (fun w => mns w (qx z)) (qx lo) (qx hi) := by
 intro hb; have f1 : (qx lo).1 < (qx hi).1 := Rat.intCast_lt_intCast.2 h1; have f2 : (qx lo).2 < (qx hi).2 := Rat.intCast_lt_intCast.2 h2; obtain ⟨m, hm, hk⟩ := bord_at hb f1 f2; unfold onZ inZ at h; simp only [Bool.and_eq_true, Bool.not_eq_true', decide_eq_true_eq, Bool.and_eq_false_iff, decide_eq_false_iff_not] at h; obtain ⟨h3, ⟨⟨h4, h5⟩, h6⟩, h7⟩ := h
 have := hk (qx z) ⟨⟨Rat.intCast_le_intCast.2 h4, Rat.intCast_le_intCast.2 h5⟩, ⟨Rat.intCast_le_intCast.2 h6, Rat.intCast_le_intCast.2 h7⟩⟩ (by
  have e : ∀ {a b : Int}, a = b → (a : Qt) = (b : Qt) := fun h => by rw [h]
  rcases h3 with ((h3 | h3) | h3) | h3
  · exact .inl (e (by omega))
  · exact .inr (.inl (e (by omega)))
  · exact .inr (.inr (.inl (e (by omega))))
  · exact .inr (.inr (.inr (e (by omega)))))
 have z0 : nrm (mns (qx z) (qx z)) = 0 := by unfold nrm mns; grind
 have t : m ≤ nrm (mns (qx z) (qx z)) := this; rw [z0] at t
 grind
theorem line_off {lo hi z : Int × Int} (h1 : lo.1 < hi.1) (h2 : lo.2 < hi.2) (h : onZ lo hi z = false) : Bord (fun w => mns w (qx z)) (qx lo) (qx hi) ∧ ∀ n, 1 ≤ n → Wn (fun w => mns w (qx z)) (qx lo) (qx hi) n = if inZ lo hi z = true then 4 else 0 := by
 have f1 : (qx lo).1 < (qx hi).1 := Rat.intCast_lt_intCast.2 h1; have f2 : (qx lo).2 < (qx hi).2 := Rat.intCast_lt_intCast.2 h2
 have gap : ∀ {a b : Int}, a < b → (a : Qt) + 1 ≤ (b : Qt) := fun {a b} h => by
  have : ((a + 1 : Int) : Qt) ≤ (b : Qt) := Rat.intCast_le_intCast.2 (by omega)
  rw [Rat.intCast_add] at this; exact this
 cases hin : inZ lo hi z with
 | true =>
   unfold inZ at hin; simp only [Bool.and_eq_true, decide_eq_true_eq] at hin; obtain ⟨⟨⟨a, b⟩, c⟩, d⟩ := hin; have a' := gap a; have b' := gap b; have c' := gap c; have d' := gap d; refine ⟨bord_of (Rat.le_of_lt f1) (Rat.le_of_lt f2) (m := 1 * 1) (by grind) (fun w hw hb => away_sq (a := (mns w (qx z)).1) (b := (mns w (qx z)).2) (by grind) ?_), fun n hn => ?_⟩
   · unfold Away mns; have e1 : (qx lo).1 = (lo.1 : Qt) := rfl; have e2 : (qx hi).1 = (hi.1 : Qt) := rfl; have e3 : (qx lo).2 = (lo.2 : Qt) := rfl; have e4 : (qx hi).2 = (hi.2 : Qt) := rfl; have e5 : (qx z).1 = (z.1 : Qt) := rfl; have e6 : (qx z).2 = (z.2 : Qt) := rfl; rw [e1, e2, e3, e4] at hb; show 1 ≤ w.1 - (qx z).1 ∨ w.1 - (qx z).1 ≤ -1 ∨ 1 ≤ w.2 - (qx z).2 ∨ w.2 - (qx z).2 ≤ -1
     rw [e5, e6]
     grind
   · rw [if_pos rfl]; exact Wn_in hn (Rat.intCast_lt_intCast.2 a) (Rat.intCast_lt_intCast.2 b) (Rat.intCast_lt_intCast.2 c) (Rat.intCast_lt_intCast.2 d)
 | false =>
   have out : z.1 < lo.1 ∨ hi.1 < z.1 ∨ z.2 < lo.2 ∨ hi.2 < z.2 := by
    unfold onZ at h; rw [hin] at h; simp only [Bool.not_false, Bool.true_and, Bool.and_eq_false_iff, decide_eq_false_iff_not] at h; omega
   refine ⟨bord_of (Rat.le_of_lt f1) (Rat.le_of_lt f2) (m := 1 * 1) (by grind) (fun w hw hb => away_sq (a := (mns w (qx z)).1) (b := (mns w (qx z)).2) (by grind) ?_), fun n hn => ?_⟩
   · obtain ⟨⟨w1, w2⟩, ⟨w3, w4⟩⟩ := hw; have e1 : (qx lo).1 = (lo.1 : Qt) := rfl; have e2 : (qx hi).1 = (hi.1 : Qt) := rfl; have e3 : (qx lo).2 = (lo.2 : Qt) := rfl; have e4 : (qx hi).2 = (hi.2 : Qt) := rfl; rw [e1] at w1; rw [e2] at w2; rw [e3] at w3; rw [e4] at w4; show 1 ≤ w.1 - (z.1 : Qt) ∨ w.1 - (z.1 : Qt) ≤ -1 ∨ 1 ≤ w.2 - (z.2 : Qt) ∨ w.2 - (z.2 : Qt) ≤ -1
     rcases out with k | k | k | k
     · have := gap k; left; grind
     · have := gap k; right; left; grind
     · have := gap k; right; right; left; grind
     · have := gap k; right; right; right; grind
   · rw [if_neg (by decide)]
     refine Wn_out hn f1 f2 ?_
     rcases out with k | k | k | k
     · exact .inl (Rat.intCast_lt_intCast.2 k)
     · exact .inr (.inl (Rat.intCast_lt_intCast.2 k))
     · exact .inr (.inr (.inl (Rat.intCast_lt_intCast.2 k)))
     · exact .inr (.inr (.inr (Rat.intCast_lt_intCast.2 k)))
def cntZ (lo hi : Int × Int) (Z : List (Int × Int)) : Nat → Nat
 | 0 => 0
 | i + 1 => cntZ lo hi Z i + (if inZ lo hi (Z.getD i (0, 0)) = true then 1 else 0)
def anyZ (lo hi : Int × Int) (Z : List (Int × Int)) : Nat → Bool
 | 0 => false
 | i + 1 => anyZ lo hi Z i || onZ lo hi (Z.getD i (0, 0))
theorem poly_turn (Z : List (Int × Int)) {lo hi : Int × Int} (h1 : lo.1 < hi.1) (h2 : lo.2 < hi.2) (i : Nat) :
 (anyZ lo hi Z i = true → ¬ Bord (hor ((polyN Z i).map qx)) (qx lo) (qx hi)) ∧
 (anyZ lo hi Z i = false → Bord (hor ((polyN Z i).map qx)) (qx lo) (qx hi) ∧ ∃ N, ∀ n, N ≤ n → Wn (hor ((polyN Z i).map qx)) (qx lo) (qx hi) n = 4 * (cntZ lo hi Z i : Int)) := by
 induction i with
 | zero =>
   refine ⟨fun h => absurd (show false = true from h) (by decide), fun _ => ?_⟩
   have e : hor ((polyN Z 0).map qx) = fun _ => (1, 0) := by
    funext w
    show pls (((1 : Int) : Qt), ((0 : Int) : Qt)) (tim w (0, 0)) = (1, 0)
    rw [show ((1 : Int) : Qt) = 1 from rfl, show ((0 : Int) : Qt) = 0 from rfl]
    unfold pls tim
    ext <;> grind
   rw [e]; have n1 : nrm (1, 0) = 1 := by unfold nrm; grind
   refine ⟨⟨⟨1, by grind, fun t _ _ => by rw [n1]; exact Rat.le_refl⟩, ⟨1, by grind, fun t _ _ => by rw [n1]; exact Rat.le_refl⟩, ⟨1, by grind, fun t _ _ => by rw [n1]; exact Rat.le_refl⟩, ⟨1, by grind, fun t _ _ => by rw [n1]; exact Rat.le_refl⟩⟩, 0, fun n _ => ?_⟩
   have s : ∀ P Q, Sd (fun _ => ((1, 0) : Cx)) P Q n = 0 := by
    intro P Q; unfold Sd; rw [isum_congr (f := fun _ => 0) (fun i _ => dl_up rfl)]
    have z : ∀ n, isum (fun _ => 0) n = 0 := by
     intro n
     induction n with
     | zero => rfl
     | succ n ih => rw [isum, ih]; omega
    exact z n
   unfold Wn; rw [s, s, s, s]; rfl
 | succ i ih =>
   have e : hor ((polyN Z (i + 1)).map qx) = fun w => tim (hor ((polyN Z i).map qx) w) (mns w (qx (Z.getD i (0, 0)))) := funext (hor_poly Z i)
   rw [e]; have bm := bord_mul (pc_hor ((polyN Z i).map qx)) (pc_mns (qx (Z.getD i (0, 0)))) (qx lo) (qx hi); obtain ⟨ih1, ih2⟩ := ih
   constructor
   · intro h hb; rw [anyZ, Bool.or_eq_true] at h; rcases h with h | h
     · exact ih1 h (bm.1 hb).1
     · exact line_on h1 h2 h (bm.1 hb).2
   · intro h; rw [anyZ, Bool.or_eq_false_iff] at h; obtain ⟨b1, N1, w1⟩ := ih2 h.1; obtain ⟨b2, w2⟩ := line_off h1 h2 h.2; refine ⟨bm.2 ⟨b1, b2⟩, ?_⟩
     obtain ⟨N2, c1⟩ := Bord.cls (pc_hor ((polyN Z i).map qx)) b1; obtain ⟨N3, c2⟩ := Bord.cls (pc_mns (qx (Z.getD i (0, 0)))) b2; refine ⟨N1 + N2 + N3 + 1, fun n hn => ?_⟩
     rw [Wn_mul (c1 n (by omega)) (c2 n (by omega)), w1 n (by omega), w2 n (by omega), cntZ]
     split <;> omega
def tellZ (lo hi : Int × Int) (Z : List (Int × Int)) : Int × Int := if ¬ (lo.1 < hi.1 ∧ lo.2 < hi.2) then (0, 110) else if anyZ lo hi Z Z.length = true then (0, 32) else ((cntZ lo hi Z Z.length : Int), 0)
theorem isI_lt {a b : Nat} {x y : Int} (ha : IsI a x) (hb : IsI b y) : geB a b = true ↔ ¬ x < y := by
 have h := ge_lt ha.1 hb.1 ha.2.1 hb.2.1; rw [ha.2.2, hb.2.2, Rat.intCast_lt_intCast] at h
 constructor
 · intro k l; rw [h.2 l] at k; exact absurd k (by decide)
 · intro k; cases g : geB a b
   · exact absurd (h.1 g) k
   · rfl
theorem counted {Z : List (Int × Int)} {l : List (Nat × Nat)} {a b c d : Nat} {lo hi : Int × Int} (zl : Zc l (polyN Z Z.length)) (hn : Z.length ≤ 8) (hZ : BsC 20 Z) (ha : IsI a lo.1) (hb : IsI b lo.2) (hc : IsI c hi.1) (hd : IsI d hi.2) (m1 : lo.1.natAbs ≤ 40000) (m2 : lo.2.natAbs ≤ 40000) (m3 : hi.1.natAbs ≤ 40000) (m4 : hi.2.natAbs ≤ 40000) :
 zerosN l (a, b) (c, d) = tellZ lo hi Z := by
 have hl : l.length = Z.length + 1 := by rw [zl.1, polyN_len]
 have bs := poly_bs hZ hn; obtain ⟨a1, a2, a3, a4⟩ := zerosN_val (lo := (a, b)) (hi := (c, d)) (l := l) (by omega) (by omega) (zc_mid zl bs)
 have lead : ∀ i, (polyN Z i).getD i (0, 0) = (1, 0) := by
  intro i
  induction i with
  | zero => rfl
  | succ i ih =>
    rw [polyN]; unfold convI; have hq : (polyN Z i).length + (facZ (Z.getD i (0, 0))).length - 1 = (polyN Z i).length + 1 := by show _ + 2 - 1 = _; omega
    rw [hq]; show (allC (polyN Z i) [(-(Z.getD i (0, 0)).1, -(Z.getD i (0, 0)).2), (1, 0)] _ _).getD (i + 1) (0, 0) = _
    rw [conv_two _ _ _ _ (Nat.le_refl _), polyN_len, if_neg (Nat.lt_irrefl _), if_pos (by omega), Nat.add_sub_cancel, ih]
    rfl
 have hs : someB l = true := by
  refine (zc_some zl).2 ⟨(1, 0), ?_, by decide⟩
  rw [← lead Z.length, List.getD_eq_getElem?_getD, List.getElem?_eq_getElem (by rw [polyN_len]; omega)]
  exact List.getElem_mem _
 have md : midC (a, b) = true ∧ midC (c, d) = true := by
  constructor
  · show (midB a && midB b) = true
    rw [isI_mid ha (by omega), isI_mid hb (by omega)]
    rfl
  · show (midB c && midB d) = true
    rw [isI_mid hc (by omega), isI_mid hd (by omega)]
    rfl
 have he : endE (a, b) (c, d) = if geB a c = true ∨ geB b d = true then 110 else 0 := by
  unfold endE; rw [if_neg (by rw [md.1, md.2]; decide)]
 unfold tellZ; by_cases hlt : lo.1 < hi.1 ∧ lo.2 < hi.2
 · have h0 : endE (a, b) (c, d) = 0 := by
    rw [he, if_neg]; rintro (h | h)
    · exact (isI_lt ha hc).1 h hlt.1
    · exact (isI_lt hb hd).1 h hlt.2
   rw [if_neg (fun h => h hlt)]
   obtain ⟨t1, t2⟩ := poly_turn Z hlt.1 hlt.2 Z.length; have e1 : cofr (a, b) = qx lo := by unfold cofr qx; rw [ha.2.2, hb.2.2]
   have e2 : cofr (c, d) = qx hi := by unfold cofr qx; rw [hc.2.2, hd.2.2]
   rw [zc_map zl, e1, e2] at a3 a4; cases hany : anyZ lo hi Z Z.length with
   | true => rw [if_pos rfl]; exact a3 hs h0 (t1 hany)
   | false =>
     rw [if_neg (by decide)]
     obtain ⟨hb', N, hN⟩ := t2 hany; have e3 : Bord (hor (l.map cofr)) (cofr (a, b)) (cofr (c, d)) := by rw [zc_map zl, e1, e2]; exact hb'
     obtain ⟨N2, s2⟩ := sum_turn l (a, b) (c, d) e3; have q := s2 (N + N2) (by omega)
     rw [zc_map zl, e1, e2, hN (N + N2) (by omega)] at q
     rw [a4 hs h0 hb', q, Int.mul_tdiv_cancel_left _ (by decide)]
 · have h0 : endE (a, b) (c, d) = 110 := by
    rw [he, if_pos]; by_cases k : lo.1 < hi.1
    · exact .inr ((isI_lt hb hd).2 (fun h => hlt ⟨k, h⟩))
    · exact .inl ((isI_lt ha hc).2 k)
   rw [if_pos hlt, a2 hs (by rw [h0]; decide), h0]
def conZ (z : Int × Int) : Int × Int := (z.1, -z.2)
theorem inZ_con (lo hi z : Int × Int) : inZ (lo.1, -hi.2) (hi.1, -lo.2) (conZ z) = inZ lo hi z := by
 unfold inZ conZ; rw [show decide (-hi.2 < -z.2) = decide (z.2 < hi.2) by congr 1; exact propext (by omega), show decide (-z.2 < -lo.2) = decide (lo.2 < z.2) by congr 1; exact propext (by omega)]
 cases decide (lo.1 < z.1) <;> cases decide (z.1 < hi.1) <;> cases decide (lo.2 < z.2) <;> cases decide (z.2 < hi.2) <;> rfl
theorem onZ_con (lo hi z : Int × Int) : onZ (lo.1, -hi.2) (hi.1, -lo.2) (conZ z) = onZ lo hi z := by
 unfold onZ; rw [inZ_con]; unfold conZ; rw [show decide (-hi.2 ≤ -z.2) = decide (z.2 ≤ hi.2) by congr 1; exact propext (by omega), show decide (-z.2 ≤ -lo.2) = decide (lo.2 ≤ z.2) by congr 1; exact propext (by omega)]
 cases decide (lo.1 ≤ z.1) <;> cases decide (z.1 ≤ hi.1) <;> cases decide (lo.2 ≤ z.2) <;> cases decide (z.2 ≤ hi.2) <;> rfl
theorem getD_con (Z : List (Int × Int)) (i : Nat) : (Z.map conZ).getD i (0, 0) = conZ (Z.getD i (0, 0)) := by
 rw [List.getD_eq_getElem?_getD, List.getElem?_map, List.getD_eq_getElem?_getD]; cases Z[i]? <;> rfl
theorem tellZ_con (lo hi : Int × Int) (Z : List (Int × Int)) : tellZ (lo.1, -hi.2) (hi.1, -lo.2) (Z.map conZ) = tellZ lo hi Z := by
 have c : ∀ i, cntZ (lo.1, -hi.2) (hi.1, -lo.2) (Z.map conZ) i = cntZ lo hi Z i := by
  intro i
  induction i with
  | zero => rfl
  | succ i ih => rw [cntZ, cntZ, ih, getD_con, inZ_con]
 have a : ∀ i, anyZ (lo.1, -hi.2) (hi.1, -lo.2) (Z.map conZ) i = anyZ lo hi Z i := by
  intro i
  induction i with
  | zero => rfl
  | succ i ih => rw [anyZ, anyZ, ih, getD_con, onZ_con]
 unfold tellZ; rw [List.length_map, c, a]; have e : (lo.1 < hi.1 ∧ -hi.2 < -lo.2) ↔ (lo.1 < hi.1 ∧ lo.2 < hi.2) := by omega
 show (if ¬ (lo.1 < hi.1 ∧ -hi.2 < -lo.2) then _ else _) = _
 simp only [e]
def negB (b : Nat) : Nat := Op.negFloat .f64 b
theorem negB_eq (b : Nat) : negB b = b ^^^ 9223372036854775808 := rfl
@[go_sem] theorem run_fneg2 (x : Nat) (w : World) : (Op.unary .neg (.float .f64 x)).run Tryz.prog w = .ok (.float .f64 (negB x)) w := rfl
instance notW29 : NotW 29 := ⟨by decide⟩
instance notW55 : NotW 55 := ⟨by decide⟩
theorem negB_parts {b : Nat} (h : b < 18446744073709551616) : negB b % 9223372036854775808 = b % 9223372036854775808 ∧ negB b / 9223372036854775808 = 1 - b / 9223372036854775808 := by
 have e : (9223372036854775808 : Nat) = 2 ^ 63 := by decide
 constructor
 · rw [negB_eq, e, Nat.xor_mod_two_pow, Nat.mod_self, Nat.xor_zero]
 · rw [negB_eq, e, Nat.xor_div_two_pow, Nat.div_self (by decide)]
   have q : b / 2 ^ 63 = 0 ∨ b / 2 ^ 63 = 1 := by rw [← e]; omega
   rcases q with q | q <;> rw [q] <;> rfl
theorem neg_isI {b : Nat} {n : Int} (h : IsI b n) : IsI (negB b) (-n) := by
 obtain ⟨h1, h2, h3⟩ := h; obtain ⟨p1, p2⟩ := negB_parts h1; obtain ⟨c, hc⟩ : ∃ c, c = negB b := ⟨_, rfl⟩; rw [← hc] at p1 p2 ⊢; clear hc; have c1 : c < 18446744073709551616 := by omega
 refine ⟨c1, ?_, ?_⟩
 · unfold finB at *; rw [p1]; exact h2
 · have e1 : fexp c = fexp b := by unfold fexp; omega
   have e2 : fman c = fman b := by unfold fman; omega
   have e3 : fneg c = !fneg b := by
    unfold fneg; have q : b / 9223372036854775808 = 0 ∨ b / 9223372036854775808 = 1 := by omega
    rcases q with q | q <;> rw [p2, q] <;> rfl
   have e4 : frat c = -frat b := by
    unfold frat fnum fpow; rw [e1, e2, e3, Rat.neg_mkRat]
    congr 1
    cases fneg b <;> simp [sg]
   rw [e4, h3, Rat.intCast_neg]
theorem isI_one : IsI 4607182418800017408 1 := ⟨by decide, by decide, by decide +kernel⟩
theorem zc_fac {u v : Nat} {z : Int × Int} (hu : IsI u (-z.1)) (hv : IsI v (-z.2)) : Zc [(u, v), (4607182418800017408, 0)] (facZ z) := by
 refine ⟨rfl, fun j x hx => ?_⟩
 rcases j with _ | _ | j
 · obtain rfl : (-z.1, -z.2) = x := Option.some.inj hx; exact ⟨_, rfl, hu, hv⟩
 · obtain rfl : ((1 : Int), (0 : Int)) = x := Option.some.inj hx; exact ⟨_, rfl, isI_one, isI_zero false⟩
 · cases hx
def cntO (lo hi : Int × Int) (Z : List (Int × Int)) : Nat → Nat
 | 0 => 0
 | i + 1 => cntO lo hi Z i + (if onZ lo hi (Z.getD i (0, 0)) = true then 1 else 0)
theorem cntO_any (lo hi : Int × Int) (Z : List (Int × Int)) (i : Nat) : anyZ lo hi Z i = decide (0 < cntO lo hi Z i) := by
 induction i with
 | zero => rfl
 | succ i ih =>
   rw [anyZ, cntO, ih]; cases onZ lo hi (Z.getD i (0, 0)) with
   | false => rw [if_neg (by decide), Bool.or_false, Nat.add_zero]
   | true => rw [if_pos rfl, Bool.or_true]; simp
theorem cnt_le (lo hi : Int × Int) (Z : List (Int × Int)) (i : Nat) : cntZ lo hi Z i ≤ i ∧ cntO lo hi Z i ≤ i := by
 induction i with
 | zero => exact ⟨Nat.le_refl _, Nat.le_refl _⟩
 | succ i ih =>
   rw [cntZ, cntO]
   constructor
   · split <;> omega
   · split <;> omega
theorem lawCnt {w : World} {ad : Option Addr} {cap : Nat} {lx ly ux uy : Int} {Z : List (Int × Int)} [hv : VrB w] (h : Gl w ad Z) (hn : Z.length ≤ 1048575) (ho : ok16 Z) (b1 : -32768 ≤ lx ∧ lx ≤ 32767) (b2 : -32768 ≤ ly ∧ ly ≤ 32767) (b3 : -32768 ≤ ux ∧ ux ≤ 32767) (b4 : -32768 ≤ uy ∧ uy ≤ 32767) :
 Calls Tryz.prog 6 #[.slice ad Z.length cap, .agg #[.int .i16 lx, .int .i16 ly], .agg #[.int .i16 ux, .int .i16 uy]] w fun e w' => e = .returned (.bool true) ∧ Kp0 w w' := by
 have S1 := hid (fun (W : World) (k : Gr w W) => lwSmall (cap := cap) (m := 20) (h.grow k) (Nat.le_succ_of_le hn) ⟨by decide, by decide⟩ ho)
 obtain ⟨n, hn2⟩ : ∃ n, n = Z.length := ⟨_, rfl⟩; have HL := hid hn2; have HN := hid hn; have HH := hid h; rw [← hn2] at S1 ⊢; have T1 := hid (fun k : smallB 20 Z = true => small_bs (m := 20) k)
 generalize smallB 20 Z = V1 at *; clear hn hn2 ho h; by_cases g1 : 8 < n
 · have g1' : (8 : Int) < (n : Int) := by omega
   clear g1; go_enter Tryz.func6, Tryz.ntmps6; go_wp2_with (first | (go_at_call 12; (with_reducible refine Calls.mono (lwAwake (hv := ⟨VrC.out⟩)) ?_); rintro e wc ⟨rfl, _⟩) | (go_at_call 21; (with_reducible refine Calls.mono (S1.out _ inferInstance) ?_); rintro e wc ⟨rfl, _⟩))
   go_ret
   exact ⟨rfl, ⟨Gr.out⟩⟩
 have g1' : ¬ (8 : Int) < (n : Int) := by omega
 cases V1 with
 | false =>
   clear g1; go_enter Tryz.func6, Tryz.ntmps6; go_wp2_with (first | (go_at_call 12; (with_reducible refine Calls.mono (lwAwake (hv := ⟨VrC.out⟩)) ?_); rintro e wc ⟨rfl, _⟩) | (go_at_call 21; (with_reducible refine Calls.mono (S1.out _ inferInstance) ?_); rintro e wc ⟨rfl, _⟩))
   go_ret
   exact ⟨rfl, ⟨Gr.out⟩⟩
 | true =>
 have bZ : BsC 20 Z := T1.out rfl
 have bM : BsC 20 (Z.map conZ) := fun j => by
  rw [getD_con]; have := bZ j; unfold conZ; rw [Int.natAbs_neg]; exact this
 have HB := hid bZ; have T1' := T1; clear T1 T1'
 have T8 := hid (fun (i : Nat) (W : World) (aa : Option Addr) (ca : Nat) (m : List (Nat × Nat)) (ab : Option Addr) (cb : Nat) (p q : Nat × Nat) (ha : Rw 29 EC W (.slice aa m.length ca) m) (hb : Rw 29 EC W (.slice ab 2 cb) [p, q]) (hi : i < n) (hz : Hid (Zc m (polyN Z i) ∧ Zc [p, q] (facZ (Z.getD i (0, 0))))) => show Calls Tryz.prog 23 #[.slice aa m.length ca, .slice ab 2 cb] W (fun e w' => ∃ g n r, e = .returned (.slice (some ⟨g, 0, none⟩) n n) ∧ n = r.length ∧ Bk w' g (r.map cV) 29 ∧ Zc r (polyN Z (i + 1)) ∧ Kp0 W w') from
  lwTimes (la := m) (lb := [p, q]) ha hb hz.out.1 hz.out.2 (by rw [polyN_len]; omega) (by rw [polyN_len]; omega) (show 1 ≤ 2 by omega) (show 2 ≤ 5 by omega) (poly_pr bZ (by omega)) (by decide))
 have T9 := hid (fun (i : Nat) (W : World) (aa : Option Addr) (ca : Nat) (m : List (Nat × Nat)) (ab : Option Addr) (cb : Nat) (p q : Nat × Nat) (ha : Rw 29 EC W (.slice aa m.length ca) m) (hb : Rw 29 EC W (.slice ab 2 cb) [p, q]) (hi : i < n) (hz : Hid (Zc m (polyN (Z.map conZ) i) ∧ Zc [p, q] (facZ ((Z.map conZ).getD i (0, 0))))) => show Calls Tryz.prog 23 #[.slice aa m.length ca, .slice ab 2 cb] W (fun e w' => ∃ g n r, e = .returned (.slice (some ⟨g, 0, none⟩) n n) ∧ n = r.length ∧ Bk w' g (r.map cV) 29 ∧ Zc r (polyN (Z.map conZ) (i + 1)) ∧ Kp0 W w') from
  lwTimes (la := m) (lb := [p, q]) ha hb hz.out.1 hz.out.2 (by rw [polyN_len]; omega) (by rw [polyN_len]; omega) (show 1 ≤ 2 by omega) (show 2 ≤ 5 by omega) (poly_pr bM (by omega)) (by decide))
 have i1 : IsI (floatOfInt .f64 lx) lx := int_isI (by omega)
 have i2 : IsI (floatOfInt .f64 ly) ly := int_isI (by omega)
 have i3 : IsI (floatOfInt .f64 ux) ux := int_isI (by omega)
 have i4 : IsI (floatOfInt .f64 uy) uy := int_isI (by omega)
 have j2 := neg_isI i2; have j4 := neg_isI i4; have n8 : Z.length ≤ 8 := by have := HL.out; omega
 have C1 := hid (fun (m : List (Nat × Nat)) (z : Zc m (polyN Z Z.length)) => counted (lo := (lx, ly)) (hi := (ux, uy)) z n8 bZ i1 i2 i3 i4 (by show lx.natAbs ≤ _; omega) (by show ly.natAbs ≤ _; omega) (by show ux.natAbs ≤ _; omega) (by show uy.natAbs ≤ _; omega))
 have C2 := hid (fun (m : List (Nat × Nat)) (z : Zc m (polyN (Z.map conZ) (Z.map conZ).length)) => (counted (lo := (lx, -uy)) (hi := (ux, -ly)) z (by rw [List.length_map]; exact n8) bM i1 j4 i3 j2 (by show lx.natAbs ≤ _; omega) (by show (-uy).natAbs ≤ _; omega) (by show ux.natAbs ≤ _; omega) (by show (-ly).natAbs ≤ _; omega)).trans (tellZ_con (lx, ly) (ux, uy) Z))
 have ZS := hid (fun (m : List (Nat × Nat)) (S : List (Int × Int)) (z : Zc m S) (W : World) (a' : Option Addr) (cap' : Nat) (q : VrC W) (k : ClS W a' m) => gaZerosS (cap := cap') (hv := q) k (zc_ok z) i1.1 i2.1 i3.1 i4.1)
 have ZM := hid (fun (m : List (Nat × Nat)) (S : List (Int × Int)) (z : Zc m S) (W : World) (a' : Option Addr) (cap' : Nat) (q : VrC W) (k : ClS W a' m) => gaZerosS (cap := cap') (hv := q) k (zc_ok z) i1.1 j4.1 i3.1 j2.1)
 rw [List.length_map, ← HL.out] at C2; rw [← HL.out] at C1; clear bZ bM i1 i2 i3 i4 j2 j4 n8 g1 b1 b2 b3 b4; go_enter Tryz.func6, Tryz.ntmps6; go_wp2_with (first | (go_at_call 12; (with_reducible refine Calls.mono (lwAwake (hv := ⟨VrC.out⟩)) ?_); rintro e wc ⟨rfl, _⟩) | (go_at_call 21; (with_reducible refine Calls.mono (S1.out _ inferInstance) ?_); rintro e wc ⟨rfl, _⟩))
 go_loopw [8, 9, 10, 11] (fun s8 s9 s10 s11 wx => ∃ (i : Nat) (a8 a9 : Option Addr) (c8 c9 : Nat) (m8 m9 : List (Nat × Nat)), s10 = .int .i64 i ∧ i ≤ n ∧ s8 = .slice a8 m8.length c8 ∧ s9 = .slice a9 m9.length c9 ∧ Hid (Rw 29 EC wx (.slice a8 m8.length c8) m8) ∧ Hid (Rw 29 EC wx (.slice a9 m9.length c9) m9) ∧ Hid (Zc m8 (polyN Z i)) ∧ Hid (Zc m9 (polyN (Z.map conZ) i)) ∧ BkC wx w.heap.size [.int .i16 lx, .int .i16 ly] 55 ∧ BkC wx (w.heap.size + 1) [.int .i16 ux, .int .i16 uy] 55 ∧ Kp0 w wx) (fun _ _ s10 _ _ => n - (intOf s10).toNat)
 case atStart =>
  refine ⟨0, _, _, _, _, [(4607182418800017408, 0)], [(4607182418800017408, 0)], rfl, Nat.zero_le _, rfl, rfl, hid (bk_rw BkC.out (Nat.le_refl _)), hid (bk_rw BkC.out (Nat.le_refl _)), hid ⟨rfl, ?_⟩, hid ⟨rfl, ?_⟩, inferInstance, inferInstance, ⟨Gr.out⟩⟩
  all_goals
   intro j x hx; rcases j with _ | j
   · obtain rfl : ((1 : Int), (0 : Int)) = x := Option.some.inj hx; exact ⟨_, rfl, isI_one, isI_zero false⟩
   · cases hx
 case round =>
  obtain ⟨i, a8, a9, c8, c9, m8, m9, rfl, hi, rfl, rfl, R8, R9, Q8, Q9, ib1, ib2, ik⟩ := hrel; by_cases hin : i = n
  · subst hin; clear hi; have Z8 := hid (fun (W : World) (a' : Option Addr) (cap' : Nat) (q : VrC W) (k : ClS W a' m8) => (C1.out m8 Q8.out) ▸ ZS.out m8 _ Q8.out W a' cap' q k)
    have Z9 := hid (fun (W : World) (a' : Option Addr) (cap' : Nat) (q : VrC W) (k : ClS W a' m9) => (C2.out m9 Q9.out) ▸ ZM.out m9 _ Q9.out W a' cap' q k)
    clear C1 C2 ZS ZM T8 T9 Q8 Q9; go_upto_region 14 with fail
    go_cut [12] from 65 (fun s12 wx => ∃ g12, s12 = .pointer (some ⟨g12, 0, none⟩) ∧ BkC wx g12 [.complex .f64 (floatOfInt .f64 lx) (floatOfInt .f64 ly), .complex .f64 (floatOfInt .f64 ux) (floatOfInt .f64 uy)] 45 ∧ Kp0 wr wx)
    case first =>
     go_region_held3 (fun W => W.cell? ⟨w.heap.size, 0, none⟩ = some (.int .i16 lx) ∧ W.cell? ⟨w.heap.size, 1, none⟩ = some (.int .i16 ly) ∧ W.cell? ⟨(w.heap.size + 1), 0, none⟩ = some (.int .i16 ux) ∧ W.cell? ⟨(w.heap.size + 1), 1, none⟩ = some (.int .i16 uy)) (refine ⟨?_, ?_, ?_, ?_⟩ <;> (first | exact Bk.cell BkC.out rfl | (simp [go_sem]; done))) (first | (go_at_call 24; (with_reducible refine Calls.mono (lwGof) ?_); rintro e wc ⟨rfl, _⟩))
     all_goals (go_wp2_with fail; go_meet; exact ⟨_, rfl, inferInstance, ⟨Gr.out⟩⟩)
    case rest =>
    obtain ⟨g12, rfl, b12, iq⟩ := hcut; generalize hwq : wc = wq at *; clear hwq; have x0 := b12.out.cell (i := 0) rfl; have x1 := b12.out.cell (i := 1) rfl; go_upto_region 16 with (go_at_call 18; (with_reducible refine Calls.mono (Z8.out _ _ _ inferInstance (clS_rw (R8.out.below eok_EC Gr.out))) ?_); rintro e wz ⟨rfl, _⟩)
    go_upto_region 17 with (go_at_call 18; (with_reducible refine Calls.mono (Z9.out _ _ _ inferInstance (clS_rw (R9.out.below eok_EC Gr.out))) ?_); rintro e wy ⟨rfl, _⟩)
    clear Z8 Z9 R8 R9; have z0 := (inferInstance : BkC wy w.heap.size [.int .i16 lx, .int .i16 ly] 55).out.cell (i := 0) rfl; have z1 := (inferInstance : BkC wy w.heap.size [.int .i16 lx, .int .i16 ly] 55).out.cell (i := 1) rfl; have z2 := (inferInstance : BkC wy (w.heap.size + 1) [.int .i16 ux, .int .i16 uy] 55).out.cell (i := 0) rfl; have z3 := (inferInstance : BkC wy (w.heap.size + 1) [.int .i16 ux, .int .i16 uy] 55).out.cell (i := 1) rfl; by_cases l1 : ux ≤ lx
    · have eT : tellZ (lx, ly) (ux, uy) Z = (0, 110) := by unfold tellZ; rw [if_pos (fun h => absurd h.1 (by show ¬ lx < ux; omega))]
      rw [eT]; go_wp2_with fail
      go_ret
      exact ⟨rfl, ⟨Gr.out⟩⟩
    by_cases l2 : uy ≤ ly
    · have eT : tellZ (lx, ly) (ux, uy) Z = (0, 110) := by unfold tellZ; rw [if_pos (fun h => absurd h.2 (by show ¬ ly < uy; omega))]
      rw [eT]; go_wp2_with fail
      go_ret
      exact ⟨rfl, ⟨Gr.out⟩⟩
    have eT : Hid (tellZ (lx, ly) (ux, uy) Z = if decide (0 < cntO (lx, ly) (ux, uy) Z i) = true then (0, 32) else ((cntZ (lx, ly) (ux, uy) Z i : Int), 0)) := hid (by
     unfold tellZ; rw [if_neg (fun h => h ⟨by show lx < ux; omega, by show ly < uy; omega⟩), ← HL.out, cntO_any])
    have CL := hid (fun j => cnt_le (lx, ly) (ux, uy) Z j)
    generalize tellZ (lx, ly) (ux, uy) Z = TT at *; have n8 : (i : Int) ≤ 8 := by omega
    go_wp2_with fail
    go_loopw [17, 18, 19, 20, 21] (fun s17 s18 s19 s20 s21 wx => ∃ (j ci co : Nat), s19 = .int .i64 j ∧ s17 = .int .i64 ci ∧ s18 = .int .i64 co ∧ j ≤ i ∧ Hid (ci = cntZ (lx, ly) (ux, uy) Z j ∧ co = cntO (lx, ly) (ux, uy) Z j) ∧ BkC wx w.heap.size [.int .i16 lx, .int .i16 ly] 55 ∧ BkC wx (w.heap.size + 1) [.int .i16 ux, .int .i16 uy] 55 ∧ Kp0 w wx) (fun _ _ s19 _ _ _ => i - (intOf s19).toNat)
    case atStart => exact ⟨0, 0, 0, rfl, rfl, rfl, Nat.zero_le _, hid ⟨rfl, rfl⟩, inferInstance, inferInstance, ⟨Gr.out⟩⟩
    case round =>
     obtain ⟨j, ci, co, rfl, rfl, rfl, hj, HC, jb1, jb2, jk⟩ := hrel; have y0 := jb1.out.cell (i := 0) rfl; have y1 := jb1.out.cell (i := 1) rfl; have y2 := jb2.out.cell (i := 0) rfl; have y3 := jb2.out.cell (i := 1) rfl; by_cases hjn : j = i
     · subst hjn; clear hj; have c1 := HC.out.1; have c2 := HC.out.2; have eT2 : TT = if decide (0 < co) = true then (0, 32) else ((ci : Int), 0) := by rw [c1, c2]; exact eT.out
       clear eT c1 c2 HC; by_cases hco : 0 < co
       · rw [if_pos (by simpa using hco)] at eT2
         have hco' : (0 : Int) < (co : Int) := by omega
         subst eT2; go_wp2_with fail
         go_ret
         exact ⟨rfl, ⟨Gr.out⟩⟩
       · rw [if_neg (by simpa using hco)] at eT2
         have hco' : ¬ (0 : Int) < (co : Int) := by omega
         subst eT2; go_wp2_with fail
         go_ret
         exact ⟨rfl, ⟨Gr.out⟩⟩
     · have hlt : j < i := by omega
       have hI : (j : Int) < (i : Int) := by omega
       have h0 : (0 : Int) ≤ (j : Int) := by omega
       obtain ⟨x, hx⟩ : ∃ x, Z[j]? = some x := ⟨_, List.getElem?_eq_getElem (by rw [← HL.out]; exact hlt)⟩
       obtain ⟨g, off, rfl, hg, c0, c1⟩ := HH.out j x hx; haveI : Has w g := ⟨hg⟩; have ex : Z.getD j (0, 0) = x := by rw [List.getD_eq_getElem?_getD, hx]; rfl
       have c0' := (cell_kp0 wr g (off + j * 2)).trans c0; have c1' := (cell_kp0 wr g (off + j * 2 + 1)).trans c1; have bc : ci ≤ 8 ∧ co ≤ 8 := by have := CL.out j; have := HC.out; omega
       have w1 : IntKind.i64.wrap ((ci : Int) + 1) = ((ci + 1 : Nat) : Int) := by rw [IntKind.wrap_i64]; omega
       have w2 : IntKind.i64.wrap ((co : Int) + 1) = ((co + 1 : Nat) : Int) := by rw [IntKind.wrap_i64]; omega
       have HLT := hid hlt; have HCN : Hid (cntZ (lx, ly) (ux, uy) Z (j + 1) = ci + (if inZ (lx, ly) (ux, uy) x = true then 1 else 0) ∧ cntO (lx, ly) (ux, uy) Z (j + 1) = co + (if onZ (lx, ly) (ux, uy) x = true then 1 else 0)) := hid (by rw [cntZ, cntO, ex, ← HC.out.1, ← HC.out.2]; exact ⟨rfl, rfl⟩)
       clear hx ex hjn hj hlt bc HC; cases hin : inZ (lx, ly) (ux, uy) x with
       | true =>
         have hon : onZ (lx, ly) (ux, uy) x = false := by unfold onZ; rw [hin]; rfl
         have HD : Hid (cntZ (lx, ly) (ux, uy) Z (j + 1) = ci + 1 ∧ cntO (lx, ly) (ux, uy) Z (j + 1) = co) := hid (by have := HCN.out; rw [hin, hon] at this; exact this)
         unfold inZ at hin; simp only [Bool.and_eq_true, decide_eq_true_eq] at hin; obtain ⟨⟨⟨q1, q2⟩, q3⟩, q4⟩ := hin; clear HCN hon; go_wp2_with fail
         go_round
         case rel => exact ⟨j + 1, ci + 1, co, rfl, rfl, by go_num, HLT.out, hid ⟨HD.out.1.symm, HD.out.2.symm⟩, inferInstance, inferInstance, ⟨Gr.out⟩⟩
         case measure => first | (simp [intOf]; done) | (simp [intOf]; omega)
       | false =>
         cases hon : onZ (lx, ly) (ux, uy) x with
         | true =>
           have HD : Hid (cntZ (lx, ly) (ux, uy) Z (j + 1) = ci ∧ cntO (lx, ly) (ux, uy) Z (j + 1) = co + 1) := hid (by have := HCN.out; rw [hin, hon] at this; exact this)
           unfold onZ at hon; rw [hin] at hon; simp only [Bool.not_false, Bool.true_and, Bool.and_eq_true, decide_eq_true_eq] at hon; obtain ⟨⟨⟨q1, q2⟩, q3⟩, q4⟩ := hon; unfold inZ at hin; simp only [Bool.and_eq_false_iff, decide_eq_false_iff_not] at hin; have hno := hid hin; clear HCN hin; go_wp2_with fail
           all_goals go_round
           all_goals first
            | exact ⟨j + 1, ci, co + 1, rfl, rfl, by go_num, HLT.out, hid ⟨HD.out.1.symm, HD.out.2.symm⟩, inferInstance, inferInstance, ⟨Gr.out⟩⟩
            | (exfalso; have := hno.out; omega)
            | (simp [intOf]; done)
            | (simp [intOf]; omega)
         | false =>
           have HD : Hid (cntZ (lx, ly) (ux, uy) Z (j + 1) = ci ∧ cntO (lx, ly) (ux, uy) Z (j + 1) = co) := hid (by have := HCN.out; rw [hin, hon] at this; exact this)
           unfold onZ at hon; rw [hin] at hon; simp only [Bool.not_false, Bool.true_and, Bool.and_eq_false_iff, decide_eq_false_iff_not] at hon; unfold inZ at hin; simp only [Bool.and_eq_false_iff, decide_eq_false_iff_not] at hin; have hno := hid hin; have hnc := hid hon; clear HCN hin hon; go_wp2_with fail
           all_goals go_round
           all_goals first
            | exact ⟨j + 1, ci, co, rfl, rfl, by go_num, HLT.out, hid ⟨HD.out.1.symm, HD.out.2.symm⟩, inferInstance, inferInstance, ⟨Gr.out⟩⟩
            | (exfalso; have := hno.out; have := hnc.out; omega)
            | (simp [intOf]; done)
            | (simp [intOf]; omega)
  · have hlt : i < n := by omega
    have hI : (i : Int) < (n : Int) := by omega
    have h0 : (0 : Int) ≤ (i : Int) := by omega
    obtain ⟨x, hx⟩ : ∃ x, Z[i]? = some x := ⟨_, List.getElem?_eq_getElem (by rw [← HL.out]; exact hlt)⟩
    obtain ⟨g, off, rfl, hg, c0, c1⟩ := HH.out i x hx; haveI : Has w g := ⟨hg⟩; have ex : Z.getD i (0, 0) = x := by rw [List.getD_eq_getElem?_getD, hx]; rfl
    have ex2 : (Z.map conZ).getD i (0, 0) = (x.1, -x.2) := by rw [getD_con, ex]; rfl
    have bx := HB.out i; rw [ex] at bx; have f1 := neg_isI (int_isI (n := x.1) (by omega))
    have f2 := neg_isI (int_isI (n := x.2) (by omega))
    have f3 : IsI (floatOfInt .f64 x.2) (- -x.2) := by rw [Int.neg_neg]; exact int_isI (by omega)
    have HZ8 := hid (hid (And.intro Q8.out (show Zc [(negB (floatOfInt .f64 x.1), negB (floatOfInt .f64 x.2)), (4607182418800017408, 0)] (facZ (Z.getD i (0, 0))) by rw [ex]; exact zc_fac f1 f2)))
    have HZ9 := hid (hid (And.intro Q9.out (show Zc [(negB (floatOfInt .f64 x.1), floatOfInt .f64 x.2), (4607182418800017408, 0)] (facZ ((Z.map conZ).getD i (0, 0))) by rw [ex2]; exact zc_fac (z := (x.1, -x.2)) f1 f3)))
    have BR8 := hid (fun (W : World) (g : Nat) (h : Bk W g [.complex .f64 (negB (floatOfInt .f64 x.1)) (negB (floatOfInt .f64 x.2)), .complex .f64 4607182418800017408 0] 29) => (bk_rw (cap := 2) (m := [(negB (floatOfInt .f64 x.1), negB (floatOfInt .f64 x.2)), (4607182418800017408, 0)]) h (Nat.le_refl _) : Rw 29 EC W (.slice (some ⟨g, 0, none⟩) 2 2) [(negB (floatOfInt .f64 x.1), negB (floatOfInt .f64 x.2)), (4607182418800017408, 0)]))
    have BR9 := hid (fun (W : World) (g : Nat) (h : Bk W g [.complex .f64 (negB (floatOfInt .f64 x.1)) (floatOfInt .f64 x.2), .complex .f64 4607182418800017408 0] 29) => (bk_rw (cap := 2) (m := [(negB (floatOfInt .f64 x.1), floatOfInt .f64 x.2), (4607182418800017408, 0)]) h (Nat.le_refl _) : Rw 29 EC W (.slice (some ⟨g, 0, none⟩) 2 2) [(negB (floatOfInt .f64 x.1), floatOfInt .f64 x.2), (4607182418800017408, 0)]))
    have HLT := hid hlt; clear hx ex ex2 bx f1 f2 f3 hlt hin hi Q8 Q9; go_upto_region 12 with (go_at_call 24; (with_reducible refine Calls.mono (lwGof) ?_); rintro e wc ⟨rfl, _⟩)
    go_upto_region 13 with (go_at_call 23; (with_reducible refine Calls.mono (T8.out _ _ _ _ _ _ _ _ _ (R8.out.below eok_EC Gr.out) (BR8.out _ _ BkC.out) HLT.out HZ8.out) ?_); rintro e wt ⟨g8, n8, q8, rfl, hn8, hb8, hz8, _⟩; obtain rfl := hn8; have HQ8 := hid hz8; clear hz8; haveI bT8 : BkC wt g8 (q8.map cV) 29 := ⟨hb8⟩; clear hb8)
    go_wp2_with (go_at_call 23; (with_reducible refine Calls.mono (T9.out _ _ _ _ _ _ _ _ _ (R9.out.below eok_EC Gr.out) (BR9.out _ _ BkC.out) HLT.out HZ9.out) ?_); rintro e wt ⟨g9, n9, q9, rfl, hn9, hb9, hz9, _⟩; obtain rfl := hn9; have HQ9 := hid hz9; clear hz9; haveI bT9 : BkC wt g9 (q9.map cV) 29 := ⟨hb9⟩; clear hb9)
    go_round
    case rel =>
     exact ⟨i + 1, _, _, _, _, _, _, by go_num, HLT.out, rfl, rfl, hid (bk_rw BkC.out (Nat.le_refl _)), hid (bk_rw BkC.out (Nat.le_refl _)), HQ8, HQ9, inferInstance, inferInstance, ⟨Gr.out⟩⟩
    case measure => first | (simp [intOf]; done) | (simp [intOf]; omega)
end Go.Proofs.YthjeejnggpjnjaaGreatDoor
