/- A part: AK, AL, AM. -/
import Derived.Test.YthjeejnggpjnjaaGreatDoorZO13
set_option linter.unusedSimpArgs false
set_option linter.unusedVariables false
set_option maxRecDepth 100000
set_option maxHeartbeats 16000000
set_option synthInstance.maxHeartbeats 2000000
set_option synthInstance.maxSize 100000
namespace Go.Proofs.YthjeejnggpjnjaaGreatDoor
open Go.RowKit
theorem neg_lt (F : Nat) (h : F < 18446744073709551616) : Op.negFloat .f64 F < 18446744073709551616 := by
 have e : Op.negFloat .f64 F = F ^^^ 2 ^ 63 := rfl; rw [e]; have := Nat.xor_lt_two_pow (n := 64) (x := F) (y := 2 ^ 63) h (Nat.pow_lt_pow_right (by decide) (by decide))
 exact this
theorem run_fneg (x : Nat) (w : World) : (Op.unary .neg (.float .f64 x)).run Tryz.prog w = .ok (.float .f64 (Op.negFloat .f64 x)) w := rfl
theorem bnearCoreN (b : Bool) (aa ad : Option Addr) (la ca ld cd k q r : Nat) (RW LQ L2 LX : List Nat) (blA blD : Nat) (u cc : Int) (ex : Bool) (F lr : Nat) (w : World)
 (q1b : q < 18014398509481984) (hu1 : -1074 ≤ u) (hu2 : u ≤ 549755813888) (hbA : blA ≤ 549755813888) (hbD : blD ≤ 549755813888) (hsg : u < 0) (hk : -u = (k : Int)) (hmax : max ((blA : Int) - blD - 53) (-1074) = u) (hc1 : -1 ≤ cc) (hc2 : cc ≤ 1)
 (BA : Hid (Calls Tryz.prog 176 #[.slice aa la ca] w fun e w' => e = .returned (.int .i64 blA) ∧ w' = w)) (BD : Hid (Calls Tryz.prog 176 #[.slice ad ld cd] w fun e w' => e = .returned (.int .i64 blD) ∧ w' = w))
 (UP : Hid (Calls Tryz.prog 157 #[.slice aa la ca, .int .i64 k] w fun e w' => ∃ v, e = .returned v ∧ Wd w' v L2 ∧ Below w.heap.size w w'))
 (DV : Hid (∀ v w', Below w.heap.size w w' → Wd w' v L2 → Calls Tryz.prog 177 #[v, .slice ad ld cd] w' fun e w'' => ∃ q' ar cr, e = .returned (.tuple #[q', .slice ar lr cr]) ∧ Wd w'' q' LQ ∧ Wd w'' (.slice ar lr cr) RW ∧ Below w'.heap.size w' w''))
 (D0 : Hid (∀ w', Below w.heap.size w w' → Wd w' (.slice ad ld cd) LX))
 (TU : Hid (∀ v w', Wd w' v LQ → Calls Tryz.prog 178 #[v] w' fun e w'' => e = .returned (.int .u64 q) ∧ w'' = w'))
 (UR : Hid (∀ v w', Wd w' v RW → Calls Tryz.prog 157 #[v, .int .i64 1] w' fun e w'' => ∃ v, e = .returned v ∧ Wd w'' v (words (r * 2)) ∧ Below w'.heap.size w' w''))
 (CM : Hid (∀ v1 v2 w', Wd w' v1 (words (r * 2)) → Wd w' v2 LX → Calls Tryz.prog 141 #[v1, v2] w' fun e w'' => e = .returned (.int .i64 cc) ∧ Drawn w' w''))
 (e0 : ((la : Int) == 0) = false) (ex0 : ((lr : Int) == 0) = ex)
 (HF : Hid (F = if (nround q ex cc u).1 = 0 then 0 else min ((nround q ex cc u).1 + ((nround q ex cc u).2 + 1074).toNat * 4503599627370496) 9218868437227405312))
 (IF : Hid (∀ w, Calls Tryz.prog 180 #[.float .f64 F, .int .i64 0] w fun e w' => e = .returned (.bool (Ieee.double.order (F % 9223372036854775808) 9218868437227405311 == some .gt)) ∧ w' = w))
 (IG : Hid (∀ w, Calls Tryz.prog 180 #[.float .f64 (Op.negFloat .f64 F), .int .i64 0] w fun e w' => e = .returned (.bool (Ieee.double.order (Op.negFloat .f64 F % 9223372036854775808) 9218868437227405311 == some .gt)) ∧ w' = w))
 (Q2 : u = -1074 ∨ 4503599627370496 ≤ q) :
 Calls Tryz.prog 125 #[.bool b, .slice aa la ca, .slice ad ld cd] w (NearPost b F w) := by
 have rn := run_fneg; obtain ⟨M0, hM0⟩ : ∃ M0, M0 = (decide (0 < cc) || (decide (cc = 0) && decide (q % 2 = 1))) := ⟨_, rfl⟩; have HM0 := hid hM0; have HMX := hid hmax; clear hM0 hmax; go_enter Tryz.func125, Tryz.ntmps125; go_upto_region 3 with fail
 go_cut [8] from 20 to 26 (fun s8 wx => s8 = .int .i64 u ∧ w = wx)
 case first =>
  go_wp2_with (first | (go_at_call 176; (with_reducible refine BA.out.mono ?_); rintro e w' ⟨rfl, hw⟩; obtain rfl := hw.symm) | (go_at_call 176; (with_reducible refine BD.out.mono ?_); rintro e w' ⟨rfl, hw⟩; obtain rfl := hw.symm))
  all_goals
   go_meet
   have HMY := HMX.out; exact ⟨congrArg (Value.int .i64) (by omega), rfl⟩
 case rest =>
  obtain ⟨rfl, rfl⟩ := hcut; go_upto_region 10 with (first | (go_at_call 157; (with_reducible refine UP.out.mono ?_); rintro e w1 ⟨v1, rfl, h1, hb1⟩) | (go_at_call 177; (with_reducible refine (DV.out _ _ hb1 h1).mono ?_); rintro e w2 ⟨vq, ar, cr, rfl, hq2, hr2, hw2⟩; have hb2 := Below.trans hb1 (below_low hw2 hb1.size); have h12 := D0.out _ hb2) | (go_at_call 178; (with_reducible refine (TU.out _ _ hq2).mono ?_); rintro e w' ⟨rfl, hw⟩; obtain rfl := hw.symm) | (go_at_call 157; (with_reducible refine (UR.out _ _ hr2).mono ?_); rintro e w3 ⟨v3, rfl, h3, hw3⟩; have hb3 := Below.trans hb2 (below_low hw3 hb2.size); have h13 := h12.below hw3) | (go_at_call 141; (with_reducible refine (CM.out _ _ _ h3 h13).mono ?_); rintro e w9 ⟨rfl, hd9⟩; have hb9 := Below.trans hb3 (below_low hd9.below hb3.size); clear hd9))
  have HB9 := hid hb9; clear hb1 hb2 hb3 hb9 h1 hq2 hr2 hw2 h12 hw3 h3 h13; go_cut [13] from 48 to 58 (fun s13 wx => s13 = .bool M0 ∧ w9 = wx)
  case first =>
   have HM := HM0.out; rcases (show cc = -1 ∨ cc = 0 ∨ cc = 1 by omega) with rfl | rfl | rfl <;> rcases Nat.mod_two_eq_zero_or_one q with hq2 | hq2
   all_goals
    have a1 := and1 q (by omega)
    rw [hq2] at a1 HM; simp only [decide_true, decide_false, Int.lt_irrefl, Bool.or_false, Bool.false_or, Bool.and_false, Bool.and_true, Bool.true_and, Bool.false_and, Nat.zero_ne_one, reduceCtorEq] at HM
    try (rw [show decide ((0 : Int) < -1) = false from rfl] at HM)
    try (rw [show decide ((0 : Int) < 1) = true from rfl] at HM)
    try (rw [show decide ((-1 : Int) = 0) = false from rfl] at HM)
    try simp at HM
    go_wp2_with fail
    go_meet
    exact ⟨by rw [HM], rfl⟩
  case rest =>
   obtain ⟨rfl, rfl⟩ := hcut; by_cases hbig : 9007199254740992 ≤ q
   · obtain ⟨q1, hq1⟩ : ∃ q1, q1 = q / 2 := ⟨_, rfl⟩; have q1e : (q : Int) / 2 = (q1 : Int) := by omega
     have hq1b : 4503599627370496 ≤ q1 := by omega
     have hq1c : q1 < 9007199254740992 := by omega
     have hbI : (9007199254740992 : Int) ≤ (q : Int) := by omega
     rcases Nat.mod_two_eq_zero_or_one q with hq2 | hq2
     · rcases Nat.mod_two_eq_zero_or_one q1 with hq3 | hq3 <;> rcases ex with _ | _
       all_goals
        have HR : Hid (F = if q1 = 0 then 0 else min (q1 + (u + 1 + 1074).toNat * 4503599627370496) 9218868437227405312) := hid (by
         have h := HF.out; unfold nround at h; rw [if_pos hbig, ← hq1] at h; simp only [hq2, hq3, decide_true, decide_false, Bool.not_true, Bool.not_false, Bool.true_and, Bool.false_and, Bool.and_true, Bool.and_false, Bool.or_true, Bool.or_false, Bool.true_or, Bool.false_or, Bool.toNat_true, Bool.toNat_false, Nat.add_zero, Nat.zero_ne_one, Nat.one_ne_zero, reduceCtorEq] at h; exact h)
        have LD := fun w => Ldexp_near (q1) (u + 1) (by omega) (by omega) (by omega) (by omega) w
        rw [← nconv, show (((q1) : Nat) : Int) = (q1 : Int) by omega, ← HR.out] at LD
        clear HR
       all_goals
        have a1 := and1 q (by omega)
        rw [hq2] at a1; have a2 := and1 q1 (by omega)
        rw [hq3] at a2; clear HF hq1; rcases b with _ | _
        all_goals
         go_wp2_with (first | (go_at_call 179; (with_reducible refine (LD _).mono ?_); rintro e w' ⟨rfl, hw⟩; obtain rfl := hw.symm) | (go_at_call 180; (with_reducible refine (IF.out _).mono ?_); rintro e w' ⟨rfl, hw⟩; obtain rfl := hw.symm) | (go_at_call 180; (with_reducible refine (IG.out _).mono ?_); rintro e w' ⟨rfl, hw⟩; obtain rfl := hw.symm))
         go_ret2
         exact ⟨⟨_, rfl⟩, HB9.out⟩
     · rcases Nat.mod_two_eq_zero_or_one q1 with hq3 | hq3 <;> rcases ex with _ | _
       all_goals first
        | (have HR : Hid (F = if q1 = 0 then 0 else min (q1 + (u + 1 + 1074).toNat * 4503599627370496) 9218868437227405312) := hid (by
            have h := HF.out; unfold nround at h; rw [if_pos hbig, ← hq1] at h; simp only [hq2, hq3, decide_true, decide_false, Bool.not_true, Bool.not_false, Bool.true_and, Bool.false_and, Bool.and_true, Bool.and_false, Bool.or_true, Bool.or_false, Bool.true_or, Bool.false_or, Bool.toNat_true, Bool.toNat_false, Nat.add_zero, Nat.zero_ne_one, Nat.one_ne_zero, reduceCtorEq] at h; exact h)
           have LD := fun w => Ldexp_near (q1) (u + 1) (by omega) (by omega) (by omega) (by omega) w
           rw [← nconv, show (((q1) : Nat) : Int) = (q1 : Int) by omega, ← HR.out] at LD
           clear HR)
        | (have HR : Hid (F = if q1 + 1 = 0 then 0 else min (q1 + 1 + (u + 1 + 1074).toNat * 4503599627370496) 9218868437227405312) := hid (by
            have h := HF.out; unfold nround at h; rw [if_pos hbig, ← hq1] at h; simp only [hq2, hq3, decide_true, decide_false, Bool.not_true, Bool.not_false, Bool.true_and, Bool.false_and, Bool.and_true, Bool.and_false, Bool.or_true, Bool.or_false, Bool.true_or, Bool.false_or, Bool.toNat_true, Bool.toNat_false, Nat.add_zero, Nat.zero_ne_one, Nat.one_ne_zero, reduceCtorEq] at h; exact h)
           have LD := fun w => Ldexp_near (q1 + 1) (u + 1) (by omega) (by omega) (by omega) (by omega) w
           rw [← nconv, show (((q1 + 1) : Nat) : Int) = (q1 : Int) + 1 by omega, ← HR.out] at LD
           clear HR)
       all_goals
        have a1 := and1 q (by omega)
        rw [hq2] at a1; have a2 := and1 q1 (by omega)
        rw [hq3] at a2; clear HF hq1; rcases b with _ | _
        all_goals
         go_wp2_with (first | (go_at_call 179; (with_reducible refine (LD _).mono ?_); rintro e w' ⟨rfl, hw⟩; obtain rfl := hw.symm) | (go_at_call 180; (with_reducible refine (IF.out _).mono ?_); rintro e w' ⟨rfl, hw⟩; obtain rfl := hw.symm) | (go_at_call 180; (with_reducible refine (IG.out _).mono ?_); rintro e w' ⟨rfl, hw⟩; obtain rfl := hw.symm))
         go_ret2
         exact ⟨⟨_, rfl⟩, HB9.out⟩
   · have hbI : decide ((9007199254740992 : Int) ≤ (q : Int)) = false := decide_eq_false (by omega)
     have hM := HM0.out; rcases M0 with _ | _
     · have HR : Hid (F = if q = 0 then 0 else min (q + (u + 1074).toNat * 4503599627370496) 9218868437227405312) := hid (by
        have h := HF.out; unfold nround at h; rw [if_neg hbig, ← hM] at h; simp only [decide_true, decide_false, Bool.not_true, Bool.not_false, Bool.true_and, Bool.false_and, Bool.and_true, Bool.and_false, Bool.or_true, Bool.or_false, Bool.true_or, Bool.false_or, Bool.toNat_true, Bool.toNat_false, Nat.add_zero, Nat.zero_ne_one, Nat.one_ne_zero, reduceCtorEq] at h; exact h)
       have LD := fun w => Ldexp_near (q) (u) (by omega) (by omega) (by omega) (by omega) w
       rw [← nconv, show (((q) : Nat) : Int) = (q : Int) by omega, ← HR.out] at LD
       clear HR; clear HF hM hbig; rcases b with _ | _ <;> rcases ex with _ | _
       all_goals
        go_wp2_with (first | (go_at_call 179; (with_reducible refine (LD _).mono ?_); rintro e w' ⟨rfl, hw⟩; obtain rfl := hw.symm) | (go_at_call 180; (with_reducible refine (IF.out _).mono ?_); rintro e w' ⟨rfl, hw⟩; obtain rfl := hw.symm) | (go_at_call 180; (with_reducible refine (IG.out _).mono ?_); rintro e w' ⟨rfl, hw⟩; obtain rfl := hw.symm))
        go_ret2
        exact ⟨⟨_, rfl⟩, HB9.out⟩
     · have HR : Hid (F = if q + 1 = 0 then 0 else min (q + 1 + (u + 1074).toNat * 4503599627370496) 9218868437227405312) := hid (by
        have h := HF.out; unfold nround at h; rw [if_neg hbig, ← hM] at h; simp only [decide_true, decide_false, Bool.not_true, Bool.not_false, Bool.true_and, Bool.false_and, Bool.and_true, Bool.and_false, Bool.or_true, Bool.or_false, Bool.true_or, Bool.false_or, Bool.toNat_true, Bool.toNat_false, Nat.add_zero, Nat.zero_ne_one, Nat.one_ne_zero, reduceCtorEq] at h; exact h)
       have LD := fun w => Ldexp_near (q + 1) (u) (by omega) (by omega) (by omega) (by omega) w
       rw [← nconv, show (((q + 1) : Nat) : Int) = (q : Int) + 1 by omega, ← HR.out] at LD
       clear HR; clear HF hM hbig; rcases b with _ | _ <;> rcases ex with _ | _
       all_goals
        go_wp2_with (first | (go_at_call 179; (with_reducible refine (LD _).mono ?_); rintro e w' ⟨rfl, hw⟩; obtain rfl := hw.symm) | (go_at_call 180; (with_reducible refine (IF.out _).mono ?_); rintro e w' ⟨rfl, hw⟩; obtain rfl := hw.symm) | (go_at_call 180; (with_reducible refine (IG.out _).mono ?_); rintro e w' ⟨rfl, hw⟩; obtain rfl := hw.symm))
        go_ret2
        exact ⟨⟨_, rfl⟩, HB9.out⟩
theorem bnearCoreP (b : Bool) (aa ad : Option Addr) (la ca ld cd k q r : Nat) (RW LQ L2 LX : List Nat) (blA blD : Nat) (u cc : Int) (ex : Bool) (F lr : Nat) (w : World)
 (q1b : q < 18014398509481984) (hu1 : -1074 ≤ u) (hu2 : u ≤ 549755813888) (hbA : blA ≤ 549755813888) (hbD : blD ≤ 549755813888) (hsg : 0 ≤ u) (hk : u = (k : Int)) (hmax : max ((blA : Int) - blD - 53) (-1074) = u) (hc1 : -1 ≤ cc) (hc2 : cc ≤ 1)
 (BA : Hid (Calls Tryz.prog 176 #[.slice aa la ca] w fun e w' => e = .returned (.int .i64 blA) ∧ w' = w)) (BD : Hid (Calls Tryz.prog 176 #[.slice ad ld cd] w fun e w' => e = .returned (.int .i64 blD) ∧ w' = w))
 (UP : Hid (Calls Tryz.prog 157 #[.slice ad ld cd, .int .i64 k] w fun e w' => ∃ v, e = .returned v ∧ Wd w' v L2 ∧ Below w.heap.size w w'))
 (DV : Hid (∀ v w', Below w.heap.size w w' → Wd w' v L2 → Calls Tryz.prog 177 #[.slice aa la ca, v] w' fun e w'' => ∃ q' ar cr, e = .returned (.tuple #[q', .slice ar lr cr]) ∧ Wd w'' q' LQ ∧ Wd w'' (.slice ar lr cr) RW ∧ Below w'.heap.size w' w''))
 (D0 : Hid (∀ w', Below w.heap.size w w' → True))
 (TU : Hid (∀ v w', Wd w' v LQ → Calls Tryz.prog 178 #[v] w' fun e w'' => e = .returned (.int .u64 q) ∧ w'' = w'))
 (UR : Hid (∀ v w', Wd w' v RW → Calls Tryz.prog 157 #[v, .int .i64 1] w' fun e w'' => ∃ v, e = .returned v ∧ Wd w'' v (words (r * 2)) ∧ Below w'.heap.size w' w''))
 (CM : Hid (∀ v1 v2 w', Wd w' v1 (words (r * 2)) → Wd w' v2 L2 → Calls Tryz.prog 141 #[v1, v2] w' fun e w'' => e = .returned (.int .i64 cc) ∧ Drawn w' w''))
 (e0 : ((la : Int) == 0) = false) (ex0 : ((lr : Int) == 0) = ex)
 (HF : Hid (F = if (nround q ex cc u).1 = 0 then 0 else min ((nround q ex cc u).1 + ((nround q ex cc u).2 + 1074).toNat * 4503599627370496) 9218868437227405312))
 (IF : Hid (∀ w, Calls Tryz.prog 180 #[.float .f64 F, .int .i64 0] w fun e w' => e = .returned (.bool (Ieee.double.order (F % 9223372036854775808) 9218868437227405311 == some .gt)) ∧ w' = w))
 (IG : Hid (∀ w, Calls Tryz.prog 180 #[.float .f64 (Op.negFloat .f64 F), .int .i64 0] w fun e w' => e = .returned (.bool (Ieee.double.order (Op.negFloat .f64 F % 9223372036854775808) 9218868437227405311 == some .gt)) ∧ w' = w))
 (Q2 : u = -1074 ∨ 4503599627370496 ≤ q) :
 Calls Tryz.prog 125 #[.bool b, .slice aa la ca, .slice ad ld cd] w (NearPost b F w) := by
 subst hk; have rn := run_fneg; obtain ⟨M0, hM0⟩ : ∃ M0, M0 = (decide (0 < cc) || (decide (cc = 0) && decide (q % 2 = 1))) := ⟨_, rfl⟩; have HM0 := hid hM0; have HMX := hid hmax; clear hM0 hmax; go_enter Tryz.func125, Tryz.ntmps125; go_upto_region 3 with fail
 go_cut [8] from 20 to 26 (fun s8 wx => s8 = .int .i64 (k : Int) ∧ w = wx)
 case first =>
  go_wp2_with (first | (go_at_call 176; (with_reducible refine BA.out.mono ?_); rintro e w' ⟨rfl, hw⟩; obtain rfl := hw.symm) | (go_at_call 176; (with_reducible refine BD.out.mono ?_); rintro e w' ⟨rfl, hw⟩; obtain rfl := hw.symm))
  all_goals
   go_meet
   have HMY := HMX.out; exact ⟨congrArg (Value.int .i64) (by omega), rfl⟩
 case rest =>
  obtain ⟨rfl, rfl⟩ := hcut; go_upto_region 10 with (first | (go_at_call 157; (with_reducible refine UP.out.mono ?_); rintro e w1 ⟨v1, rfl, h1, hb1⟩) | (go_at_call 177; (with_reducible refine (DV.out _ _ hb1 h1).mono ?_); rintro e w2 ⟨vq, ar, cr, rfl, hq2, hr2, hw2⟩; have hb2 := Below.trans hb1 (below_low hw2 hb1.size); have h12 := h1.below hw2) | (go_at_call 178; (with_reducible refine (TU.out _ _ hq2).mono ?_); rintro e w' ⟨rfl, hw⟩; obtain rfl := hw.symm) | (go_at_call 157; (with_reducible refine (UR.out _ _ hr2).mono ?_); rintro e w3 ⟨v3, rfl, h3, hw3⟩; have hb3 := Below.trans hb2 (below_low hw3 hb2.size); have h13 := h12.below hw3) | (go_at_call 141; (with_reducible refine (CM.out _ _ _ h3 h13).mono ?_); rintro e w9 ⟨rfl, hd9⟩; have hb9 := Below.trans hb3 (below_low hd9.below hb3.size); clear hd9))
  have HB9 := hid hb9; clear hb1 hb2 hb3 hb9 h1 hq2 hr2 hw2 h12 hw3 h3 h13; go_cut [13] from 48 to 58 (fun s13 wx => s13 = .bool M0 ∧ w9 = wx)
  case first =>
   have HM := HM0.out; rcases (show cc = -1 ∨ cc = 0 ∨ cc = 1 by omega) with rfl | rfl | rfl <;> rcases Nat.mod_two_eq_zero_or_one q with hq2 | hq2
   all_goals
    have a1 := and1 q (by omega)
    rw [hq2] at a1 HM; simp only [decide_true, decide_false, Int.lt_irrefl, Bool.or_false, Bool.false_or, Bool.and_false, Bool.and_true, Bool.true_and, Bool.false_and, Nat.zero_ne_one, reduceCtorEq] at HM
    try (rw [show decide ((0 : Int) < -1) = false from rfl] at HM)
    try (rw [show decide ((0 : Int) < 1) = true from rfl] at HM)
    try (rw [show decide ((-1 : Int) = 0) = false from rfl] at HM)
    try simp at HM
    go_wp2_with fail
    go_meet
    exact ⟨by rw [HM], rfl⟩
  case rest =>
   obtain ⟨rfl, rfl⟩ := hcut; by_cases hbig : 9007199254740992 ≤ q
   · obtain ⟨q1, hq1⟩ : ∃ q1, q1 = q / 2 := ⟨_, rfl⟩; have q1e : (q : Int) / 2 = (q1 : Int) := by omega
     have hq1b : 4503599627370496 ≤ q1 := by omega
     have hq1c : q1 < 9007199254740992 := by omega
     have hbI : (9007199254740992 : Int) ≤ (q : Int) := by omega
     rcases Nat.mod_two_eq_zero_or_one q with hq2 | hq2
     · rcases Nat.mod_two_eq_zero_or_one q1 with hq3 | hq3 <;> rcases ex with _ | _
       all_goals
        have HR : Hid (F = if q1 = 0 then 0 else min (q1 + ((k : Int) + 1 + 1074).toNat * 4503599627370496) 9218868437227405312) := hid (by
         have h := HF.out; unfold nround at h; rw [if_pos hbig, ← hq1] at h; simp only [hq2, hq3, decide_true, decide_false, Bool.not_true, Bool.not_false, Bool.true_and, Bool.false_and, Bool.and_true, Bool.and_false, Bool.or_true, Bool.or_false, Bool.true_or, Bool.false_or, Bool.toNat_true, Bool.toNat_false, Nat.add_zero, Nat.zero_ne_one, Nat.one_ne_zero, reduceCtorEq] at h; exact h)
        have LD := fun w => Ldexp_near (q1) ((k : Int) + 1) (by omega) (by omega) (by omega) (by omega) w
        rw [← nconv, show (((q1) : Nat) : Int) = (q1 : Int) by omega, ← HR.out] at LD
        clear HR
       all_goals
        have a1 := and1 q (by omega)
        rw [hq2] at a1; have a2 := and1 q1 (by omega)
        rw [hq3] at a2; clear HF hq1; rcases b with _ | _
        all_goals
         go_wp2_with (first | (go_at_call 179; (with_reducible refine (LD _).mono ?_); rintro e w' ⟨rfl, hw⟩; obtain rfl := hw.symm) | (go_at_call 180; (with_reducible refine (IF.out _).mono ?_); rintro e w' ⟨rfl, hw⟩; obtain rfl := hw.symm) | (go_at_call 180; (with_reducible refine (IG.out _).mono ?_); rintro e w' ⟨rfl, hw⟩; obtain rfl := hw.symm))
         go_ret2
         exact ⟨⟨_, rfl⟩, HB9.out⟩
     · rcases Nat.mod_two_eq_zero_or_one q1 with hq3 | hq3 <;> rcases ex with _ | _
       all_goals first
        | (have HR : Hid (F = if q1 = 0 then 0 else min (q1 + ((k : Int) + 1 + 1074).toNat * 4503599627370496) 9218868437227405312) := hid (by
            have h := HF.out; unfold nround at h; rw [if_pos hbig, ← hq1] at h; simp only [hq2, hq3, decide_true, decide_false, Bool.not_true, Bool.not_false, Bool.true_and, Bool.false_and, Bool.and_true, Bool.and_false, Bool.or_true, Bool.or_false, Bool.true_or, Bool.false_or, Bool.toNat_true, Bool.toNat_false, Nat.add_zero, Nat.zero_ne_one, Nat.one_ne_zero, reduceCtorEq] at h; exact h)
           have LD := fun w => Ldexp_near (q1) ((k : Int) + 1) (by omega) (by omega) (by omega) (by omega) w
           rw [← nconv, show (((q1) : Nat) : Int) = (q1 : Int) by omega, ← HR.out] at LD
           clear HR)
        | (have HR : Hid (F = if q1 + 1 = 0 then 0 else min (q1 + 1 + ((k : Int) + 1 + 1074).toNat * 4503599627370496) 9218868437227405312) := hid (by
            have h := HF.out; unfold nround at h; rw [if_pos hbig, ← hq1] at h; simp only [hq2, hq3, decide_true, decide_false, Bool.not_true, Bool.not_false, Bool.true_and, Bool.false_and, Bool.and_true, Bool.and_false, Bool.or_true, Bool.or_false, Bool.true_or, Bool.false_or, Bool.toNat_true, Bool.toNat_false, Nat.add_zero, Nat.zero_ne_one, Nat.one_ne_zero, reduceCtorEq] at h; exact h)
           have LD := fun w => Ldexp_near (q1 + 1) ((k : Int) + 1) (by omega) (by omega) (by omega) (by omega) w
           rw [← nconv, show (((q1 + 1) : Nat) : Int) = (q1 : Int) + 1 by omega, ← HR.out] at LD
           clear HR)
       all_goals
        have a1 := and1 q (by omega)
        rw [hq2] at a1; have a2 := and1 q1 (by omega)
        rw [hq3] at a2; clear HF hq1; rcases b with _ | _
        all_goals
         go_wp2_with (first | (go_at_call 179; (with_reducible refine (LD _).mono ?_); rintro e w' ⟨rfl, hw⟩; obtain rfl := hw.symm) | (go_at_call 180; (with_reducible refine (IF.out _).mono ?_); rintro e w' ⟨rfl, hw⟩; obtain rfl := hw.symm) | (go_at_call 180; (with_reducible refine (IG.out _).mono ?_); rintro e w' ⟨rfl, hw⟩; obtain rfl := hw.symm))
         go_ret2
         exact ⟨⟨_, rfl⟩, HB9.out⟩
   · have hbI : decide ((9007199254740992 : Int) ≤ (q : Int)) = false := decide_eq_false (by omega)
     have hM := HM0.out; rcases M0 with _ | _
     · have HR : Hid (F = if q = 0 then 0 else min (q + ((k : Int) + 1074).toNat * 4503599627370496) 9218868437227405312) := hid (by
        have h := HF.out; unfold nround at h; rw [if_neg hbig, ← hM] at h; simp only [decide_true, decide_false, Bool.not_true, Bool.not_false, Bool.true_and, Bool.false_and, Bool.and_true, Bool.and_false, Bool.or_true, Bool.or_false, Bool.true_or, Bool.false_or, Bool.toNat_true, Bool.toNat_false, Nat.add_zero, Nat.zero_ne_one, Nat.one_ne_zero, reduceCtorEq] at h; exact h)
       have LD := fun w => Ldexp_near (q) ((k : Int)) (by omega) (by omega) (by omega) (by omega) w
       rw [← nconv, show (((q) : Nat) : Int) = (q : Int) by omega, ← HR.out] at LD
       clear HR; clear HF hM hbig; rcases b with _ | _ <;> rcases ex with _ | _
       all_goals
        go_wp2_with (first | (go_at_call 179; (with_reducible refine (LD _).mono ?_); rintro e w' ⟨rfl, hw⟩; obtain rfl := hw.symm) | (go_at_call 180; (with_reducible refine (IF.out _).mono ?_); rintro e w' ⟨rfl, hw⟩; obtain rfl := hw.symm) | (go_at_call 180; (with_reducible refine (IG.out _).mono ?_); rintro e w' ⟨rfl, hw⟩; obtain rfl := hw.symm))
        go_ret2
        exact ⟨⟨_, rfl⟩, HB9.out⟩
     · have HR : Hid (F = if q + 1 = 0 then 0 else min (q + 1 + ((k : Int) + 1074).toNat * 4503599627370496) 9218868437227405312) := hid (by
        have h := HF.out; unfold nround at h; rw [if_neg hbig, ← hM] at h; simp only [decide_true, decide_false, Bool.not_true, Bool.not_false, Bool.true_and, Bool.false_and, Bool.and_true, Bool.and_false, Bool.or_true, Bool.or_false, Bool.true_or, Bool.false_or, Bool.toNat_true, Bool.toNat_false, Nat.add_zero, Nat.zero_ne_one, Nat.one_ne_zero, reduceCtorEq] at h; exact h)
       have LD := fun w => Ldexp_near (q + 1) ((k : Int)) (by omega) (by omega) (by omega) (by omega) w
       rw [← nconv, show (((q + 1) : Nat) : Int) = (q : Int) + 1 by omega, ← HR.out] at LD
       clear HR; clear HF hM hbig; rcases b with _ | _ <;> rcases ex with _ | _
       all_goals
        go_wp2_with (first | (go_at_call 179; (with_reducible refine (LD _).mono ?_); rintro e w' ⟨rfl, hw⟩; obtain rfl := hw.symm) | (go_at_call 180; (with_reducible refine (IF.out _).mono ?_); rintro e w' ⟨rfl, hw⟩; obtain rfl := hw.symm) | (go_at_call 180; (with_reducible refine (IG.out _).mono ?_); rintro e w' ⟨rfl, hw⟩; obtain rfl := hw.symm))
        go_ret2
        exact ⟨⟨_, rfl⟩, HB9.out⟩
theorem nfin_lt (a d : Nat) : nfin a d ≤ 9218868437227405312 := by
 unfold nfin
 split <;> omega
theorem nfin_eq (a d q r : Nat) (cc u : Int) (hu : u = nunit a d) (hq : q = nA a d / nD a d) (hr : r = nA a d % nD a d) (hcc : cc = cmpN (r * 2) (nD a d)) :
 nfin a d = if (nround q (decide (r = 0)) cc u).1 = 0 then 0 else min ((nround q (decide (r = 0)) cc u).1 + ((nround q (decide (r = 0)) cc u).2 + 1074).toNat * 4503599627370496) 9218868437227405312 := by
 subst hu hq hr hcc; rfl
theorem cmpN_le (m n : Nat) : -1 ≤ cmpN m n ∧ cmpN m n ≤ 1 := by
 unfold cmpN
 split
 · omega
 · split <;> omega
theorem nunit_le (a d : Nat) (la : (words a).length ≤ 17179869184) : -1074 ≤ nunit a d ∧ nunit a d ≤ 549755813888 ∧ bl a ≤ 549755813888 := by
 have := bl_lenW a; unfold nunit; omega
theorem bnear (b : Bool) (va vd : Value) (a d : Nat) (w : World) (ha : Wd w va (words a)) (hd : Wd w vd (words d)) (ha0 : a ≠ 0) (hd0 : d ≠ 0) (la : (words a).length ≤ 17179869184) (ld : (words d).length ≤ 17179869184) :
 Calls Tryz.prog 125 #[.bool b, va, vd] w (NearPost b (nfin a d) w) := by
 obtain ⟨u, hu⟩ : ∃ u, u = nunit a d := ⟨_, rfl⟩; obtain ⟨q, hq⟩ : ∃ q, q = nA a d / nD a d := ⟨_, rfl⟩; obtain ⟨r, hr⟩ : ∃ r, r = nA a d % nD a d := ⟨_, rfl⟩; obtain ⟨cc, hcc⟩ : ∃ cc, cc = cmpN (r * 2) (nD a d) := ⟨_, rfl⟩; obtain ⟨F, hF⟩ : ∃ F, F = nfin a d := ⟨_, rfl⟩; have HFE := hF.trans (nfin_eq a d q r cc u hu hq hr hcc); have FB : F ≤ 9218868437227405312 := by rw [hF]; exact nfin_lt a d
 rw [← hF]; clear hF; have q1b := nq_lt ha0 hd0; have q2 := fun h => nq_ge ha0 hd0 h
 rw [← hq] at q1b q2; rw [← hu] at q2
 have Q2 : u = -1074 ∨ 4503599627370496 ≤ q := by
  by_cases h : u = -1074
  · exact .inl h
  · exact .inr (q2 h)
 have hub := nunit_le a d la; rw [← hu] at hub; have hbD : bl d ≤ 549755813888 := (nunit_le d a ld).2.2; have hmax : max ((bl a : Int) - bl d - 53) (-1074) = u := by rw [hu]; rfl
 have hcb := cmpN_le (r * 2) (nD a d); rw [← hcc] at hcb; have lr2 := len_shift r 1; rw [Nat.pow_one] at lr2; have lq : (words q).length ≤ 1099511627776 := by have := words_len_le (n := q) (k := 2) (by omega); omega
 have ex0 : (((words r).length : Int) == 0) = decide (r = 0) := by
  rw [Bool.eq_iff_iff, beq_iff_eq, decide_eq_true_iff]; have := words_len0 (n := r); omega
 have hD0 := nD_pos (a := a) hd0; have hrD : r < nD a d := by rw [hr]; exact Nat.mod_lt _ hD0
 have hrl := len_mono (Nat.le_of_lt hrD)
 have e0 : (((words a).length : Int) == 0) = false := beq_eq_false_iff_ne.2 (by
  have := words_len0 (n := a)
  omega)
 have lD : (words (nD a d)).length ≤ 34359738369 := by
  unfold nD; rw [← hu]; have := len_shift d u.toNat; omega
 clear q2; obtain ⟨aa, ca, rfl, -, -⟩ := ha.form; obtain ⟨ad, cd, rfl, -, -⟩ := hd.form; rcases Int.lt_or_le u 0 with hun | hup
 · skip
   obtain ⟨k, hk⟩ : ∃ k, k = (-u).toNat := ⟨_, rfl⟩; have hk2 : -u = (k : Int) := by omega
   have EA : nA a d = a * 2 ^ k := by unfold nA; rw [← hu, ← hk]
   have ED : nD a d = d := by unfold nD; rw [← hu, show u.toNat = 0 by omega, Nat.pow_zero, Nat.mul_one]
   rw [EA, ED] at hq hr; rw [ED] at hcc hD0; have kb : k ≤ 549755813888 := by omega
   have kb2 : k ≤ 1074 := by omega
   have lU := len_shift a k; have lU2 : (words (a * 2 ^ k)).length ≤ 34359738369 := by omega
   clear EA ED hk lU; refine bnearCoreN b aa ad (words a).length ca (words d).length cd k q r (words r) (words q) (words (a * 2 ^ k)) (words d) (bl a) (bl d) u cc (decide (r = 0)) F (words r).length w q1b hub.1 hub.2.1 hub.2.2 hbD (by omega) hk2 hmax hcb.1 hcb.2 (hid (bbitLen _ a w ha (by omega))) (hid (bbitLen _ d w hd (by omega))) (hid ?_) (hid ?_) (hid ?_) (hid ?_) (hid ?_) (hid ?_) e0 ex0 (hid HFE) (hid (isinf_any F (by omega))) (hid (isinf_any _ (neg_lt F (by omega)))) Q2
   · refine (bup _ a k w ha (by omega) (by omega)).mono ?_
     rintro e w' ⟨v, rfl, h1, -, h2⟩; exact ⟨v, rfl, h1, h2⟩
   · intro v w' h h1; refine (bdiv v _ (a * 2 ^ k) d w' h1 (hd.below h) (by omega) (by omega) hd0).mono ?_
     rintro e w'' ⟨q', r', rfl, g1, g2, -, -, g3⟩; rw [← hq] at g1; rw [← hr] at g2; obtain ⟨ar, cr, rfl, -, -⟩ := g2.form; exact ⟨q', ar, cr, rfl, g1, g2, g3⟩
   · intro w' h; exact hd.below h
   · intro v w' h; refine (btoUint v q w' h lq).mono ?_
     rintro e w'' ⟨rfl, rfl⟩; rw [Nat.mod_eq_of_lt (by omega)]
     exact ⟨rfl, rfl⟩
   · intro v w' h; refine (bup v r 1 w' h (by omega) (by omega)).mono ?_
     rintro e w'' ⟨v', rfl, h1, -, h2⟩; rw [Nat.pow_one] at h1; exact ⟨v', rfl, h1, h2⟩
   · intro v1 v2 w' h1 h2; rw [hcc]; exact bcmp v1 v2 (r * 2) (d) w' h1 h2 (by omega) (by omega)
 · skip
   obtain ⟨k, hk⟩ : ∃ k, k = (u).toNat := ⟨_, rfl⟩; have hk2 : u = (k : Int) := by omega
   have EA : nA a d = a := by unfold nA; rw [← hu, show (-u).toNat = 0 by omega, Nat.pow_zero, Nat.mul_one]
   have ED : nD a d = d * 2 ^ k := by unfold nD; rw [← hu, ← hk]
   rw [EA, ED] at hq hr; rw [ED] at hcc hD0; have kb : k ≤ 549755813888 := by omega
   have kb2 : k ≤ 549755813888 := by omega
   have lU := len_shift d k; have lU2 : (words (d * 2 ^ k)).length ≤ 34359738369 := by omega
   clear EA ED hk lU; refine bnearCoreP b aa ad (words a).length ca (words d).length cd k q r (words r) (words q) (words (d * 2 ^ k)) (words a) (bl a) (bl d) u cc (decide (r = 0)) F (words r).length w q1b hub.1 hub.2.1 hub.2.2 hbD (by omega) hk2 hmax hcb.1 hcb.2 (hid (bbitLen _ a w ha (by omega))) (hid (bbitLen _ d w hd (by omega))) (hid ?_) (hid ?_) (hid ?_) (hid ?_) (hid ?_) (hid ?_) e0 ex0 (hid HFE) (hid (isinf_any F (by omega))) (hid (isinf_any _ (neg_lt F (by omega)))) Q2
   · refine (bup _ d k w hd (by omega) (by omega)).mono ?_
     rintro e w' ⟨v, rfl, h1, -, h2⟩; exact ⟨v, rfl, h1, h2⟩
   · intro v w' h h1; refine (bdiv _ v a (d * 2 ^ k) w' (ha.below h) h1 (by omega) (by omega) (by omega)).mono ?_
     rintro e w'' ⟨q', r', rfl, g1, g2, -, -, g3⟩; rw [← hq] at g1; rw [← hr] at g2; obtain ⟨ar, cr, rfl, -, -⟩ := g2.form; exact ⟨q', ar, cr, rfl, g1, g2, g3⟩
   · intro w' h; exact trivial
   · intro v w' h; refine (btoUint v q w' h lq).mono ?_
     rintro e w'' ⟨rfl, rfl⟩; rw [Nat.mod_eq_of_lt (by omega)]
     exact ⟨rfl, rfl⟩
   · intro v w' h; refine (bup v r 1 w' h (by omega) (by omega)).mono ?_
     rintro e w'' ⟨v', rfl, h1, -, h2⟩; rw [Nat.pow_one] at h1; exact ⟨v', rfl, h1, h2⟩
   · intro v1 v2 w' h1 h2; rw [hcc]; exact bcmp v1 v2 (r * 2) (d * 2 ^ k) w' h1 h2 (by omega) (by omega)
theorem bnear0 (va vd : Value) (w : World) (ha : Wd w va (words 0)) :
 Calls Tryz.prog 125 #[.bool false, va, vd] w (NearPost false 0 w) := by
 obtain ⟨aa, ca, rfl, -, -⟩ := ha.form; rw [show (words 0).length = 0 by rw [words_0]; rfl]
 clear ha; go_enter Tryz.func125, Tryz.ntmps125; go_wp2_with fail
 go_ret2
 exact ⟨⟨_, rfl⟩, Below.refl _ _⟩
theorem brfloat (gx : Nat) (x : _root_.Rat) (w : World) (hx : Ra 88 w gx x) (lx : (words x.num.natAbs).length ≤ 17179869184) (mx : (words x.den).length ≤ 17179869184) :
 Calls Tryz.prog 76 #[.pointer (some ⟨gx, 0, none⟩)] w (NearPost (decide (x.num < 0)) (if x.num = 0 then 0 else nfin x.num.natAbs x.den) w) := by
 obtain ⟨vx, dx, bx, wx, ex⟩ := hx; have B1 := hid (fun w' (h : Below w.heap.size w w') => bbelow gx _ vx dx x.den w' (bx.below h) (ex.below h) x.den_nz)
 have NE : Hid (∀ v w', Below w.heap.size w w' → Wd w' v (words x.den) → Calls Tryz.prog 125 #[.bool (decide (x.num < 0)), vx, v] w' (NearPost (decide (x.num < 0)) (if x.num = 0 then 0 else nfin x.num.natAbs x.den) w')) := hid (by
  intro v w' h hv; by_cases h0 : x.num = 0
  · rw [if_pos h0, decide_eq_false (by omega)]
    exact bnear0 vx v w' (by have := wx.below h; rw [h0] at this; exact this)
  · rw [if_neg h0]; exact bnear _ vx v x.num.natAbs x.den w' (wx.below h) hv (by omega) x.den_nz lx mx)
 obtain ⟨ax, cx, rfl, -, -⟩ := wx.form; have BX := hid bx; have x0 := bx.cell (i := 0) rfl; have x1 := bx.cell (i := 1) rfl; haveI : Has w gx := ⟨bx.lt⟩; generalize (if x.num = 0 then 0 else nfin x.num.natAbs x.den) = F at *
 generalize decide (x.num < 0) = nx at *; unfold NearPost at NE ⊢; generalize (if nx = true then Op.negFloat .f64 F else F) = V at *
 clear bx wx ex lx mx; go_enter Tryz.func76, Tryz.ntmps76; go_wp2_with fail
 go_region_held3 (fun W => W.cell? ⟨gx, 0, none⟩ = some (.bool nx) ∧ W.cell? ⟨gx, 1, none⟩ = some (.slice ax (words x.num.natAbs).length cx)) (refine ⟨?_, ?_⟩ <;> (first | assumption | (simp [go_sem, *]; done))) (first | (go_at_call 126; (with_reducible refine (B1.out _ ?_).mono ?_); (focus (exact Below.drew (Below.refl _ _))); rintro e w1 ⟨v1, rfl, h1, q1⟩; have b1 := Below.trans (Below.drew (Below.refl w.heap.size w)) q1; have x01 := (BX.out.below b1).cell (i := 0) rfl; have x11 := (BX.out.below b1).cell (i := 1) rfl) | (go_at_call 125; (with_reducible refine (NE.out _ _ b1 h1).mono ?_); rintro e w2 ⟨⟨xb, rfl⟩, q2⟩; have b2 := Below.trans b1 (below_low q2 b1.size); have x02 := (BX.out.below b2).cell (i := 0) rfl; have x12 := (BX.out.below b2).cell (i := 1) rfl))
 go_wp2_with fail
 go_ret2
 exact ⟨⟨_, rfl⟩, b2⟩
def dval (l : List UInt8) : Nat := l.foldl (fun v c => 10 * v + (c.toNat - 48)) 0
def isdig (l : List UInt8) : Prop := ∀ c ∈ l, 48 ≤ c.toNat ∧ c.toNat ≤ 57
def figs (n : Nat) : List UInt8 := if h : n = 0 then [] else figs (n / 10) ++ [UInt8.ofNat (48 + n % 10)]
termination_by n
decreasing_by exact Nat.div_lt_self (Nat.pos_of_ne_zero h) (by decide)
theorem figs_0 : figs 0 = [] := by rw [figs]; rfl
theorem figs_pos {n : Nat} (h : n ≠ 0) : figs n = figs (n / 10) ++ [UInt8.ofNat (48 + n % 10)] := by rw [figs, dif_neg h]
theorem dval_snoc (l : List UInt8) (c : UInt8) : dval (l ++ [c]) = 10 * dval l + (c.toNat - 48) := by simp [dval]
theorem dval_foldl (l : List UInt8) (v : Nat) : l.foldl (fun v c => 10 * v + (c.toNat - 48)) v = 10 ^ l.length * v + dval l := by
 induction l generalizing v with
 | nil => simp [dval]
 | cons c l ih =>
   simp only [List.foldl_cons, List.length_cons, dval]; rw [ih, ih (10 * 0 + (c.toNat - 48))]; rw [Nat.pow_succ, Nat.mul_add, Nat.mul_add, Nat.mul_assoc]; omega
theorem dval_append (a b : List UInt8) : dval (a ++ b) = 10 ^ b.length * dval a + dval b := by
 rw [dval, List.foldl_append, dval_foldl]; rfl
theorem figs_len {n k : Nat} : n < 10 ^ k ↔ (figs n).length ≤ k := by
 induction k generalizing n with
 | zero =>
   by_cases h : n = 0
   · subst h; simp [figs_0]
   · rw [figs_pos h]; simp; omega
 | succ k ih =>
   by_cases h : n = 0
   · subst h; simp [figs_0, Nat.pow_pos]
   · rw [figs_pos h, List.length_append, List.length_singleton, Nat.add_le_add_iff_right, ← ih, Nat.pow_succ, Nat.div_lt_iff_lt_mul (by decide)]
def padf (k n : Nat) : List UInt8 := List.replicate (k - (figs n).length) 48 ++ figs n
theorem figs_split (n k : Nat) (h : n / 10 ^ k ≠ 0) : figs n = figs (n / 10 ^ k) ++ padf k (n % 10 ^ k) := by
 induction k generalizing n with
 | zero => rw [Nat.pow_zero, Nat.div_one, Nat.mod_one]; simp [padf, figs_0]
 | succ k ih =>
   have hn : n ≠ 0 := fun e => h (by rw [e]; exact Nat.zero_div _)
   have e1 : n / 10 / 10 ^ k = n / 10 ^ (k + 1) := by rw [Nat.div_div_eq_div_mul, Nat.pow_succ, Nat.mul_comm]
   have h2 : n / 10 / 10 ^ k ≠ 0 := by rw [e1]; exact h
   have i := ih (n / 10) h2; rw [figs_pos hn, i, e1, List.append_assoc]
   congr 1
   have e2 : n % 10 ^ (k + 1) = 10 * (n / 10 % 10 ^ k) + n % 10 := by
    rw [Nat.pow_succ, Nat.mul_comm, Nat.mod_mul, Nat.add_comm]
   have e3 : n % 10 ^ (k + 1) / 10 = n / 10 % 10 ^ k := by omega
   have e4 : n % 10 ^ (k + 1) % 10 = n % 10 := by omega
   have hlt : n / 10 % 10 ^ k < 10 ^ k := Nat.mod_lt _ (Nat.pow_pos (by decide))
   have hl := figs_len.1 hlt; generalize n / 10 % 10 ^ k = q at *; generalize n % 10 ^ (k + 1) = p at *; unfold padf; by_cases hp : p = 0
   · subst hp; obtain rfl : q = 0 := by omega
     have : n % 10 = 0 := by omega
     rw [this, figs_0, List.append_nil, List.append_nil]; simp only [List.length_nil, Nat.sub_zero]; rw [show k + 1 = k + 1 from rfl, List.replicate_succ']
     rfl
   · rw [figs_pos hp, e3, e4, List.length_append, List.length_singleton, Nat.add_sub_add_right, List.append_assoc]
theorem padf_len (k n : Nat) (h : n < 10 ^ k) : (padf k n).length = k := by
 have := figs_len.1 h; unfold padf; rw [List.length_append, List.length_replicate]; omega
theorem padf_split (L k n : Nat) (h : n / 10 ^ k ≠ 0) : padf L n = padf (L - k) (n / 10 ^ k) ++ padf k (n % 10 ^ k) := by
 have e := figs_split n k h; have hl : (padf k (n % 10 ^ k)).length = k := padf_len k _ (Nat.mod_lt _ (Nat.pow_pos (by decide)))
 rw [padf, e, List.length_append, hl, padf, ← List.append_assoc]
 congr 3
 omega
theorem figs_dval {l : List UInt8} (h : isdig l) (h0 : ∀ c, l.head? = some c → c ≠ 48) : figs (dval l) = l := by
 induction hn : l.length generalizing l with
 | zero =>
   rw [List.length_eq_zero_iff.1 hn]; exact figs_0
 | succ n ih =>
   have hne : l ≠ [] := fun e => by rw [e] at hn; simp at hn
   obtain ⟨m, c, rfl⟩ : ∃ m c, l = m ++ [c] := ⟨l.dropLast, l.getLast hne, (List.dropLast_concat_getLast hne).symm⟩; have hm : isdig m := fun c hc => h c (List.mem_append_left _ hc)
   have hm0 : ∀ c, m.head? = some c → c ≠ 48 := fun d hd => h0 d (by
    cases m with
    | nil => cases hd
    | cons a m => exact hd)
   have i := ih hm hm0 (by simp at hn; omega)
   have hc := h c (by simp)
   rw [dval_snoc]
   have hpos : 10 * dval m + (c.toNat - 48) ≠ 0 := by
    cases m with
    | nil =>
      have h2 := h0 c rfl; have h3 : c.toNat ≠ 48 := fun e => h2 (by rw [← UInt8.toNat_inj]; exact e)
      omega
    | cons a m =>
      have h3 : dval (a :: m) ≠ 0 := by
       intro e; rw [e, figs_0] at i; cases i
      omega
   rw [figs_pos hpos, show (10 * dval m + (c.toNat - 48)) / 10 = dval m by omega, show (10 * dval m + (c.toNat - 48)) % 10 = c.toNat - 48 by omega, i]
   congr 2
   rw [← UInt8.toNat_inj, UInt8.toNat_ofNat']; omega
theorem dval_lt {l : List UInt8} (h : isdig l) : dval l < 10 ^ l.length := by
 induction hn : l.length generalizing l with
 | zero => rw [List.length_eq_zero_iff.1 hn]; decide
 | succ n ih =>
   have hne : l ≠ [] := fun e => by rw [e] at hn; simp at hn
   obtain ⟨m, c, rfl⟩ : ∃ m c, l = m ++ [c] := ⟨l.dropLast, l.getLast hne, (List.dropLast_concat_getLast hne).symm⟩; have i := ih (l := m) (fun c hc => h c (List.mem_append_left _ hc)) (by simp at hn; omega)
   have hc := h c (by simp)
   rw [dval_snoc, Nat.pow_succ]; omega
theorem dval_take_le (l : List UInt8) (k : Nat) : dval (l.take k) ≤ dval l := by
 conv => rhs; rw [← List.take_append_drop k l, dval_append]
 have : 1 ≤ 10 ^ (l.drop k).length := Nat.pow_pos (by decide)
 have := Nat.mul_le_mul_right (dval (l.take k)) this; omega
theorem dec_len {n k : Nat} (h : n < 10 ^ k) : (words n).length ≤ k := by
 refine words_len_le (Nat.lt_of_lt_of_le h ?_)
 exact Nat.pow_le_pow_left (by decide) k
theorem take_snoc_d (l : List UInt8) (k : Nat) (h : k < l.length) : dval (l.take (k + 1)) = 10 * dval (l.take k) + (l[k].toNat - 48) := by
 rw [List.take_succ_eq_append_getElem h, dval_snoc]
def RdI (w : World) (a : Nat) (l : List UInt8) (sz : Nat) (v : Value) (j m t c : Nat) (wr : World) : Prop :=
 Below w.heap.size w wr ∧ Wd wr v (words m) ∧ dval (l.take (j - a)) = m * t + c ∧ (j = sz → t = 1 ∧ c = 0) ∧ m ≤ dval l
theorem byte_at (s : ByteArray) (p l : List UInt8) (h : s.data.toList = p ++ l) (k : Nat) (hk : k < l.length) (hj : p.length + k < s.size) : s[p.length + k] = l[k] := by
 show s.data[p.length + k]'hj = l[k]
 rw [← Array.getElem_toList]; simp only [h]; rw [List.getElem_append_right (by omega)]
 congr 1
 omega
theorem bytes_len (s : ByteArray) (L : List UInt8) (h : s.data.toList = L) : s.size = L.length := by
 rw [← h]; simp
theorem eworth (n d : Nat) (h : n = d + 48) (hd : d ≤ 9) (w : World) : Calls Tryz.prog 207 #[.int .u8 n] w fun e w' => e = .returned (.int .u32 d) ∧ w' = w := by
 have h1 : (48 : Int) ≤ (n : Int) := by omega
 have h2 : (n : Int) ≤ 57 := by omega
 have h3 : (n : Int) - 48 = (d : Int) := by omega
 have hd2 : (d : Int) ≤ 9 := by omega
 clear h hd; go_enter Tryz.func207, Tryz.ntmps207; go_wp2_with fail
 go_ret
 exact ⟨rfl, rfl⟩
theorem bworth (n d : Nat) (h : n = d + 48) (hd : d ≤ 9) (w : World) : Calls Tryz.prog 243 #[.int .u8 n] w fun e w' => e = .returned (.int .u32 d) ∧ w' = w := by
 have h1 : (48 : Int) ≤ (n : Int) := by omega
 have h2 : (n : Int) ≤ 57 := by omega
 have h3 : (n : Int) - 48 = (d : Int) := by omega
 have hd2 : (d : Int) ≤ 9 := by omega
 clear h hd; go_enter Tryz.func243, Tryz.ntmps243; go_wp2_with fail
 go_ret
 exact ⟨rfl, rfl⟩
theorem esetstrN (gz : Nat) (z0 z1 : Value) (s : ByteArray) (l : List UInt8) (w : World) (hz : Bk w gz [z0, z1] 123) (hs : s.data.toList = ([45] : List UInt8) ++ l) (hl : isdig l) (hne : l ≠ []) (hle : l.length ≤ 1073741824) :
 Calls Tryz.prog 153 #[.pointer (some ⟨gz, 0, none⟩), .string s, .int .i64 10] w fun e w' => e = .returned (.tuple #[.pointer (some ⟨gz, 0, none⟩), .bool true]) ∧ In 123 w' gz (sg true (dval l)) ∧ Keeps w.heap.size [gz] w w' := by
 have hsz : s.size = 1 + l.length := by rw [bytes_len s _ hs]; simp ; omega
 have hpos : 0 < l.length := List.length_pos_iff.2 hne; have h0s : 0 < s.size := by omega
 have hc0 : (s[0]'h0s).toNat = 45 := by
  have : s[0]'h0s = 45 := by
   show s.data[0]'h0s = 45
   rw [← Array.getElem_toList]; simp only [hs]; rfl
  rw [this]; rfl
 have e1 : ((1 : Int) == (s.size : Int)) = false := beq_eq_false_iff_ne.2 (by omega)
 have HL := hid hl; have HS := hid hs; have HD : Hid (dval l < 10 ^ l.length) := hid (dval_lt hl); have SI := hid (fun v w' (h : Below w.heap.size w w') (q : Wd w' v (words (dval l))) => eisetI gz z0 z1 true v (dval l) w' (hz.below h) q (by have := dec_len (dval_lt hl); omega) (sg true (dval l)) rfl)
 have hsz2 : s.size ≤ 1073741825 := by omega
 have HSZ := hid hsz; clear hl hs hne hz hsz; go_enter Tryz.func153, Tryz.ntmps153; go_wp2_with fail
 go_loopw [10, 11, 12, 13] (fun s10 s11 s12 s13 wr => ∃ j m t c : Nat, s11 = .int .u32 t ∧ s12 = .int .u32 c ∧ s13 = .int .i64 j ∧ 1 ≤ j ∧ j ≤ s.size ∧ 1 ≤ t ∧ t < 67108864 ∧ c < t ∧ Hid (RdI w 1 l s.size s10 j m t c wr)) (fun _ _ _ s13 _ => s.size - (intOf s13).toNat)
 case atStart => exact ⟨1, 0, 1, 0, rfl, rfl, rfl, by omega, by omega, by omega, by omega, by omega, hid ⟨Below.refl _ _, by rw [words_0]; exact Wd.nil _, by simp [dval], by omega, by omega⟩⟩
 case round =>
  obtain ⟨j, m, t, c, rfl, rfl, rfl, hj1, hj2, ht1, ht2, hct, hR⟩ := hrel; by_cases hlt : j < s.size
  · obtain ⟨k, hk⟩ : ∃ k, k = j - 1 := ⟨_, rfl⟩; have hkl : k < l.length := by have := HSZ.out; omega
    obtain ⟨n, hn⟩ : ∃ n, n = (s[j]'hlt).toNat := ⟨_, rfl⟩
    have hnl : n = l[k].toNat := by
     have hb := byte_at s ([45] : List UInt8) l HS.out k hkl (by show 1 + k < _; omega)
     have hjk : j = ([45] : List UInt8).length + k := by show j = 1 + k; omega
     rw [hn]
     congr 1
     rw [← hb]
     congr 1
    have hn2 := HL.out _ (List.getElem_mem hkl); rw [← hnl] at hn2; obtain ⟨dd, hdd⟩ : ∃ dd, n = dd + 48 := ⟨n - 48, by omega⟩
    have hd9 : dd ≤ 9 := by omega
    have hcn := hn.symm
    have ST : Hid (dval (l.take (j + 1 - 1)) = (m * t + c) * 10 + dd) := hid (by
     rw [show j + 1 - 1 = k + 1 by omega, take_snoc_d l k hkl, ← hnl, hk, hR.out.2.2.1, hdd]
     omega)
    have hm2 : (words m).length ≤ 549755813888 := by
     have h1 := len_mono hR.out.2.2.2.2; have h2 := dec_len HD.out; omega
    have MS := emulSmall _ m (t * 10) (c * 10 + dd) wr hR.out.2.1 hm2 (by omega) (by omega) (by omega)
    rw [show ((t * 10 : Nat) : Int) = (t : Int) * 10 by omega, show ((c * 10 + dd : Nat) : Int) = (c : Int) * 10 + dd by omega] at MS
    have NX : Hid (∀ v wn, Below wr.heap.size wr wn → Wd wn v (words (m * (t * 10) + (c * 10 + dd))) → RdI w 1 l s.size v (j + 1) (m * (t * 10) + (c * 10 + dd)) 1 0 wn) := hid (by
     intro v wn h1 h2; have e : (m * t + c) * 10 + dd = m * (t * 10) + (c * 10 + dd) := by rw [Nat.add_mul, Nat.mul_assoc]; omega
     have hd := ST.out; rw [e] at hd; refine ⟨hR.out.1.trans (below_low h1 hR.out.1.size), h2, by rw [hd]; omega, fun _ => ⟨rfl, rfl⟩, ?_⟩
     rw [← hd]; exact dval_take_le _ _)
    have NS : Hid (∀ v, j + 1 ≠ s.size → RdI w 1 l s.size v j m t c wr → RdI w 1 l s.size v (j + 1) m (t * 10) (c * 10 + dd) wr) := hid (by
     intro v h1 h2; have e : (m * t + c) * 10 + dd = m * (t * 10) + (c * 10 + dd) := by rw [Nat.add_mul, Nat.mul_assoc]; omega
     have hd := ST.out; rw [e] at hd; exact ⟨h2.1, h2.2.1, hd, fun h => absurd h h1, h2.2.2.2.2⟩)
    have hltI : (j : Int) < (s.size : Int) := by omega
    have HDD := hid hdd; clear hn hnl hk hn2 hm2 ST hdd; by_cases hbig : 67108864 ≤ t * 10
    · have hbI : (67108864 : Int) ≤ (t : Int) * 10 := by omega
      go_wp2_with (first | (go_at_call 207; (with_reducible refine (eworth n dd HDD.out hd9 _).mono ?_); rintro e w' ⟨rfl, hw⟩; obtain rfl := hw.symm) | (go_at_call 208; (with_reducible refine MS.mono ?_); rintro e wn ⟨vn, rfl, hvn, -, hbn⟩))
      go_roundw
      case rel => exact ⟨j + 1, _, 1, 0, rfl, rfl, by go_num, by omega, by omega, by omega, by omega, by omega, hid (NX.out _ _ hbn hvn)⟩
      case measure => simp [intOf]; omega
    · have hbI : decide ((67108864 : Int) ≤ (t : Int) * 10) = false := decide_eq_false (by omega)
      have hb2 : t * 10 < 67108864 := by omega
      by_cases hlast : j + 1 = s.size
      · have hlI : ((j : Int) == (s.size : Int) - 1) = true := beq_iff_eq.2 (by omega)
        have hl2 : j + 1 ≤ s.size := by omega
        clear NS hb2 hbig hlast; go_wp2_with (first | (go_at_call 207; (with_reducible refine (eworth n dd HDD.out hd9 _).mono ?_); rintro e w' ⟨rfl, hw⟩; obtain rfl := hw.symm) | (go_at_call 208; (with_reducible refine MS.mono ?_); rintro e wn ⟨vn, rfl, hvn, -, hbn⟩))
        go_roundw
        case rel => exact ⟨j + 1, _, 1, 0, rfl, rfl, by go_num, by omega, by omega, by omega, by omega, by omega, hid (NX.out _ _ hbn hvn)⟩
        case measure => simp [intOf]; omega
      · have hlI : ((j : Int) == (s.size : Int) - 1) = false := beq_eq_false_iff_ne.2 (by omega)
        have hlI2 : (j : Int) + 1 ≠ (s.size : Int) := by omega
        have RR := hid (NS.out _ hlast hR.out); have HB2 := hid hb2; clear NX MS hbig hb2 hlast; go_wp2_with (go_at_call 207; (with_reducible refine (eworth n dd HDD.out hd9 _).mono ?_); rintro e w' ⟨rfl, hw⟩; obtain rfl := hw.symm)
        have hb3 := HB2.out; go_roundw
        case rel => exact ⟨j + 1, m, t * 10, c * 10 + dd, by go_num, by go_num, by go_num, by omega, by omega, by omega, hb3, by omega, RR⟩
        case measure => simp [intOf]; omega
  · obtain rfl : j = s.size := by omega
    obtain ⟨r1, r2, r3, r4, r5⟩ := hR.out; obtain ⟨rfl, rfl⟩ := r4 rfl
    have hm : m = dval l := by
     rw [show s.size - 1 = l.length by have := HSZ.out; omega, List.take_length] at r3
     omega
    rw [hm] at r2; clear r3 r4 r5 hm hR; go_wp2_with (go_at_call 201; (with_reducible refine (SI.out _ _ r1 r2).mono ?_); rintro e w3 ⟨rfl, hI3, hk3⟩)
    go_ret2
    exact ⟨rfl, hI3, (Keeps.of_below r1).trans (hk3.mono r1.size (fun _ _ h => h))⟩
theorem esetstrP (gz : Nat) (z0 z1 : Value) (s : ByteArray) (l : List UInt8) (w : World) (hz : Bk w gz [z0, z1] 123) (hs : s.data.toList = ([] : List UInt8) ++ l) (hl : isdig l) (hne : l ≠ []) (hle : l.length ≤ 1073741824) :
 Calls Tryz.prog 153 #[.pointer (some ⟨gz, 0, none⟩), .string s, .int .i64 10] w fun e w' => e = .returned (.tuple #[.pointer (some ⟨gz, 0, none⟩), .bool true]) ∧ In 123 w' gz (sg false (dval l)) ∧ Keeps w.heap.size [gz] w w' := by
 have hsz : s.size = 0 + l.length := by rw [bytes_len s _ hs]; simp
 have hpos : 0 < l.length := List.length_pos_iff.2 hne; have h0s : 0 < s.size := by omega
 obtain ⟨n0, hn0⟩ : ∃ n0, n0 = (s[0]'h0s).toNat := ⟨_, rfl⟩; have hc0 := hn0.symm
 have hn1 : 48 ≤ n0 ∧ n0 ≤ 57 := by
  have hb := byte_at s [] l hs 0 hpos (by simp; omega)
  have hb2 : s[0]'h0s = l[0] := hb; rw [hn0, hb2]; exact hl _ (List.getElem_mem _)
 have e2 : ((n0 : Int) == 45) = false := beq_eq_false_iff_ne.2 (by omega)
 have e3 : ((n0 : Int) == 43) = false := beq_eq_false_iff_ne.2 (by omega)
 have e1 : ((0 : Int) == (s.size : Int)) = false := beq_eq_false_iff_ne.2 (by omega)
 clear hn0 hn1; have HL := hid hl; have HS := hid hs; have HD : Hid (dval l < 10 ^ l.length) := hid (dval_lt hl); have SI := hid (fun v w' (h : Below w.heap.size w w') (q : Wd w' v (words (dval l))) => eisetI gz z0 z1 false v (dval l) w' (hz.below h) q (by have := dec_len (dval_lt hl); omega) (sg false (dval l)) rfl)
 have hsz2 : s.size ≤ 1073741825 := by omega
 have HSZ := hid hsz; clear hl hs hne hz hsz; go_enter Tryz.func153, Tryz.ntmps153; go_wp2_with fail
 go_loopw [10, 11, 12, 13] (fun s10 s11 s12 s13 wr => ∃ j m t c : Nat, s11 = .int .u32 t ∧ s12 = .int .u32 c ∧ s13 = .int .i64 j ∧ 0 ≤ j ∧ j ≤ s.size ∧ 1 ≤ t ∧ t < 67108864 ∧ c < t ∧ Hid (RdI w 0 l s.size s10 j m t c wr)) (fun _ _ _ s13 _ => s.size - (intOf s13).toNat)
 case atStart => exact ⟨0, 0, 1, 0, rfl, rfl, rfl, by omega, by omega, by omega, by omega, by omega, hid ⟨Below.refl _ _, by rw [words_0]; exact Wd.nil _, by simp [dval], by omega, by omega⟩⟩
 case round =>
  obtain ⟨j, m, t, c, rfl, rfl, rfl, hj1, hj2, ht1, ht2, hct, hR⟩ := hrel; by_cases hlt : j < s.size
  · obtain ⟨k, hk⟩ : ∃ k, k = j - 0 := ⟨_, rfl⟩; have hkl : k < l.length := by have := HSZ.out; omega
    obtain ⟨n, hn⟩ : ∃ n, n = (s[j]'hlt).toNat := ⟨_, rfl⟩
    have hnl : n = l[k].toNat := by
     have hb := byte_at s ([] : List UInt8) l HS.out k hkl (by show 0 + k < _; omega)
     have hjk : j = ([] : List UInt8).length + k := by show j = 0 + k; omega
     rw [hn]
     congr 1
     rw [← hb]
     congr 1
    have hn2 := HL.out _ (List.getElem_mem hkl); rw [← hnl] at hn2; obtain ⟨dd, hdd⟩ : ∃ dd, n = dd + 48 := ⟨n - 48, by omega⟩
    have hd9 : dd ≤ 9 := by omega
    have hcn := hn.symm
    have ST : Hid (dval (l.take (j + 1 - 0)) = (m * t + c) * 10 + dd) := hid (by
     rw [show j + 1 - 0 = k + 1 by omega, take_snoc_d l k hkl, ← hnl, hk, hR.out.2.2.1, hdd]
     omega)
    have hm2 : (words m).length ≤ 549755813888 := by
     have h1 := len_mono hR.out.2.2.2.2; have h2 := dec_len HD.out; omega
    have MS := emulSmall _ m (t * 10) (c * 10 + dd) wr hR.out.2.1 hm2 (by omega) (by omega) (by omega)
    rw [show ((t * 10 : Nat) : Int) = (t : Int) * 10 by omega, show ((c * 10 + dd : Nat) : Int) = (c : Int) * 10 + dd by omega] at MS
    have NX : Hid (∀ v wn, Below wr.heap.size wr wn → Wd wn v (words (m * (t * 10) + (c * 10 + dd))) → RdI w 0 l s.size v (j + 1) (m * (t * 10) + (c * 10 + dd)) 1 0 wn) := hid (by
     intro v wn h1 h2; have e : (m * t + c) * 10 + dd = m * (t * 10) + (c * 10 + dd) := by rw [Nat.add_mul, Nat.mul_assoc]; omega
     have hd := ST.out; rw [e] at hd; refine ⟨hR.out.1.trans (below_low h1 hR.out.1.size), h2, by rw [hd]; omega, fun _ => ⟨rfl, rfl⟩, ?_⟩
     rw [← hd]; exact dval_take_le _ _)
    have NS : Hid (∀ v, j + 1 ≠ s.size → RdI w 0 l s.size v j m t c wr → RdI w 0 l s.size v (j + 1) m (t * 10) (c * 10 + dd) wr) := hid (by
     intro v h1 h2; have e : (m * t + c) * 10 + dd = m * (t * 10) + (c * 10 + dd) := by rw [Nat.add_mul, Nat.mul_assoc]; omega
     have hd := ST.out; rw [e] at hd; exact ⟨h2.1, h2.2.1, hd, fun h => absurd h h1, h2.2.2.2.2⟩)
    have hltI : (j : Int) < (s.size : Int) := by omega
    have HDD := hid hdd; clear hn hnl hk hn2 hm2 ST hdd; by_cases hbig : 67108864 ≤ t * 10
    · have hbI : (67108864 : Int) ≤ (t : Int) * 10 := by omega
      go_wp2_with (first | (go_at_call 207; (with_reducible refine (eworth n dd HDD.out hd9 _).mono ?_); rintro e w' ⟨rfl, hw⟩; obtain rfl := hw.symm) | (go_at_call 208; (with_reducible refine MS.mono ?_); rintro e wn ⟨vn, rfl, hvn, -, hbn⟩))
      go_roundw
      case rel => exact ⟨j + 1, _, 1, 0, rfl, rfl, by go_num, by omega, by omega, by omega, by omega, by omega, hid (NX.out _ _ hbn hvn)⟩
      case measure => simp [intOf]; omega
    · have hbI : decide ((67108864 : Int) ≤ (t : Int) * 10) = false := decide_eq_false (by omega)
      have hb2 : t * 10 < 67108864 := by omega
      by_cases hlast : j + 1 = s.size
      · have hlI : ((j : Int) == (s.size : Int) - 1) = true := beq_iff_eq.2 (by omega)
        have hl2 : j + 1 ≤ s.size := by omega
        clear NS hb2 hbig hlast; go_wp2_with (first | (go_at_call 207; (with_reducible refine (eworth n dd HDD.out hd9 _).mono ?_); rintro e w' ⟨rfl, hw⟩; obtain rfl := hw.symm) | (go_at_call 208; (with_reducible refine MS.mono ?_); rintro e wn ⟨vn, rfl, hvn, -, hbn⟩))
        go_roundw
        case rel => exact ⟨j + 1, _, 1, 0, rfl, rfl, by go_num, by omega, by omega, by omega, by omega, by omega, hid (NX.out _ _ hbn hvn)⟩
        case measure => simp [intOf]; omega
      · have hlI : ((j : Int) == (s.size : Int) - 1) = false := beq_eq_false_iff_ne.2 (by omega)
        have hlI2 : (j : Int) + 1 ≠ (s.size : Int) := by omega
        have RR := hid (NS.out _ hlast hR.out); have HB2 := hid hb2; clear NX MS hbig hb2 hlast; go_wp2_with (go_at_call 207; (with_reducible refine (eworth n dd HDD.out hd9 _).mono ?_); rintro e w' ⟨rfl, hw⟩; obtain rfl := hw.symm)
        have hb3 := HB2.out; go_roundw
        case rel => exact ⟨j + 1, m, t * 10, c * 10 + dd, by go_num, by go_num, by go_num, by omega, by omega, by omega, hb3, by omega, RR⟩
        case measure => simp [intOf]; omega
  · obtain rfl : j = s.size := by omega
    obtain ⟨r1, r2, r3, r4, r5⟩ := hR.out; obtain ⟨rfl, rfl⟩ := r4 rfl
    have hm : m = dval l := by
     rw [show s.size - 0 = l.length by have := HSZ.out; omega, List.take_length] at r3
     omega
    rw [hm] at r2; clear r3 r4 r5 hm hR; go_wp2_with (go_at_call 201; (with_reducible refine (SI.out _ _ r1 r2).mono ?_); rintro e w3 ⟨rfl, hI3, hk3⟩)
    go_ret2
    exact ⟨rfl, hI3, (Keeps.of_below r1).trans (hk3.mono r1.size (fun _ _ h => h))⟩
end Go.Proofs.YthjeejnggpjnjaaGreatDoor
