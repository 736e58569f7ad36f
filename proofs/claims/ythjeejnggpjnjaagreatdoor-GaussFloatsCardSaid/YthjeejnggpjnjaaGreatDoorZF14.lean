/- A part: AK. -/
import Derived.Test.YthjeejnggpjnjaaGreatDoorZF13
set_option linter.unusedSimpArgs false
set_option linter.unusedVariables false
set_option maxRecDepth 100000
set_option maxHeartbeats 16000000
set_option synthInstance.maxHeartbeats 2000000
set_option synthInstance.maxSize 100000
namespace Go.Proofs.YthjeejnggpjnjaaGreatDoor
open Go.RowKit
theorem neg_lt (F : Nat) (h : F < 18446744073709551616) : Op.negFloat .f64 F < 18446744073709551616 := by
 have e : Op.negFloat .f64 F = F ^^^ 2 ^ 63 := rfl; rw [e]; have := Nat.xor_lt_two_pow (n := 64) (x := F) (y := 2 ^ 63) h (Nat.pow_lt_pow_right (by decide) (by decide))
 exact this
theorem run_fneg (x : Nat) (w : World) : (Op.unary .neg (.float .f64 x)).run Tryz.prog w = .ok (.float .f64 (Op.negFloat .f64 x)) w := rfl
theorem bnearCoreN (b : Bool) (aa ad : Option Addr) (la ca ld cd k q r : Nat) (RW LQ L2 LX : List Nat) (blA blD : Nat) (u cc : Int) (ex : Bool) (F lr : Nat) (w : World)
 (q1b : q < 18014398509481984) (hu1 : -1074 ≤ u) (hu2 : u ≤ 549755813888) (hbA : blA ≤ 549755813888) (hbD : blD ≤ 549755813888) (hsg : u < 0) (hk : -u = (k : Int)) (hmax : max ((blA : Int) - blD - 53) (-1074) = u) (hc1 : -1 ≤ cc) (hc2 : cc ≤ 1)
 (BA : Hid (Calls Tryz.prog 176 #[.slice aa la ca] w fun e w' => e = .returned (.int .i64 blA) ∧ w' = w)) (BD : Hid (Calls Tryz.prog 176 #[.slice ad ld cd] w fun e w' => e = .returned (.int .i64 blD) ∧ w' = w))
 (UP : Hid (Calls Tryz.prog 157 #[.slice aa la ca, .int .i64 k] w fun e w' => ∃ v, e = .returned v ∧ Wd w' v L2 ∧ Below w.heap.size w w'))
 (DV : Hid (∀ v w', Below w.heap.size w w' → Wd w' v L2 → Calls Tryz.prog 177 #[v, .slice ad ld cd] w' fun e w'' => ∃ q' ar cr, e = .returned (.tuple #[q', .slice ar lr cr]) ∧ Wd w'' q' LQ ∧ Wd w'' (.slice ar lr cr) RW ∧ Below w'.heap.size w' w''))
 (D0 : Hid (∀ w', Below w.heap.size w w' → Wd w' (.slice ad ld cd) LX))
 (TU : Hid (∀ v w', Wd w' v LQ → Calls Tryz.prog 178 #[v] w' fun e w'' => e = .returned (.int .u64 q) ∧ w'' = w'))
 (UR : Hid (∀ v w', Wd w' v RW → Calls Tryz.prog 157 #[v, .int .i64 1] w' fun e w'' => ∃ v, e = .returned v ∧ Wd w'' v (words (r * 2)) ∧ Below w'.heap.size w' w''))
 (CM : Hid (∀ v1 v2 w', Wd w' v1 (words (r * 2)) → Wd w' v2 LX → Calls Tryz.prog 141 #[v1, v2] w' fun e w'' => e = .returned (.int .i64 cc) ∧ Drawn w' w''))
 (e0 : ((la : Int) == 0) = false) (ex0 : ((lr : Int) == 0) = ex)
 (HF : Hid (F = if (nround q ex cc u).1 = 0 then 0 else min ((nround q ex cc u).1 + ((nround q ex cc u).2 + 1074).toNat * 4503599627370496) 9218868437227405312))
 (IF : Hid (∀ w, Calls Tryz.prog 180 #[.float .f64 F, .int .i64 0] w fun e w' => e = .returned (.bool (Ieee.double.order (F % 9223372036854775808) 9218868437227405311 == some .gt)) ∧ w' = w))
 (IG : Hid (∀ w, Calls Tryz.prog 180 #[.float .f64 (Op.negFloat .f64 F), .int .i64 0] w fun e w' => e = .returned (.bool (Ieee.double.order (Op.negFloat .f64 F % 9223372036854775808) 9218868437227405311 == some .gt)) ∧ w' = w))
 (Q2 : u = -1074 ∨ 4503599627370496 ≤ q) :
 Calls Tryz.prog 125 #[.bool b, .slice aa la ca, .slice ad ld cd] w (NearPost b F w) := by
 have rn := run_fneg; obtain ⟨M0, hM0⟩ : ∃ M0, M0 = (decide (0 < cc) || (decide (cc = 0) && decide (q % 2 = 1))) := ⟨_, rfl⟩; have HM0 := hid hM0; have HMX := hid hmax; clear hM0 hmax; go_enter Tryz.func125, Tryz.ntmps125; go_upto_region 3 with fail
 go_cut [8] from 20 to 26 (fun s8 wx => s8 = .int .i64 u ∧ w = wx)
 case first =>
  go_wp2_with (first | (go_at_call 176; (with_reducible refine BA.out.mono ?_); rintro e w' ⟨rfl, hw⟩; obtain rfl := hw.symm) | (go_at_call 176; (with_reducible refine BD.out.mono ?_); rintro e w' ⟨rfl, hw⟩; obtain rfl := hw.symm))
  all_goals
   go_meet
   have HMY := HMX.out; exact ⟨congrArg (Value.int .i64) (by omega), rfl⟩
 case rest =>
  obtain ⟨rfl, rfl⟩ := hcut; go_upto_region 10 with (first | (go_at_call 157; (with_reducible refine UP.out.mono ?_); rintro e w1 ⟨v1, rfl, h1, hb1⟩) | (go_at_call 177; (with_reducible refine (DV.out _ _ hb1 h1).mono ?_); rintro e w2 ⟨vq, ar, cr, rfl, hq2, hr2, hw2⟩; have hb2 := Below.trans hb1 (below_low hw2 hb1.size); have h12 := D0.out _ hb2) | (go_at_call 178; (with_reducible refine (TU.out _ _ hq2).mono ?_); rintro e w' ⟨rfl, hw⟩; obtain rfl := hw.symm) | (go_at_call 157; (with_reducible refine (UR.out _ _ hr2).mono ?_); rintro e w3 ⟨v3, rfl, h3, hw3⟩; have hb3 := Below.trans hb2 (below_low hw3 hb2.size); have h13 := h12.below hw3) | (go_at_call 141; (with_reducible refine (CM.out _ _ _ h3 h13).mono ?_); rintro e w9 ⟨rfl, hd9⟩; have hb9 := Below.trans hb3 (below_low hd9.below hb3.size); clear hd9))
  have HB9 := hid hb9; clear hb1 hb2 hb3 hb9 h1 hq2 hr2 hw2 h12 hw3 h3 h13; go_cut [13] from 48 to 58 (fun s13 wx => s13 = .bool M0 ∧ w9 = wx)
  case first =>
   have HM := HM0.out; rcases (show cc = -1 ∨ cc = 0 ∨ cc = 1 by omega) with rfl | rfl | rfl <;> rcases Nat.mod_two_eq_zero_or_one q with hq2 | hq2
   all_goals
    have a1 := and1 q (by omega)
    rw [hq2] at a1 HM; simp only [decide_true, decide_false, Int.lt_irrefl, Bool.or_false, Bool.false_or, Bool.and_false, Bool.and_true, Bool.true_and, Bool.false_and, Nat.zero_ne_one, reduceCtorEq] at HM
    try (rw [show decide ((0 : Int) < -1) = false from rfl] at HM)
    try (rw [show decide ((0 : Int) < 1) = true from rfl] at HM)
    try (rw [show decide ((-1 : Int) = 0) = false from rfl] at HM)
    try simp at HM
    go_wp2_with fail
    go_meet
    exact ⟨by rw [HM], rfl⟩
  case rest =>
   obtain ⟨rfl, rfl⟩ := hcut; by_cases hbig : 9007199254740992 ≤ q
   · obtain ⟨q1, hq1⟩ : ∃ q1, q1 = q / 2 := ⟨_, rfl⟩; have q1e : (q : Int) / 2 = (q1 : Int) := by omega
     have hq1b : 4503599627370496 ≤ q1 := by omega
     have hq1c : q1 < 9007199254740992 := by omega
     have hbI : (9007199254740992 : Int) ≤ (q : Int) := by omega
     rcases Nat.mod_two_eq_zero_or_one q with hq2 | hq2
     · rcases Nat.mod_two_eq_zero_or_one q1 with hq3 | hq3 <;> rcases ex with _ | _
       all_goals
        have HR : Hid (F = if q1 = 0 then 0 else min (q1 + (u + 1 + 1074).toNat * 4503599627370496) 9218868437227405312) := hid (by
         have h := HF.out; unfold nround at h; rw [if_pos hbig, ← hq1] at h; simp only [hq2, hq3, decide_true, decide_false, Bool.not_true, Bool.not_false, Bool.true_and, Bool.false_and, Bool.and_true, Bool.and_false, Bool.or_true, Bool.or_false, Bool.true_or, Bool.false_or, Bool.toNat_true, Bool.toNat_false, Nat.add_zero, Nat.zero_ne_one, Nat.one_ne_zero, reduceCtorEq] at h; exact h)
        have LD := fun w => Ldexp_near (q1) (u + 1) (by omega) (by omega) (by omega) (by omega) w
        rw [← nconv, show (((q1) : Nat) : Int) = (q1 : Int) by omega, ← HR.out] at LD
        clear HR
       all_goals
        have a1 := and1 q (by omega)
        rw [hq2] at a1; have a2 := and1 q1 (by omega)
        rw [hq3] at a2; clear HF hq1; rcases b with _ | _
        all_goals
         go_wp2_with (first | (go_at_call 179; (with_reducible refine (LD _).mono ?_); rintro e w' ⟨rfl, hw⟩; obtain rfl := hw.symm) | (go_at_call 180; (with_reducible refine (IF.out _).mono ?_); rintro e w' ⟨rfl, hw⟩; obtain rfl := hw.symm) | (go_at_call 180; (with_reducible refine (IG.out _).mono ?_); rintro e w' ⟨rfl, hw⟩; obtain rfl := hw.symm))
         go_ret2
         exact ⟨⟨_, rfl⟩, HB9.out⟩
     · rcases Nat.mod_two_eq_zero_or_one q1 with hq3 | hq3 <;> rcases ex with _ | _
       all_goals first
        | (have HR : Hid (F = if q1 = 0 then 0 else min (q1 + (u + 1 + 1074).toNat * 4503599627370496) 9218868437227405312) := hid (by
            have h := HF.out; unfold nround at h; rw [if_pos hbig, ← hq1] at h; simp only [hq2, hq3, decide_true, decide_false, Bool.not_true, Bool.not_false, Bool.true_and, Bool.false_and, Bool.and_true, Bool.and_false, Bool.or_true, Bool.or_false, Bool.true_or, Bool.false_or, Bool.toNat_true, Bool.toNat_false, Nat.add_zero, Nat.zero_ne_one, Nat.one_ne_zero, reduceCtorEq] at h; exact h)
           have LD := fun w => Ldexp_near (q1) (u + 1) (by omega) (by omega) (by omega) (by omega) w
           rw [← nconv, show (((q1) : Nat) : Int) = (q1 : Int) by omega, ← HR.out] at LD
           clear HR)
        | (have HR : Hid (F = if q1 + 1 = 0 then 0 else min (q1 + 1 + (u + 1 + 1074).toNat * 4503599627370496) 9218868437227405312) := hid (by
            have h := HF.out; unfold nround at h; rw [if_pos hbig, ← hq1] at h; simp only [hq2, hq3, decide_true, decide_false, Bool.not_true, Bool.not_false, Bool.true_and, Bool.false_and, Bool.and_true, Bool.and_false, Bool.or_true, Bool.or_false, Bool.true_or, Bool.false_or, Bool.toNat_true, Bool.toNat_false, Nat.add_zero, Nat.zero_ne_one, Nat.one_ne_zero, reduceCtorEq] at h; exact h)
           have LD := fun w => Ldexp_near (q1 + 1) (u + 1) (by omega) (by omega) (by omega) (by omega) w
           rw [← nconv, show (((q1 + 1) : Nat) : Int) = (q1 : Int) + 1 by omega, ← HR.out] at LD
           clear HR)
       all_goals
        have a1 := and1 q (by omega)
        rw [hq2] at a1; have a2 := and1 q1 (by omega)
        rw [hq3] at a2; clear HF hq1; rcases b with _ | _
        all_goals
         go_wp2_with (first | (go_at_call 179; (with_reducible refine (LD _).mono ?_); rintro e w' ⟨rfl, hw⟩; obtain rfl := hw.symm) | (go_at_call 180; (with_reducible refine (IF.out _).mono ?_); rintro e w' ⟨rfl, hw⟩; obtain rfl := hw.symm) | (go_at_call 180; (with_reducible refine (IG.out _).mono ?_); rintro e w' ⟨rfl, hw⟩; obtain rfl := hw.symm))
         go_ret2
         exact ⟨⟨_, rfl⟩, HB9.out⟩
   · have hbI : decide ((9007199254740992 : Int) ≤ (q : Int)) = false := decide_eq_false (by omega)
     have hM := HM0.out; rcases M0 with _ | _
     · have HR : Hid (F = if q = 0 then 0 else min (q + (u + 1074).toNat * 4503599627370496) 9218868437227405312) := hid (by
        have h := HF.out; unfold nround at h; rw [if_neg hbig, ← hM] at h; simp only [decide_true, decide_false, Bool.not_true, Bool.not_false, Bool.true_and, Bool.false_and, Bool.and_true, Bool.and_false, Bool.or_true, Bool.or_false, Bool.true_or, Bool.false_or, Bool.toNat_true, Bool.toNat_false, Nat.add_zero, Nat.zero_ne_one, Nat.one_ne_zero, reduceCtorEq] at h; exact h)
       have LD := fun w => Ldexp_near (q) (u) (by omega) (by omega) (by omega) (by omega) w
       rw [← nconv, show (((q) : Nat) : Int) = (q : Int) by omega, ← HR.out] at LD
       clear HR; clear HF hM hbig; rcases b with _ | _ <;> rcases ex with _ | _
       all_goals
        go_wp2_with (first | (go_at_call 179; (with_reducible refine (LD _).mono ?_); rintro e w' ⟨rfl, hw⟩; obtain rfl := hw.symm) | (go_at_call 180; (with_reducible refine (IF.out _).mono ?_); rintro e w' ⟨rfl, hw⟩; obtain rfl := hw.symm) | (go_at_call 180; (with_reducible refine (IG.out _).mono ?_); rintro e w' ⟨rfl, hw⟩; obtain rfl := hw.symm))
        go_ret2
        exact ⟨⟨_, rfl⟩, HB9.out⟩
     · have HR : Hid (F = if q + 1 = 0 then 0 else min (q + 1 + (u + 1074).toNat * 4503599627370496) 9218868437227405312) := hid (by
        have h := HF.out; unfold nround at h; rw [if_neg hbig, ← hM] at h; simp only [decide_true, decide_false, Bool.not_true, Bool.not_false, Bool.true_and, Bool.false_and, Bool.and_true, Bool.and_false, Bool.or_true, Bool.or_false, Bool.true_or, Bool.false_or, Bool.toNat_true, Bool.toNat_false, Nat.add_zero, Nat.zero_ne_one, Nat.one_ne_zero, reduceCtorEq] at h; exact h)
       have LD := fun w => Ldexp_near (q + 1) (u) (by omega) (by omega) (by omega) (by omega) w
       rw [← nconv, show (((q + 1) : Nat) : Int) = (q : Int) + 1 by omega, ← HR.out] at LD
       clear HR; clear HF hM hbig; rcases b with _ | _ <;> rcases ex with _ | _
       all_goals
        go_wp2_with (first | (go_at_call 179; (with_reducible refine (LD _).mono ?_); rintro e w' ⟨rfl, hw⟩; obtain rfl := hw.symm) | (go_at_call 180; (with_reducible refine (IF.out _).mono ?_); rintro e w' ⟨rfl, hw⟩; obtain rfl := hw.symm) | (go_at_call 180; (with_reducible refine (IG.out _).mono ?_); rintro e w' ⟨rfl, hw⟩; obtain rfl := hw.symm))
        go_ret2
        exact ⟨⟨_, rfl⟩, HB9.out⟩
theorem bnearCoreP (b : Bool) (aa ad : Option Addr) (la ca ld cd k q r : Nat) (RW LQ L2 LX : List Nat) (blA blD : Nat) (u cc : Int) (ex : Bool) (F lr : Nat) (w : World)
 (q1b : q < 18014398509481984) (hu1 : -1074 ≤ u) (hu2 : u ≤ 549755813888) (hbA : blA ≤ 549755813888) (hbD : blD ≤ 549755813888) (hsg : 0 ≤ u) (hk : u = (k : Int)) (hmax : max ((blA : Int) - blD - 53) (-1074) = u) (hc1 : -1 ≤ cc) (hc2 : cc ≤ 1)
 (BA : Hid (Calls Tryz.prog 176 #[.slice aa la ca] w fun e w' => e = .returned (.int .i64 blA) ∧ w' = w)) (BD : Hid (Calls Tryz.prog 176 #[.slice ad ld cd] w fun e w' => e = .returned (.int .i64 blD) ∧ w' = w))
 (UP : Hid (Calls Tryz.prog 157 #[.slice ad ld cd, .int .i64 k] w fun e w' => ∃ v, e = .returned v ∧ Wd w' v L2 ∧ Below w.heap.size w w'))
 (DV : Hid (∀ v w', Below w.heap.size w w' → Wd w' v L2 → Calls Tryz.prog 177 #[.slice aa la ca, v] w' fun e w'' => ∃ q' ar cr, e = .returned (.tuple #[q', .slice ar lr cr]) ∧ Wd w'' q' LQ ∧ Wd w'' (.slice ar lr cr) RW ∧ Below w'.heap.size w' w''))
 (D0 : Hid (∀ w', Below w.heap.size w w' → True))
 (TU : Hid (∀ v w', Wd w' v LQ → Calls Tryz.prog 178 #[v] w' fun e w'' => e = .returned (.int .u64 q) ∧ w'' = w'))
 (UR : Hid (∀ v w', Wd w' v RW → Calls Tryz.prog 157 #[v, .int .i64 1] w' fun e w'' => ∃ v, e = .returned v ∧ Wd w'' v (words (r * 2)) ∧ Below w'.heap.size w' w''))
 (CM : Hid (∀ v1 v2 w', Wd w' v1 (words (r * 2)) → Wd w' v2 L2 → Calls Tryz.prog 141 #[v1, v2] w' fun e w'' => e = .returned (.int .i64 cc) ∧ Drawn w' w''))
 (e0 : ((la : Int) == 0) = false) (ex0 : ((lr : Int) == 0) = ex)
 (HF : Hid (F = if (nround q ex cc u).1 = 0 then 0 else min ((nround q ex cc u).1 + ((nround q ex cc u).2 + 1074).toNat * 4503599627370496) 9218868437227405312))
 (IF : Hid (∀ w, Calls Tryz.prog 180 #[.float .f64 F, .int .i64 0] w fun e w' => e = .returned (.bool (Ieee.double.order (F % 9223372036854775808) 9218868437227405311 == some .gt)) ∧ w' = w))
 (IG : Hid (∀ w, Calls Tryz.prog 180 #[.float .f64 (Op.negFloat .f64 F), .int .i64 0] w fun e w' => e = .returned (.bool (Ieee.double.order (Op.negFloat .f64 F % 9223372036854775808) 9218868437227405311 == some .gt)) ∧ w' = w))
 (Q2 : u = -1074 ∨ 4503599627370496 ≤ q) :
 Calls Tryz.prog 125 #[.bool b, .slice aa la ca, .slice ad ld cd] w (NearPost b F w) := by
 subst hk; have rn := run_fneg; obtain ⟨M0, hM0⟩ : ∃ M0, M0 = (decide (0 < cc) || (decide (cc = 0) && decide (q % 2 = 1))) := ⟨_, rfl⟩; have HM0 := hid hM0; have HMX := hid hmax; clear hM0 hmax; go_enter Tryz.func125, Tryz.ntmps125; go_upto_region 3 with fail
 go_cut [8] from 20 to 26 (fun s8 wx => s8 = .int .i64 (k : Int) ∧ w = wx)
 case first =>
  go_wp2_with (first | (go_at_call 176; (with_reducible refine BA.out.mono ?_); rintro e w' ⟨rfl, hw⟩; obtain rfl := hw.symm) | (go_at_call 176; (with_reducible refine BD.out.mono ?_); rintro e w' ⟨rfl, hw⟩; obtain rfl := hw.symm))
  all_goals
   go_meet
   have HMY := HMX.out; exact ⟨congrArg (Value.int .i64) (by omega), rfl⟩
 case rest =>
  obtain ⟨rfl, rfl⟩ := hcut; go_upto_region 10 with (first | (go_at_call 157; (with_reducible refine UP.out.mono ?_); rintro e w1 ⟨v1, rfl, h1, hb1⟩) | (go_at_call 177; (with_reducible refine (DV.out _ _ hb1 h1).mono ?_); rintro e w2 ⟨vq, ar, cr, rfl, hq2, hr2, hw2⟩; have hb2 := Below.trans hb1 (below_low hw2 hb1.size); have h12 := h1.below hw2) | (go_at_call 178; (with_reducible refine (TU.out _ _ hq2).mono ?_); rintro e w' ⟨rfl, hw⟩; obtain rfl := hw.symm) | (go_at_call 157; (with_reducible refine (UR.out _ _ hr2).mono ?_); rintro e w3 ⟨v3, rfl, h3, hw3⟩; have hb3 := Below.trans hb2 (below_low hw3 hb2.size); have h13 := h12.below hw3) | (go_at_call 141; (with_reducible refine (CM.out _ _ _ h3 h13).mono ?_); rintro e w9 ⟨rfl, hd9⟩; have hb9 := Below.trans hb3 (below_low hd9.below hb3.size); clear hd9))
  have HB9 := hid hb9; clear hb1 hb2 hb3 hb9 h1 hq2 hr2 hw2 h12 hw3 h3 h13; go_cut [13] from 48 to 58 (fun s13 wx => s13 = .bool M0 ∧ w9 = wx)
  case first =>
   have HM := HM0.out; rcases (show cc = -1 ∨ cc = 0 ∨ cc = 1 by omega) with rfl | rfl | rfl <;> rcases Nat.mod_two_eq_zero_or_one q with hq2 | hq2
   all_goals
    have a1 := and1 q (by omega)
    rw [hq2] at a1 HM; simp only [decide_true, decide_false, Int.lt_irrefl, Bool.or_false, Bool.false_or, Bool.and_false, Bool.and_true, Bool.true_and, Bool.false_and, Nat.zero_ne_one, reduceCtorEq] at HM
    try (rw [show decide ((0 : Int) < -1) = false from rfl] at HM)
    try (rw [show decide ((0 : Int) < 1) = true from rfl] at HM)
    try (rw [show decide ((-1 : Int) = 0) = false from rfl] at HM)
    try simp at HM
    go_wp2_with fail
    go_meet
    exact ⟨by rw [HM], rfl⟩
  case rest =>
   obtain ⟨rfl, rfl⟩ := hcut; by_cases hbig : 9007199254740992 ≤ q
   · obtain ⟨q1, hq1⟩ : ∃ q1, q1 = q / 2 := ⟨_, rfl⟩; have q1e : (q : Int) / 2 = (q1 : Int) := by omega
     have hq1b : 4503599627370496 ≤ q1 := by omega
     have hq1c : q1 < 9007199254740992 := by omega
     have hbI : (9007199254740992 : Int) ≤ (q : Int) := by omega
     rcases Nat.mod_two_eq_zero_or_one q with hq2 | hq2
     · rcases Nat.mod_two_eq_zero_or_one q1 with hq3 | hq3 <;> rcases ex with _ | _
       all_goals
        have HR : Hid (F = if q1 = 0 then 0 else min (q1 + ((k : Int) + 1 + 1074).toNat * 4503599627370496) 9218868437227405312) := hid (by
         have h := HF.out; unfold nround at h; rw [if_pos hbig, ← hq1] at h; simp only [hq2, hq3, decide_true, decide_false, Bool.not_true, Bool.not_false, Bool.true_and, Bool.false_and, Bool.and_true, Bool.and_false, Bool.or_true, Bool.or_false, Bool.true_or, Bool.false_or, Bool.toNat_true, Bool.toNat_false, Nat.add_zero, Nat.zero_ne_one, Nat.one_ne_zero, reduceCtorEq] at h; exact h)
        have LD := fun w => Ldexp_near (q1) ((k : Int) + 1) (by omega) (by omega) (by omega) (by omega) w
        rw [← nconv, show (((q1) : Nat) : Int) = (q1 : Int) by omega, ← HR.out] at LD
        clear HR
       all_goals
        have a1 := and1 q (by omega)
        rw [hq2] at a1; have a2 := and1 q1 (by omega)
        rw [hq3] at a2; clear HF hq1; rcases b with _ | _
        all_goals
         go_wp2_with (first | (go_at_call 179; (with_reducible refine (LD _).mono ?_); rintro e w' ⟨rfl, hw⟩; obtain rfl := hw.symm) | (go_at_call 180; (with_reducible refine (IF.out _).mono ?_); rintro e w' ⟨rfl, hw⟩; obtain rfl := hw.symm) | (go_at_call 180; (with_reducible refine (IG.out _).mono ?_); rintro e w' ⟨rfl, hw⟩; obtain rfl := hw.symm))
         go_ret2
         exact ⟨⟨_, rfl⟩, HB9.out⟩
     · rcases Nat.mod_two_eq_zero_or_one q1 with hq3 | hq3 <;> rcases ex with _ | _
       all_goals first
        | (have HR : Hid (F = if q1 = 0 then 0 else min (q1 + ((k : Int) + 1 + 1074).toNat * 4503599627370496) 9218868437227405312) := hid (by
            have h := HF.out; unfold nround at h; rw [if_pos hbig, ← hq1] at h; simp only [hq2, hq3, decide_true, decide_false, Bool.not_true, Bool.not_false, Bool.true_and, Bool.false_and, Bool.and_true, Bool.and_false, Bool.or_true, Bool.or_false, Bool.true_or, Bool.false_or, Bool.toNat_true, Bool.toNat_false, Nat.add_zero, Nat.zero_ne_one, Nat.one_ne_zero, reduceCtorEq] at h; exact h)
           have LD := fun w => Ldexp_near (q1) ((k : Int) + 1) (by omega) (by omega) (by omega) (by omega) w
           rw [← nconv, show (((q1) : Nat) : Int) = (q1 : Int) by omega, ← HR.out] at LD
           clear HR)
        | (have HR : Hid (F = if q1 + 1 = 0 then 0 else min (q1 + 1 + ((k : Int) + 1 + 1074).toNat * 4503599627370496) 9218868437227405312) := hid (by
            have h := HF.out; unfold nround at h; rw [if_pos hbig, ← hq1] at h; simp only [hq2, hq3, decide_true, decide_false, Bool.not_true, Bool.not_false, Bool.true_and, Bool.false_and, Bool.and_true, Bool.and_false, Bool.or_true, Bool.or_false, Bool.true_or, Bool.false_or, Bool.toNat_true, Bool.toNat_false, Nat.add_zero, Nat.zero_ne_one, Nat.one_ne_zero, reduceCtorEq] at h; exact h)
           have LD := fun w => Ldexp_near (q1 + 1) ((k : Int) + 1) (by omega) (by omega) (by omega) (by omega) w
           rw [← nconv, show (((q1 + 1) : Nat) : Int) = (q1 : Int) + 1 by omega, ← HR.out] at LD
           clear HR)
       all_goals
        have a1 := and1 q (by omega)
        rw [hq2] at a1; have a2 := and1 q1 (by omega)
        rw [hq3] at a2; clear HF hq1; rcases b with _ | _
        all_goals
         go_wp2_with (first | (go_at_call 179; (with_reducible refine (LD _).mono ?_); rintro e w' ⟨rfl, hw⟩; obtain rfl := hw.symm) | (go_at_call 180; (with_reducible refine (IF.out _).mono ?_); rintro e w' ⟨rfl, hw⟩; obtain rfl := hw.symm) | (go_at_call 180; (with_reducible refine (IG.out _).mono ?_); rintro e w' ⟨rfl, hw⟩; obtain rfl := hw.symm))
         go_ret2
         exact ⟨⟨_, rfl⟩, HB9.out⟩
   · have hbI : decide ((9007199254740992 : Int) ≤ (q : Int)) = false := decide_eq_false (by omega)
     have hM := HM0.out; rcases M0 with _ | _
     · have HR : Hid (F = if q = 0 then 0 else min (q + ((k : Int) + 1074).toNat * 4503599627370496) 9218868437227405312) := hid (by
        have h := HF.out; unfold nround at h; rw [if_neg hbig, ← hM] at h; simp only [decide_true, decide_false, Bool.not_true, Bool.not_false, Bool.true_and, Bool.false_and, Bool.and_true, Bool.and_false, Bool.or_true, Bool.or_false, Bool.true_or, Bool.false_or, Bool.toNat_true, Bool.toNat_false, Nat.add_zero, Nat.zero_ne_one, Nat.one_ne_zero, reduceCtorEq] at h; exact h)
       have LD := fun w => Ldexp_near (q) ((k : Int)) (by omega) (by omega) (by omega) (by omega) w
       rw [← nconv, show (((q) : Nat) : Int) = (q : Int) by omega, ← HR.out] at LD
       clear HR; clear HF hM hbig; rcases b with _ | _ <;> rcases ex with _ | _
       all_goals
        go_wp2_with (first | (go_at_call 179; (with_reducible refine (LD _).mono ?_); rintro e w' ⟨rfl, hw⟩; obtain rfl := hw.symm) | (go_at_call 180; (with_reducible refine (IF.out _).mono ?_); rintro e w' ⟨rfl, hw⟩; obtain rfl := hw.symm) | (go_at_call 180; (with_reducible refine (IG.out _).mono ?_); rintro e w' ⟨rfl, hw⟩; obtain rfl := hw.symm))
        go_ret2
        exact ⟨⟨_, rfl⟩, HB9.out⟩
     · have HR : Hid (F = if q + 1 = 0 then 0 else min (q + 1 + ((k : Int) + 1074).toNat * 4503599627370496) 9218868437227405312) := hid (by
        have h := HF.out; unfold nround at h; rw [if_neg hbig, ← hM] at h; simp only [decide_true, decide_false, Bool.not_true, Bool.not_false, Bool.true_and, Bool.false_and, Bool.and_true, Bool.and_false, Bool.or_true, Bool.or_false, Bool.true_or, Bool.false_or, Bool.toNat_true, Bool.toNat_false, Nat.add_zero, Nat.zero_ne_one, Nat.one_ne_zero, reduceCtorEq] at h; exact h)
       have LD := fun w => Ldexp_near (q + 1) ((k : Int)) (by omega) (by omega) (by omega) (by omega) w
       rw [← nconv, show (((q + 1) : Nat) : Int) = (q : Int) + 1 by omega, ← HR.out] at LD
       clear HR; clear HF hM hbig; rcases b with _ | _ <;> rcases ex with _ | _
       all_goals
        go_wp2_with (first | (go_at_call 179; (with_reducible refine (LD _).mono ?_); rintro e w' ⟨rfl, hw⟩; obtain rfl := hw.symm) | (go_at_call 180; (with_reducible refine (IF.out _).mono ?_); rintro e w' ⟨rfl, hw⟩; obtain rfl := hw.symm) | (go_at_call 180; (with_reducible refine (IG.out _).mono ?_); rintro e w' ⟨rfl, hw⟩; obtain rfl := hw.symm))
        go_ret2
        exact ⟨⟨_, rfl⟩, HB9.out⟩
theorem enearCoreN (b : Bool) (aa ad : Option Addr) (la ca ld cd k q r : Nat) (RW LQ L2 LX : List Nat) (blA blD : Nat) (u cc : Int) (ex : Bool) (F lr : Nat) (w : World)
 (q1b : q < 18014398509481984) (hu1 : -1074 ≤ u) (hu2 : u ≤ 549755813888) (hbA : blA ≤ 549755813888) (hbD : blD ≤ 549755813888) (hsg : u < 0) (hk : -u = (k : Int)) (hmax : max ((blA : Int) - blD - 53) (-1074) = u) (hc1 : -1 ≤ cc) (hc2 : cc ≤ 1)
 (BA : Hid (Calls Tryz.prog 221 #[.slice aa la ca] w fun e w' => e = .returned (.int .i64 blA) ∧ w' = w)) (BD : Hid (Calls Tryz.prog 221 #[.slice ad ld cd] w fun e w' => e = .returned (.int .i64 blD) ∧ w' = w))
 (UP : Hid (Calls Tryz.prog 210 #[.slice aa la ca, .int .i64 k] w fun e w' => ∃ v, e = .returned v ∧ Wd w' v L2 ∧ Below w.heap.size w w'))
 (DV : Hid (∀ v w', Below w.heap.size w w' → Wd w' v L2 → Calls Tryz.prog 203 #[v, .slice ad ld cd] w' fun e w'' => ∃ q' ar cr, e = .returned (.tuple #[q', .slice ar lr cr]) ∧ Wd w'' q' LQ ∧ Wd w'' (.slice ar lr cr) RW ∧ Below w'.heap.size w' w''))
 (D0 : Hid (∀ w', Below w.heap.size w w' → Wd w' (.slice ad ld cd) LX))
 (TU : Hid (∀ v w', Wd w' v LQ → Calls Tryz.prog 222 #[v] w' fun e w'' => e = .returned (.int .u64 q) ∧ w'' = w'))
 (UR : Hid (∀ v w', Wd w' v RW → Calls Tryz.prog 210 #[v, .int .i64 1] w' fun e w'' => ∃ v, e = .returned v ∧ Wd w'' v (words (r * 2)) ∧ Below w'.heap.size w' w''))
 (CM : Hid (∀ v1 v2 w', Wd w' v1 (words (r * 2)) → Wd w' v2 LX → Calls Tryz.prog 155 #[v1, v2] w' fun e w'' => e = .returned (.int .i64 cc) ∧ Drawn w' w''))
 (e0 : ((la : Int) == 0) = false) (ex0 : ((lr : Int) == 0) = ex)
 (HF : Hid (F = if (nround q ex cc u).1 = 0 then 0 else min ((nround q ex cc u).1 + ((nround q ex cc u).2 + 1074).toNat * 4503599627370496) 9218868437227405312))
 (IF : Hid (∀ w, Calls Tryz.prog 180 #[.float .f64 F, .int .i64 0] w fun e w' => e = .returned (.bool (Ieee.double.order (F % 9223372036854775808) 9218868437227405311 == some .gt)) ∧ w' = w))
 (IG : Hid (∀ w, Calls Tryz.prog 180 #[.float .f64 (Op.negFloat .f64 F), .int .i64 0] w fun e w' => e = .returned (.bool (Ieee.double.order (Op.negFloat .f64 F % 9223372036854775808) 9218868437227405311 == some .gt)) ∧ w' = w))
 (Q2 : u = -1074 ∨ 4503599627370496 ≤ q) :
 Calls Tryz.prog 181 #[.bool b, .slice aa la ca, .slice ad ld cd] w (NearPost b F w) := by
 have rn := run_fneg; obtain ⟨M0, hM0⟩ : ∃ M0, M0 = (decide (0 < cc) || (decide (cc = 0) && decide (q % 2 = 1))) := ⟨_, rfl⟩; have HM0 := hid hM0; have HMX := hid hmax; clear hM0 hmax; go_enter Tryz.func181, Tryz.ntmps181; go_upto_region 3 with fail
 go_cut [8] from 20 to 26 (fun s8 wx => s8 = .int .i64 u ∧ w = wx)
 case first =>
  go_wp2_with (first | (go_at_call 221; (with_reducible refine BA.out.mono ?_); rintro e w' ⟨rfl, hw⟩; obtain rfl := hw.symm) | (go_at_call 221; (with_reducible refine BD.out.mono ?_); rintro e w' ⟨rfl, hw⟩; obtain rfl := hw.symm))
  all_goals
   go_meet
   have HMY := HMX.out; exact ⟨congrArg (Value.int .i64) (by omega), rfl⟩
 case rest =>
  obtain ⟨rfl, rfl⟩ := hcut; go_upto_region 10 with (first | (go_at_call 210; (with_reducible refine UP.out.mono ?_); rintro e w1 ⟨v1, rfl, h1, hb1⟩) | (go_at_call 203; (with_reducible refine (DV.out _ _ hb1 h1).mono ?_); rintro e w2 ⟨vq, ar, cr, rfl, hq2, hr2, hw2⟩; have hb2 := Below.trans hb1 (below_low hw2 hb1.size); have h12 := D0.out _ hb2) | (go_at_call 222; (with_reducible refine (TU.out _ _ hq2).mono ?_); rintro e w' ⟨rfl, hw⟩; obtain rfl := hw.symm) | (go_at_call 210; (with_reducible refine (UR.out _ _ hr2).mono ?_); rintro e w3 ⟨v3, rfl, h3, hw3⟩; have hb3 := Below.trans hb2 (below_low hw3 hb2.size); have h13 := h12.below hw3) | (go_at_call 155; (with_reducible refine (CM.out _ _ _ h3 h13).mono ?_); rintro e w9 ⟨rfl, hd9⟩; have hb9 := Below.trans hb3 (below_low hd9.below hb3.size); clear hd9))
  have HB9 := hid hb9; clear hb1 hb2 hb3 hb9 h1 hq2 hr2 hw2 h12 hw3 h3 h13; go_cut [13] from 48 to 58 (fun s13 wx => s13 = .bool M0 ∧ w9 = wx)
  case first =>
   have HM := HM0.out; rcases (show cc = -1 ∨ cc = 0 ∨ cc = 1 by omega) with rfl | rfl | rfl <;> rcases Nat.mod_two_eq_zero_or_one q with hq2 | hq2
   all_goals
    have a1 := and1 q (by omega)
    rw [hq2] at a1 HM; simp only [decide_true, decide_false, Int.lt_irrefl, Bool.or_false, Bool.false_or, Bool.and_false, Bool.and_true, Bool.true_and, Bool.false_and, Nat.zero_ne_one, reduceCtorEq] at HM
    try (rw [show decide ((0 : Int) < -1) = false from rfl] at HM)
    try (rw [show decide ((0 : Int) < 1) = true from rfl] at HM)
    try (rw [show decide ((-1 : Int) = 0) = false from rfl] at HM)
    try simp at HM
    go_wp2_with fail
    go_meet
    exact ⟨by rw [HM], rfl⟩
  case rest =>
   obtain ⟨rfl, rfl⟩ := hcut; by_cases hbig : 9007199254740992 ≤ q
   · obtain ⟨q1, hq1⟩ : ∃ q1, q1 = q / 2 := ⟨_, rfl⟩; have q1e : (q : Int) / 2 = (q1 : Int) := by omega
     have hq1b : 4503599627370496 ≤ q1 := by omega
     have hq1c : q1 < 9007199254740992 := by omega
     have hbI : (9007199254740992 : Int) ≤ (q : Int) := by omega
     rcases Nat.mod_two_eq_zero_or_one q with hq2 | hq2
     · rcases Nat.mod_two_eq_zero_or_one q1 with hq3 | hq3 <;> rcases ex with _ | _
       all_goals
        have HR : Hid (F = if q1 = 0 then 0 else min (q1 + (u + 1 + 1074).toNat * 4503599627370496) 9218868437227405312) := hid (by
         have h := HF.out; unfold nround at h; rw [if_pos hbig, ← hq1] at h; simp only [hq2, hq3, decide_true, decide_false, Bool.not_true, Bool.not_false, Bool.true_and, Bool.false_and, Bool.and_true, Bool.and_false, Bool.or_true, Bool.or_false, Bool.true_or, Bool.false_or, Bool.toNat_true, Bool.toNat_false, Nat.add_zero, Nat.zero_ne_one, Nat.one_ne_zero, reduceCtorEq] at h; exact h)
        have LD := fun w => Ldexp_near (q1) (u + 1) (by omega) (by omega) (by omega) (by omega) w
        rw [← nconv, show (((q1) : Nat) : Int) = (q1 : Int) by omega, ← HR.out] at LD
        clear HR
       all_goals
        have a1 := and1 q (by omega)
        rw [hq2] at a1; have a2 := and1 q1 (by omega)
        rw [hq3] at a2; clear HF hq1; rcases b with _ | _
        all_goals
         go_wp2_with (first | (go_at_call 179; (with_reducible refine (LD _).mono ?_); rintro e w' ⟨rfl, hw⟩; obtain rfl := hw.symm) | (go_at_call 180; (with_reducible refine (IF.out _).mono ?_); rintro e w' ⟨rfl, hw⟩; obtain rfl := hw.symm) | (go_at_call 180; (with_reducible refine (IG.out _).mono ?_); rintro e w' ⟨rfl, hw⟩; obtain rfl := hw.symm))
         go_ret2
         exact ⟨⟨_, rfl⟩, HB9.out⟩
     · rcases Nat.mod_two_eq_zero_or_one q1 with hq3 | hq3 <;> rcases ex with _ | _
       all_goals first
        | (have HR : Hid (F = if q1 = 0 then 0 else min (q1 + (u + 1 + 1074).toNat * 4503599627370496) 9218868437227405312) := hid (by
            have h := HF.out; unfold nround at h; rw [if_pos hbig, ← hq1] at h; simp only [hq2, hq3, decide_true, decide_false, Bool.not_true, Bool.not_false, Bool.true_and, Bool.false_and, Bool.and_true, Bool.and_false, Bool.or_true, Bool.or_false, Bool.true_or, Bool.false_or, Bool.toNat_true, Bool.toNat_false, Nat.add_zero, Nat.zero_ne_one, Nat.one_ne_zero, reduceCtorEq] at h; exact h)
           have LD := fun w => Ldexp_near (q1) (u + 1) (by omega) (by omega) (by omega) (by omega) w
           rw [← nconv, show (((q1) : Nat) : Int) = (q1 : Int) by omega, ← HR.out] at LD
           clear HR)
        | (have HR : Hid (F = if q1 + 1 = 0 then 0 else min (q1 + 1 + (u + 1 + 1074).toNat * 4503599627370496) 9218868437227405312) := hid (by
            have h := HF.out; unfold nround at h; rw [if_pos hbig, ← hq1] at h; simp only [hq2, hq3, decide_true, decide_false, Bool.not_true, Bool.not_false, Bool.true_and, Bool.false_and, Bool.and_true, Bool.and_false, Bool.or_true, Bool.or_false, Bool.true_or, Bool.false_or, Bool.toNat_true, Bool.toNat_false, Nat.add_zero, Nat.zero_ne_one, Nat.one_ne_zero, reduceCtorEq] at h; exact h)
           have LD := fun w => Ldexp_near (q1 + 1) (u + 1) (by omega) (by omega) (by omega) (by omega) w
           rw [← nconv, show (((q1 + 1) : Nat) : Int) = (q1 : Int) + 1 by omega, ← HR.out] at LD
           clear HR)
       all_goals
        have a1 := and1 q (by omega)
        rw [hq2] at a1; have a2 := and1 q1 (by omega)
        rw [hq3] at a2; clear HF hq1; rcases b with _ | _
        all_goals
         go_wp2_with (first | (go_at_call 179; (with_reducible refine (LD _).mono ?_); rintro e w' ⟨rfl, hw⟩; obtain rfl := hw.symm) | (go_at_call 180; (with_reducible refine (IF.out _).mono ?_); rintro e w' ⟨rfl, hw⟩; obtain rfl := hw.symm) | (go_at_call 180; (with_reducible refine (IG.out _).mono ?_); rintro e w' ⟨rfl, hw⟩; obtain rfl := hw.symm))
         go_ret2
         exact ⟨⟨_, rfl⟩, HB9.out⟩
   · have hbI : decide ((9007199254740992 : Int) ≤ (q : Int)) = false := decide_eq_false (by omega)
     have hM := HM0.out; rcases M0 with _ | _
     · have HR : Hid (F = if q = 0 then 0 else min (q + (u + 1074).toNat * 4503599627370496) 9218868437227405312) := hid (by
        have h := HF.out; unfold nround at h; rw [if_neg hbig, ← hM] at h; simp only [decide_true, decide_false, Bool.not_true, Bool.not_false, Bool.true_and, Bool.false_and, Bool.and_true, Bool.and_false, Bool.or_true, Bool.or_false, Bool.true_or, Bool.false_or, Bool.toNat_true, Bool.toNat_false, Nat.add_zero, Nat.zero_ne_one, Nat.one_ne_zero, reduceCtorEq] at h; exact h)
       have LD := fun w => Ldexp_near (q) (u) (by omega) (by omega) (by omega) (by omega) w
       rw [← nconv, show (((q) : Nat) : Int) = (q : Int) by omega, ← HR.out] at LD
       clear HR; clear HF hM hbig; rcases b with _ | _ <;> rcases ex with _ | _
       all_goals
        go_wp2_with (first | (go_at_call 179; (with_reducible refine (LD _).mono ?_); rintro e w' ⟨rfl, hw⟩; obtain rfl := hw.symm) | (go_at_call 180; (with_reducible refine (IF.out _).mono ?_); rintro e w' ⟨rfl, hw⟩; obtain rfl := hw.symm) | (go_at_call 180; (with_reducible refine (IG.out _).mono ?_); rintro e w' ⟨rfl, hw⟩; obtain rfl := hw.symm))
        go_ret2
        exact ⟨⟨_, rfl⟩, HB9.out⟩
     · have HR : Hid (F = if q + 1 = 0 then 0 else min (q + 1 + (u + 1074).toNat * 4503599627370496) 9218868437227405312) := hid (by
        have h := HF.out; unfold nround at h; rw [if_neg hbig, ← hM] at h; simp only [decide_true, decide_false, Bool.not_true, Bool.not_false, Bool.true_and, Bool.false_and, Bool.and_true, Bool.and_false, Bool.or_true, Bool.or_false, Bool.true_or, Bool.false_or, Bool.toNat_true, Bool.toNat_false, Nat.add_zero, Nat.zero_ne_one, Nat.one_ne_zero, reduceCtorEq] at h; exact h)
       have LD := fun w => Ldexp_near (q + 1) (u) (by omega) (by omega) (by omega) (by omega) w
       rw [← nconv, show (((q + 1) : Nat) : Int) = (q : Int) + 1 by omega, ← HR.out] at LD
       clear HR; clear HF hM hbig; rcases b with _ | _ <;> rcases ex with _ | _
       all_goals
        go_wp2_with (first | (go_at_call 179; (with_reducible refine (LD _).mono ?_); rintro e w' ⟨rfl, hw⟩; obtain rfl := hw.symm) | (go_at_call 180; (with_reducible refine (IF.out _).mono ?_); rintro e w' ⟨rfl, hw⟩; obtain rfl := hw.symm) | (go_at_call 180; (with_reducible refine (IG.out _).mono ?_); rintro e w' ⟨rfl, hw⟩; obtain rfl := hw.symm))
        go_ret2
        exact ⟨⟨_, rfl⟩, HB9.out⟩
theorem enearCoreP (b : Bool) (aa ad : Option Addr) (la ca ld cd k q r : Nat) (RW LQ L2 LX : List Nat) (blA blD : Nat) (u cc : Int) (ex : Bool) (F lr : Nat) (w : World)
 (q1b : q < 18014398509481984) (hu1 : -1074 ≤ u) (hu2 : u ≤ 549755813888) (hbA : blA ≤ 549755813888) (hbD : blD ≤ 549755813888) (hsg : 0 ≤ u) (hk : u = (k : Int)) (hmax : max ((blA : Int) - blD - 53) (-1074) = u) (hc1 : -1 ≤ cc) (hc2 : cc ≤ 1)
 (BA : Hid (Calls Tryz.prog 221 #[.slice aa la ca] w fun e w' => e = .returned (.int .i64 blA) ∧ w' = w)) (BD : Hid (Calls Tryz.prog 221 #[.slice ad ld cd] w fun e w' => e = .returned (.int .i64 blD) ∧ w' = w))
 (UP : Hid (Calls Tryz.prog 210 #[.slice ad ld cd, .int .i64 k] w fun e w' => ∃ v, e = .returned v ∧ Wd w' v L2 ∧ Below w.heap.size w w'))
 (DV : Hid (∀ v w', Below w.heap.size w w' → Wd w' v L2 → Calls Tryz.prog 203 #[.slice aa la ca, v] w' fun e w'' => ∃ q' ar cr, e = .returned (.tuple #[q', .slice ar lr cr]) ∧ Wd w'' q' LQ ∧ Wd w'' (.slice ar lr cr) RW ∧ Below w'.heap.size w' w''))
 (D0 : Hid (∀ w', Below w.heap.size w w' → True))
 (TU : Hid (∀ v w', Wd w' v LQ → Calls Tryz.prog 222 #[v] w' fun e w'' => e = .returned (.int .u64 q) ∧ w'' = w'))
 (UR : Hid (∀ v w', Wd w' v RW → Calls Tryz.prog 210 #[v, .int .i64 1] w' fun e w'' => ∃ v, e = .returned v ∧ Wd w'' v (words (r * 2)) ∧ Below w'.heap.size w' w''))
 (CM : Hid (∀ v1 v2 w', Wd w' v1 (words (r * 2)) → Wd w' v2 L2 → Calls Tryz.prog 155 #[v1, v2] w' fun e w'' => e = .returned (.int .i64 cc) ∧ Drawn w' w''))
 (e0 : ((la : Int) == 0) = false) (ex0 : ((lr : Int) == 0) = ex)
 (HF : Hid (F = if (nround q ex cc u).1 = 0 then 0 else min ((nround q ex cc u).1 + ((nround q ex cc u).2 + 1074).toNat * 4503599627370496) 9218868437227405312))
 (IF : Hid (∀ w, Calls Tryz.prog 180 #[.float .f64 F, .int .i64 0] w fun e w' => e = .returned (.bool (Ieee.double.order (F % 9223372036854775808) 9218868437227405311 == some .gt)) ∧ w' = w))
 (IG : Hid (∀ w, Calls Tryz.prog 180 #[.float .f64 (Op.negFloat .f64 F), .int .i64 0] w fun e w' => e = .returned (.bool (Ieee.double.order (Op.negFloat .f64 F % 9223372036854775808) 9218868437227405311 == some .gt)) ∧ w' = w))
 (Q2 : u = -1074 ∨ 4503599627370496 ≤ q) :
 Calls Tryz.prog 181 #[.bool b, .slice aa la ca, .slice ad ld cd] w (NearPost b F w) := by
 subst hk; have rn := run_fneg; obtain ⟨M0, hM0⟩ : ∃ M0, M0 = (decide (0 < cc) || (decide (cc = 0) && decide (q % 2 = 1))) := ⟨_, rfl⟩; have HM0 := hid hM0; have HMX := hid hmax; clear hM0 hmax; go_enter Tryz.func181, Tryz.ntmps181; go_upto_region 3 with fail
 go_cut [8] from 20 to 26 (fun s8 wx => s8 = .int .i64 (k : Int) ∧ w = wx)
 case first =>
  go_wp2_with (first | (go_at_call 221; (with_reducible refine BA.out.mono ?_); rintro e w' ⟨rfl, hw⟩; obtain rfl := hw.symm) | (go_at_call 221; (with_reducible refine BD.out.mono ?_); rintro e w' ⟨rfl, hw⟩; obtain rfl := hw.symm))
  all_goals
   go_meet
   have HMY := HMX.out; exact ⟨congrArg (Value.int .i64) (by omega), rfl⟩
 case rest =>
  obtain ⟨rfl, rfl⟩ := hcut; go_upto_region 10 with (first | (go_at_call 210; (with_reducible refine UP.out.mono ?_); rintro e w1 ⟨v1, rfl, h1, hb1⟩) | (go_at_call 203; (with_reducible refine (DV.out _ _ hb1 h1).mono ?_); rintro e w2 ⟨vq, ar, cr, rfl, hq2, hr2, hw2⟩; have hb2 := Below.trans hb1 (below_low hw2 hb1.size); have h12 := h1.below hw2) | (go_at_call 222; (with_reducible refine (TU.out _ _ hq2).mono ?_); rintro e w' ⟨rfl, hw⟩; obtain rfl := hw.symm) | (go_at_call 210; (with_reducible refine (UR.out _ _ hr2).mono ?_); rintro e w3 ⟨v3, rfl, h3, hw3⟩; have hb3 := Below.trans hb2 (below_low hw3 hb2.size); have h13 := h12.below hw3) | (go_at_call 155; (with_reducible refine (CM.out _ _ _ h3 h13).mono ?_); rintro e w9 ⟨rfl, hd9⟩; have hb9 := Below.trans hb3 (below_low hd9.below hb3.size); clear hd9))
  have HB9 := hid hb9; clear hb1 hb2 hb3 hb9 h1 hq2 hr2 hw2 h12 hw3 h3 h13; go_cut [13] from 48 to 58 (fun s13 wx => s13 = .bool M0 ∧ w9 = wx)
  case first =>
   have HM := HM0.out; rcases (show cc = -1 ∨ cc = 0 ∨ cc = 1 by omega) with rfl | rfl | rfl <;> rcases Nat.mod_two_eq_zero_or_one q with hq2 | hq2
   all_goals
    have a1 := and1 q (by omega)
    rw [hq2] at a1 HM; simp only [decide_true, decide_false, Int.lt_irrefl, Bool.or_false, Bool.false_or, Bool.and_false, Bool.and_true, Bool.true_and, Bool.false_and, Nat.zero_ne_one, reduceCtorEq] at HM
    try (rw [show decide ((0 : Int) < -1) = false from rfl] at HM)
    try (rw [show decide ((0 : Int) < 1) = true from rfl] at HM)
    try (rw [show decide ((-1 : Int) = 0) = false from rfl] at HM)
    try simp at HM
    go_wp2_with fail
    go_meet
    exact ⟨by rw [HM], rfl⟩
  case rest =>
   obtain ⟨rfl, rfl⟩ := hcut; by_cases hbig : 9007199254740992 ≤ q
   · obtain ⟨q1, hq1⟩ : ∃ q1, q1 = q / 2 := ⟨_, rfl⟩; have q1e : (q : Int) / 2 = (q1 : Int) := by omega
     have hq1b : 4503599627370496 ≤ q1 := by omega
     have hq1c : q1 < 9007199254740992 := by omega
     have hbI : (9007199254740992 : Int) ≤ (q : Int) := by omega
     rcases Nat.mod_two_eq_zero_or_one q with hq2 | hq2
     · rcases Nat.mod_two_eq_zero_or_one q1 with hq3 | hq3 <;> rcases ex with _ | _
       all_goals
        have HR : Hid (F = if q1 = 0 then 0 else min (q1 + ((k : Int) + 1 + 1074).toNat * 4503599627370496) 9218868437227405312) := hid (by
         have h := HF.out; unfold nround at h; rw [if_pos hbig, ← hq1] at h; simp only [hq2, hq3, decide_true, decide_false, Bool.not_true, Bool.not_false, Bool.true_and, Bool.false_and, Bool.and_true, Bool.and_false, Bool.or_true, Bool.or_false, Bool.true_or, Bool.false_or, Bool.toNat_true, Bool.toNat_false, Nat.add_zero, Nat.zero_ne_one, Nat.one_ne_zero, reduceCtorEq] at h; exact h)
        have LD := fun w => Ldexp_near (q1) ((k : Int) + 1) (by omega) (by omega) (by omega) (by omega) w
        rw [← nconv, show (((q1) : Nat) : Int) = (q1 : Int) by omega, ← HR.out] at LD
        clear HR
       all_goals
        have a1 := and1 q (by omega)
        rw [hq2] at a1; have a2 := and1 q1 (by omega)
        rw [hq3] at a2; clear HF hq1; rcases b with _ | _
        all_goals
         go_wp2_with (first | (go_at_call 179; (with_reducible refine (LD _).mono ?_); rintro e w' ⟨rfl, hw⟩; obtain rfl := hw.symm) | (go_at_call 180; (with_reducible refine (IF.out _).mono ?_); rintro e w' ⟨rfl, hw⟩; obtain rfl := hw.symm) | (go_at_call 180; (with_reducible refine (IG.out _).mono ?_); rintro e w' ⟨rfl, hw⟩; obtain rfl := hw.symm))
         go_ret2
         exact ⟨⟨_, rfl⟩, HB9.out⟩
     · rcases Nat.mod_two_eq_zero_or_one q1 with hq3 | hq3 <;> rcases ex with _ | _
       all_goals first
        | (have HR : Hid (F = if q1 = 0 then 0 else min (q1 + ((k : Int) + 1 + 1074).toNat * 4503599627370496) 9218868437227405312) := hid (by
            have h := HF.out; unfold nround at h; rw [if_pos hbig, ← hq1] at h; simp only [hq2, hq3, decide_true, decide_false, Bool.not_true, Bool.not_false, Bool.true_and, Bool.false_and, Bool.and_true, Bool.and_false, Bool.or_true, Bool.or_false, Bool.true_or, Bool.false_or, Bool.toNat_true, Bool.toNat_false, Nat.add_zero, Nat.zero_ne_one, Nat.one_ne_zero, reduceCtorEq] at h; exact h)
           have LD := fun w => Ldexp_near (q1) ((k : Int) + 1) (by omega) (by omega) (by omega) (by omega) w
           rw [← nconv, show (((q1) : Nat) : Int) = (q1 : Int) by omega, ← HR.out] at LD
           clear HR)
        | (have HR : Hid (F = if q1 + 1 = 0 then 0 else min (q1 + 1 + ((k : Int) + 1 + 1074).toNat * 4503599627370496) 9218868437227405312) := hid (by
            have h := HF.out; unfold nround at h; rw [if_pos hbig, ← hq1] at h; simp only [hq2, hq3, decide_true, decide_false, Bool.not_true, Bool.not_false, Bool.true_and, Bool.false_and, Bool.and_true, Bool.and_false, Bool.or_true, Bool.or_false, Bool.true_or, Bool.false_or, Bool.toNat_true, Bool.toNat_false, Nat.add_zero, Nat.zero_ne_one, Nat.one_ne_zero, reduceCtorEq] at h; exact h)
           have LD := fun w => Ldexp_near (q1 + 1) ((k : Int) + 1) (by omega) (by omega) (by omega) (by omega) w
           rw [← nconv, show (((q1 + 1) : Nat) : Int) = (q1 : Int) + 1 by omega, ← HR.out] at LD
           clear HR)
       all_goals
        have a1 := and1 q (by omega)
        rw [hq2] at a1; have a2 := and1 q1 (by omega)
        rw [hq3] at a2; clear HF hq1; rcases b with _ | _
        all_goals
         go_wp2_with (first | (go_at_call 179; (with_reducible refine (LD _).mono ?_); rintro e w' ⟨rfl, hw⟩; obtain rfl := hw.symm) | (go_at_call 180; (with_reducible refine (IF.out _).mono ?_); rintro e w' ⟨rfl, hw⟩; obtain rfl := hw.symm) | (go_at_call 180; (with_reducible refine (IG.out _).mono ?_); rintro e w' ⟨rfl, hw⟩; obtain rfl := hw.symm))
         go_ret2
         exact ⟨⟨_, rfl⟩, HB9.out⟩
   · have hbI : decide ((9007199254740992 : Int) ≤ (q : Int)) = false := decide_eq_false (by omega)
     have hM := HM0.out; rcases M0 with _ | _
     · have HR : Hid (F = if q = 0 then 0 else min (q + ((k : Int) + 1074).toNat * 4503599627370496) 9218868437227405312) := hid (by
        have h := HF.out; unfold nround at h; rw [if_neg hbig, ← hM] at h; simp only [decide_true, decide_false, Bool.not_true, Bool.not_false, Bool.true_and, Bool.false_and, Bool.and_true, Bool.and_false, Bool.or_true, Bool.or_false, Bool.true_or, Bool.false_or, Bool.toNat_true, Bool.toNat_false, Nat.add_zero, Nat.zero_ne_one, Nat.one_ne_zero, reduceCtorEq] at h; exact h)
       have LD := fun w => Ldexp_near (q) ((k : Int)) (by omega) (by omega) (by omega) (by omega) w
       rw [← nconv, show (((q) : Nat) : Int) = (q : Int) by omega, ← HR.out] at LD
       clear HR; clear HF hM hbig; rcases b with _ | _ <;> rcases ex with _ | _
       all_goals
        go_wp2_with (first | (go_at_call 179; (with_reducible refine (LD _).mono ?_); rintro e w' ⟨rfl, hw⟩; obtain rfl := hw.symm) | (go_at_call 180; (with_reducible refine (IF.out _).mono ?_); rintro e w' ⟨rfl, hw⟩; obtain rfl := hw.symm) | (go_at_call 180; (with_reducible refine (IG.out _).mono ?_); rintro e w' ⟨rfl, hw⟩; obtain rfl := hw.symm))
        go_ret2
        exact ⟨⟨_, rfl⟩, HB9.out⟩
     · have HR : Hid (F = if q + 1 = 0 then 0 else min (q + 1 + ((k : Int) + 1074).toNat * 4503599627370496) 9218868437227405312) := hid (by
        have h := HF.out; unfold nround at h; rw [if_neg hbig, ← hM] at h; simp only [decide_true, decide_false, Bool.not_true, Bool.not_false, Bool.true_and, Bool.false_and, Bool.and_true, Bool.and_false, Bool.or_true, Bool.or_false, Bool.true_or, Bool.false_or, Bool.toNat_true, Bool.toNat_false, Nat.add_zero, Nat.zero_ne_one, Nat.one_ne_zero, reduceCtorEq] at h; exact h)
       have LD := fun w => Ldexp_near (q + 1) ((k : Int)) (by omega) (by omega) (by omega) (by omega) w
       rw [← nconv, show (((q + 1) : Nat) : Int) = (q : Int) + 1 by omega, ← HR.out] at LD
       clear HR; clear HF hM hbig; rcases b with _ | _ <;> rcases ex with _ | _
       all_goals
        go_wp2_with (first | (go_at_call 179; (with_reducible refine (LD _).mono ?_); rintro e w' ⟨rfl, hw⟩; obtain rfl := hw.symm) | (go_at_call 180; (with_reducible refine (IF.out _).mono ?_); rintro e w' ⟨rfl, hw⟩; obtain rfl := hw.symm) | (go_at_call 180; (with_reducible refine (IG.out _).mono ?_); rintro e w' ⟨rfl, hw⟩; obtain rfl := hw.symm))
        go_ret2
        exact ⟨⟨_, rfl⟩, HB9.out⟩
end Go.Proofs.YthjeejnggpjnjaaGreatDoor
