/- A part: DU. -/
import Derived.Test.YthjeejnggpjnjaaGreatDoorZN25
set_option linter.unusedSimpArgs false
set_option linter.unusedVariables false
set_option maxRecDepth 100000
set_option maxHeartbeats 16000000
set_option synthInstance.maxHeartbeats 2000000
set_option synthInstance.maxSize 100000
namespace Go.Proofs.YthjeejnggpjnjaaGreatDoor
open Go.RowKit
theorem lwSign {w : World} {b : Nat} (hb : b < 18446744073709551616) :
 Calls Tryz.prog 41 #[.float .f64 b] w fun e w' => e = .returned (.bool (decide (9223372036854775808 ≤ b))) ∧ w' = w := by
 by_cases h : 9223372036854775808 ≤ b
 · have e : IntKind.i64.wrap (b : Int) = (b : Int) - 18446744073709551616 := by rw [IntKind.wrap_i64]; omega
   have h2 : (b : Int) - 18446744073709551616 < 0 := by omega
   rw [decide_eq_true h]; go_enter Tryz.func41, Tryz.ntmps41; go_wp2_with fail
   go_ret
   exact ⟨rfl, rfl⟩
 · have e : IntKind.i64.wrap (b : Int) = (b : Int) := by rw [IntKind.wrap_i64]; omega
   have h2 : ¬ (b : Int) < 0 := by omega
   rw [decide_eq_false h]; go_enter Tryz.func41, Tryz.ntmps41; go_wp2_with fail
   go_ret
   exact ⟨rfl, rfl⟩
theorem lawNear {w : World} {x y : Nat} {a b c d a' b' c' d' : ByteArray} [sa : SzC a] [sb : SzC b] [sc : SzC c] [sd : SzC d] [sa' : SzC a'] [sb' : SzC b'] [sc' : SzC c'] [sd' : SzC d'] [hv : VrB w] (hx : x < 18446744073709551616) (hy : y < 18446744073709551616) :
 Calls Tryz.prog 10 #[.agg #[.int .u64 (x : Int), .int .u64 (y : Int)], .agg #[.string a, .string b, .string c, .string d], .agg #[.string a', .string b', .string c', .string d']] w fun e w' => e = .returned (.bool true) ∧ Kp0 w w' := by
 go_enter Tryz.func10, Tryz.ntmps10; obtain ⟨s0, s1, s2, s3, E, OF, HP⟩ := ofT hx hy; have HPP := hid HP; clear HP; go_upto_if 27 with (first | (go_at_call 12; (with_reducible refine Calls.mono (lwAwake (hv := ⟨VrC.out⟩)) ?_); rintro e wc ⟨rfl, _⟩) | (go_at_call 15; (with_reducible refine Calls.mono (lwNumber) ?_); rintro e wc ⟨rfl, _⟩) | (go_at_call 26; (with_reducible refine Calls.mono (OF.out _ inferInstance) ?_); rintro e wc ⟨rfl, _⟩))
 go_cut [8, 9, 10, 11] from 26 (fun s8 s9 s10 s11 wx => Kp0 (((w.alloc (.cells #[.int .u64 (x : Int), .int .u64 (y : Int)] 25)).alloc (.cells #[.string a, .string b, .string c, .string d] 33)).alloc (.cells #[.string a', .string b', .string c', .string d'] 33)) wx)
 case first =>
  by_cases h0 : E = 0
  · obtain ⟨fx, fy, hT, rfl, rfl, rfl, rfl⟩ := HPP.out h0; subst h0; have hC := check_told hT; clear OF HPP
    · skip
      have N1 := nb_self hx fx; have N2 := nb_self hy fy
      have NR := hid (fun (W : World) (v : VrC W) => show Calls Tryz.prog 28 #[.agg #[.string (strN (frat x).num), .string (strN ((frat x).den : Int)), .string (strN (frat y).num), .string (strN ((frat y).den : Int))]] W (fun e w' => e = .returned (.tuple #[.complex .f64 (nbits (frat x)) (nbits (frat y)), .int .i64 0]) ∧ Kp0 W w') from by
       obtain ⟨g1, g2, g3, g4⟩ := told_fit hT; have := gaNearOk (hv := ⟨v.out⟩) (a := strN (frat x).num) (b := strN ((frat x).den : Int)) (c := strN (frat y).num) (d := strN ((frat y).den : Int)) hC (by rw [rval_strN]; exact N1.2) (by rw [rval_strN]; exact N2.2)
       rwa [rval_strN, rval_strN] at this)
      have q1 := nb_eq hx fx; have q2 := nb_eq hy fy; have S1 := hid (fun W : World => lwSign (w := W) (nb_lt (frat x)))
      have S2 := hid (fun W : World => lwSign (w := W) (nb_lt (frat y)))
      have z1 := feq_zero (nbits (frat x)) (nb_lt _); have z2 := feq_zero (nbits (frat y)) (nb_lt _); have G1 := hid (nb_sign (x := frat x)); have G2 := hid (nb_sign (x := frat y)); generalize strN (frat x).num = t0 at *; generalize strN ((frat x).den : Int) = t1 at *; generalize strN (frat y).num = t2 at *; generalize strN ((frat y).den : Int) = t3 at *; generalize nbits (frat x) = u at *; generalize nbits (frat y) = v at *; obtain ⟨B1, hB1⟩ : ∃ B, B = decide (9223372036854775808 ≤ u) := ⟨_, rfl⟩; obtain ⟨Z1, hZ1⟩ : ∃ B, B = decide (u % 9223372036854775808 = 0) := ⟨_, rfl⟩; obtain ⟨B2, hB2⟩ : ∃ B, B = decide (9223372036854775808 ≤ v) := ⟨_, rfl⟩; obtain ⟨Z2, hZ2⟩ : ∃ B, B = decide (v % 9223372036854775808 = 0) := ⟨_, rfl⟩; have k1 : (B1 && Z1) = false := by rw [hB1, hZ1]; simpa using G1.out
      have k2 : (B2 && Z2) = false := by rw [hB2, hZ2]; simpa using G2.out
      rw [← hB1] at S1; rw [← hB2] at S2; have y1 : (FloatKind.f64.format.order u 0 == some Ordering.eq) = Z1 := z1.trans hZ1.symm; have y2 : (FloatKind.f64.format.order v 0 == some Ordering.eq) = Z2 := z2.trans hZ2.symm; clear hB1 hB2 hZ1 hZ2 z1 z2 G1 G2 N1 N2 hC hT; cases B1 <;> cases Z1 <;> cases B2 <;> cases Z2
      all_goals first
       | exact absurd k1 (by decide)
       | exact absurd k2 (by decide)
       | (clear k1 k2
          go_wp2_with (first | (go_at_call 15; (with_reducible refine Calls.mono (lwNumber) ?_); rintro e wc ⟨rfl, _⟩) | (go_at_call 28; (with_reducible refine Calls.mono (NR.out _ inferInstance) ?_); rintro e wc ⟨rfl, _⟩) | (go_at_call 41; (with_reducible refine (S1.out _).mono ?_); rintro e w' ⟨rfl, hw⟩; obtain rfl := hw.symm) | (go_at_call 41; (with_reducible refine (S2.out _).mono ?_); rintro e w' ⟨rfl, hw⟩; obtain rfl := hw.symm))
          go_meet
          exact ⟨Gr.out⟩)
  · have b0 : (E == 0) = false := beq_eq_false_iff_ne.2 h0; clear OF HPP; go_wp2_with fail
    go_meet
    exact ⟨Gr.out⟩
 case rest =>
  generalize hwq : wc = wq at *; clear hwq; have ikq := hcut; by_cases h1 : checkE a b c d = 0
  case' neg =>
   have K1 := hid (fun (W : World) (v : VrC W) => gaCheckX (a := a) (b := b) (c := c) (d := d) (hv := v))
   generalize checkE a b c d = E at *; have b1 : (E != 0) = true := bne_iff_ne.2 h1; go_wp2_with (go_at_call 33; (with_reducible refine Calls.mono (K1.out _ inferInstance) ?_); rintro e wc ⟨rfl, _⟩)
   go_ret
   exact ⟨rfl, ⟨Gr.out⟩⟩
  by_cases h2 : checkE a' b' c' d' = 0
  case' neg =>
   have K1 := hid (fun (W : World) (v : VrC W) => h1 ▸ gaCheckX (a := a) (b := b) (c := c) (d := d) (hv := v))
   have K2 := hid (fun (W : World) (v : VrC W) => gaCheckX (a := a') (b := b') (c := c') (d := d') (hv := v))
   generalize checkE a' b' c' d' = E at *; have b1 : (E != 0) = true := bne_iff_ne.2 h2; go_wp2_with (first | (go_at_call 33; (with_reducible refine Calls.mono (K1.out _ inferInstance) ?_); rintro e wc ⟨rfl, _⟩) | (go_at_call 33; (with_reducible refine Calls.mono (K2.out _ inferInstance) ?_); rintro e wc ⟨rfl, _⟩))
   go_ret
   exact ⟨rfl, ⟨Gr.out⟩⟩
  have K1 := hid (fun (W : World) (v : VrC W) => h1 ▸ gaCheckX (a := a) (b := b) (c := c) (d := d) (hv := v))
  have K2 := hid (fun (W : World) (v : VrC W) => h2 ▸ gaCheckX (a := a') (b := b') (c := c') (d := d') (hv := v))
  have CM := cmp0 (check_F h1) (check_F h2); have CN := cmp0 (check_F h2) (check_F h1); rw [rcmp_swap] at CN; obtain ⟨u1, v1, E1, N1, M1⟩ := nearT h1; obtain ⟨u2, v2, E2, N2, M2⟩ := nearT h2; have HM1 := hid M1; have HM2 := hid M2; obtain ⟨e1, e2, -, -⟩ := check_same h1; obtain ⟨f1, f2, -, -⟩ := check_same h2; have HT := hid (show rval a b = rval a' b' → a = a' ∧ b = b' from fun h => ⟨by rw [e1, f1, h], by rw [e2, f2, h]⟩)
  clear M1 M2 h1 h2 e1 e2 f1 f2; rcases rcmp_any (rval a b) (rval a' b') with ⟨ho, hlt⟩ | ⟨ho, heq⟩ | ⟨ho, hlt⟩
  all_goals
   rw [ho] at CM CN; clear ho
  case' inl =>
   have ht : ¬ (a = a' ∧ b = b') := by
    rintro ⟨rfl, rfl⟩; exact Rat.lt_irrefl hlt
   have HF := hid (fun (hE1 : E1 = 0) (hE2 : E2 = 0) => show (FloatKind.f64.format.order u1 u2 == some Ordering.gt) = false from by
    rw [(HM1.out hE1).1, (HM2.out hE2).1]; exact near_lt (HM1.out hE1).2 (HM2.out hE2).2 hlt)
   clear hlt
  case' inr.inl =>
   have HQ := hid heq; obtain ⟨ea, eb⟩ := HT.out heq; subst ea; subst eb
   have HF := hid (fun (hE1 : E1 = 0) (hE2 : E2 = 0) => show (FloatKind.f64.format.order u1 u2 == some Ordering.eq) = true from by
    rw [(HM1.out hE1).1, (HM2.out hE2).1]; exact near_eq (HM1.out hE1).2)
   clear heq
  case' inr.inr =>
   have ht : ¬ (a = a' ∧ b = b') := by
    rintro ⟨rfl, rfl⟩; exact Rat.lt_irrefl hlt
   have HF := hid (fun (hE1 : E1 = 0) (hE2 : E2 = 0) => show (FloatKind.f64.format.order u1 u2 == some Ordering.lt) = false from by
    rw [(HM1.out hE1).1, (HM2.out hE2).1]; exact near_gt (HM1.out hE1).2 (HM2.out hE2).2 hlt)
   clear hlt
  all_goals
   clear HT HM1 HM2; by_cases g1 : E1 = 0
   all_goals first
    | (have b1 : (E1 != 0) = false := by rw [g1]; rfl
       by_cases g2 : E2 = 0
       · have b2 : (E2 != 0) = false := by rw [g2]; rfl
         have HF2 := HF.out g1 g2; clear HF
         first
          | (by_cases ea : a = a'
             · subst ea; have n2 := str_ne (fun h => ht ⟨rfl, h⟩)
               clear ht
               (go_wp2_with (first | (go_at_call 33; (with_reducible refine Calls.mono (K1.out _ inferInstance) ?_); rintro e wc ⟨rfl, _⟩) | (go_at_call 33; (with_reducible refine Calls.mono (K2.out _ inferInstance) ?_); rintro e wc ⟨rfl, _⟩) | (go_at_call 42; (with_reducible refine Calls.mono (CM.out _ inferInstance) ?_); rintro e wc ⟨rfl, _⟩) | (go_at_call 42; (with_reducible refine Calls.mono (CN.out _ inferInstance) ?_); rintro e wc ⟨rfl, _⟩) | (go_at_call 28; (with_reducible refine Calls.mono (N1.out _ inferInstance) ?_); rintro e wc ⟨rfl, _⟩) | (go_at_call 28; (with_reducible refine Calls.mono (N2.out _ inferInstance) ?_); rintro e wc ⟨rfl, _⟩)); go_ret; exact ⟨rfl, ⟨Gr.out⟩⟩)
             · have n1 := str_ne ea; clear ht ea
               (go_wp2_with (first | (go_at_call 33; (with_reducible refine Calls.mono (K1.out _ inferInstance) ?_); rintro e wc ⟨rfl, _⟩) | (go_at_call 33; (with_reducible refine Calls.mono (K2.out _ inferInstance) ?_); rintro e wc ⟨rfl, _⟩) | (go_at_call 42; (with_reducible refine Calls.mono (CM.out _ inferInstance) ?_); rintro e wc ⟨rfl, _⟩) | (go_at_call 42; (with_reducible refine Calls.mono (CN.out _ inferInstance) ?_); rintro e wc ⟨rfl, _⟩) | (go_at_call 28; (with_reducible refine Calls.mono (N1.out _ inferInstance) ?_); rintro e wc ⟨rfl, _⟩) | (go_at_call 28; (with_reducible refine Calls.mono (N2.out _ inferInstance) ?_); rintro e wc ⟨rfl, _⟩)); go_ret; exact ⟨rfl, ⟨Gr.out⟩⟩))
          | skip
            (go_wp2_with (first | (go_at_call 33; (with_reducible refine Calls.mono (K1.out _ inferInstance) ?_); rintro e wc ⟨rfl, _⟩) | (go_at_call 33; (with_reducible refine Calls.mono (K2.out _ inferInstance) ?_); rintro e wc ⟨rfl, _⟩) | (go_at_call 42; (with_reducible refine Calls.mono (CM.out _ inferInstance) ?_); rintro e wc ⟨rfl, _⟩) | (go_at_call 42; (with_reducible refine Calls.mono (CN.out _ inferInstance) ?_); rintro e wc ⟨rfl, _⟩) | (go_at_call 28; (with_reducible refine Calls.mono (N1.out _ inferInstance) ?_); rintro e wc ⟨rfl, _⟩) | (go_at_call 28; (with_reducible refine Calls.mono (N2.out _ inferInstance) ?_); rintro e wc ⟨rfl, _⟩)); go_ret; exact ⟨rfl, ⟨Gr.out⟩⟩)
       · have b2 : (E2 != 0) = true := bne_iff_ne.2 g2; clear HF
         first
          | (by_cases ea : a = a'
             · subst ea; have n2 := str_ne (fun h => ht ⟨rfl, h⟩)
               clear ht
               (go_wp2_with (first | (go_at_call 33; (with_reducible refine Calls.mono (K1.out _ inferInstance) ?_); rintro e wc ⟨rfl, _⟩) | (go_at_call 33; (with_reducible refine Calls.mono (K2.out _ inferInstance) ?_); rintro e wc ⟨rfl, _⟩) | (go_at_call 42; (with_reducible refine Calls.mono (CM.out _ inferInstance) ?_); rintro e wc ⟨rfl, _⟩) | (go_at_call 42; (with_reducible refine Calls.mono (CN.out _ inferInstance) ?_); rintro e wc ⟨rfl, _⟩) | (go_at_call 28; (with_reducible refine Calls.mono (N1.out _ inferInstance) ?_); rintro e wc ⟨rfl, _⟩) | (go_at_call 28; (with_reducible refine Calls.mono (N2.out _ inferInstance) ?_); rintro e wc ⟨rfl, _⟩)); go_ret; exact ⟨rfl, ⟨Gr.out⟩⟩)
             · have n1 := str_ne ea; clear ht ea
               (go_wp2_with (first | (go_at_call 33; (with_reducible refine Calls.mono (K1.out _ inferInstance) ?_); rintro e wc ⟨rfl, _⟩) | (go_at_call 33; (with_reducible refine Calls.mono (K2.out _ inferInstance) ?_); rintro e wc ⟨rfl, _⟩) | (go_at_call 42; (with_reducible refine Calls.mono (CM.out _ inferInstance) ?_); rintro e wc ⟨rfl, _⟩) | (go_at_call 42; (with_reducible refine Calls.mono (CN.out _ inferInstance) ?_); rintro e wc ⟨rfl, _⟩) | (go_at_call 28; (with_reducible refine Calls.mono (N1.out _ inferInstance) ?_); rintro e wc ⟨rfl, _⟩) | (go_at_call 28; (with_reducible refine Calls.mono (N2.out _ inferInstance) ?_); rintro e wc ⟨rfl, _⟩)); go_ret; exact ⟨rfl, ⟨Gr.out⟩⟩))
          | skip
            (go_wp2_with (first | (go_at_call 33; (with_reducible refine Calls.mono (K1.out _ inferInstance) ?_); rintro e wc ⟨rfl, _⟩) | (go_at_call 33; (with_reducible refine Calls.mono (K2.out _ inferInstance) ?_); rintro e wc ⟨rfl, _⟩) | (go_at_call 42; (with_reducible refine Calls.mono (CM.out _ inferInstance) ?_); rintro e wc ⟨rfl, _⟩) | (go_at_call 42; (with_reducible refine Calls.mono (CN.out _ inferInstance) ?_); rintro e wc ⟨rfl, _⟩) | (go_at_call 28; (with_reducible refine Calls.mono (N1.out _ inferInstance) ?_); rintro e wc ⟨rfl, _⟩) | (go_at_call 28; (with_reducible refine Calls.mono (N2.out _ inferInstance) ?_); rintro e wc ⟨rfl, _⟩)); go_ret; exact ⟨rfl, ⟨Gr.out⟩⟩))
    | (have b1 : (E1 != 0) = true := bne_iff_ne.2 g1
       clear HF
       first
        | (by_cases ea : a = a'
           · subst ea; have n2 := str_ne (fun h => ht ⟨rfl, h⟩)
             clear ht
             (go_wp2_with (first | (go_at_call 33; (with_reducible refine Calls.mono (K1.out _ inferInstance) ?_); rintro e wc ⟨rfl, _⟩) | (go_at_call 33; (with_reducible refine Calls.mono (K2.out _ inferInstance) ?_); rintro e wc ⟨rfl, _⟩) | (go_at_call 42; (with_reducible refine Calls.mono (CM.out _ inferInstance) ?_); rintro e wc ⟨rfl, _⟩) | (go_at_call 42; (with_reducible refine Calls.mono (CN.out _ inferInstance) ?_); rintro e wc ⟨rfl, _⟩) | (go_at_call 28; (with_reducible refine Calls.mono (N1.out _ inferInstance) ?_); rintro e wc ⟨rfl, _⟩) | (go_at_call 28; (with_reducible refine Calls.mono (N2.out _ inferInstance) ?_); rintro e wc ⟨rfl, _⟩)); go_ret; exact ⟨rfl, ⟨Gr.out⟩⟩)
           · have n1 := str_ne ea; clear ht ea
             (go_wp2_with (first | (go_at_call 33; (with_reducible refine Calls.mono (K1.out _ inferInstance) ?_); rintro e wc ⟨rfl, _⟩) | (go_at_call 33; (with_reducible refine Calls.mono (K2.out _ inferInstance) ?_); rintro e wc ⟨rfl, _⟩) | (go_at_call 42; (with_reducible refine Calls.mono (CM.out _ inferInstance) ?_); rintro e wc ⟨rfl, _⟩) | (go_at_call 42; (with_reducible refine Calls.mono (CN.out _ inferInstance) ?_); rintro e wc ⟨rfl, _⟩) | (go_at_call 28; (with_reducible refine Calls.mono (N1.out _ inferInstance) ?_); rintro e wc ⟨rfl, _⟩) | (go_at_call 28; (with_reducible refine Calls.mono (N2.out _ inferInstance) ?_); rintro e wc ⟨rfl, _⟩)); go_ret; exact ⟨rfl, ⟨Gr.out⟩⟩))
        | skip
          (go_wp2_with (first | (go_at_call 33; (with_reducible refine Calls.mono (K1.out _ inferInstance) ?_); rintro e wc ⟨rfl, _⟩) | (go_at_call 33; (with_reducible refine Calls.mono (K2.out _ inferInstance) ?_); rintro e wc ⟨rfl, _⟩) | (go_at_call 42; (with_reducible refine Calls.mono (CM.out _ inferInstance) ?_); rintro e wc ⟨rfl, _⟩) | (go_at_call 42; (with_reducible refine Calls.mono (CN.out _ inferInstance) ?_); rintro e wc ⟨rfl, _⟩) | (go_at_call 28; (with_reducible refine Calls.mono (N1.out _ inferInstance) ?_); rintro e wc ⟨rfl, _⟩) | (go_at_call 28; (with_reducible refine Calls.mono (N2.out _ inferInstance) ?_); rintro e wc ⟨rfl, _⟩)); go_ret; exact ⟨rfl, ⟨Gr.out⟩⟩))
end Go.Proofs.YthjeejnggpjnjaaGreatDoor
