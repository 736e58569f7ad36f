/- A part: BU, BV, DB, DK, DM. -/
import Derived.Test.YthjeejnggpjnjaaGreatDoorZO26
import Derived.Test.YthjeejnggpjnjaaGreatDoorZO27
set_option linter.unusedSimpArgs false
set_option linter.unusedVariables false
set_option maxRecDepth 100000
set_option maxHeartbeats 16000000
set_option synthInstance.maxHeartbeats 2000000
set_option synthInstance.maxSize 100000
namespace Go.Proofs.YthjeejnggpjnjaaGreatDoor
open Go.RowKit
theorem reConjBad {a b c d : ByteArray} {w : World} [sa : SzC a] [sb : SzC b] [sc : SzC c] [sd : SzC d] {E : Int} (h : checkE a b c d = E) (h0 : E ≠ 0) :
 Calls Tryz.prog 47 #[.agg #[.string a, .string b, .string c, .string d]] w fun e w' => e = .returned (.tuple #[.agg #[.string ⟨#[]⟩, .string ⟨#[]⟩, .string ⟨#[]⟩, .string ⟨#[]⟩], .int .i64 E]) ∧ Kp0 w w' := by
 have b1 : (E != 0) = true := bne_iff_ne.2 h0; go_enter Tryz.func47, Tryz.ntmps47; go_wp2_with ((go_at_call 51; (with_reducible refine Calls.mono (reCheckE h) ?_); rintro e wc ⟨rfl, _⟩))
 refine ret_cell_tmp rfl rfl rfl (by rfl) (by rfl) (by rfl) ?_
 exact ⟨rfl, ⟨Gr.out⟩⟩
theorem reConjOk {a b c d : ByteArray} {w : World} [sa : SzC a] [sb : SzC b] [sc : SzC c] [sd : SzC d] (h1 : checkE a b c d = 0) :
 Calls Tryz.prog 47 #[.agg #[.string a, .string b, .string c, .string d]] w fun e w' => e = .returned (.tuple #[.agg #[.string (tS (rval a b) (-(rval c d)) (strN (rval a b).num)), .string (tS (rval a b) (-(rval c d)) (strN (rval a b).den)), .string (tS (rval a b) (-(rval c d)) (strN (-(rval c d)).num)), .string (tS (rval a b) (-(rval c d)) (strN (-(rval c d)).den))], .int .i64 (toldE (rval a b) (-(rval c d)))]) ∧ Kp0 w w' := by
 obtain ⟨s1, s2⟩ := smC_rval h1; obtain ⟨k1, k2⟩ := check_okT h1; go_enter Tryz.func47, Tryz.ntmps47; go_wp2_with (first | (go_at_call 51; (with_reducible refine Calls.mono (reCheckE h1) ?_); rintro e wc ⟨rfl, _⟩) | (go_at_call 78; (with_reducible refine Calls.mono (reNumber k1 k2) ?_); rintro e wc ⟨i, j, rfl, _, _, _, _, _, _⟩))
 go_region_held3 (fun W => W.cell? ⟨wc.heap.size, 0, none⟩ = some (.pointer (some ⟨i, 0, none⟩)) ∧ W.cell? ⟨wc.heap.size, 1, none⟩ = some (.pointer (some ⟨j, 0, none⟩))) (refine ⟨?_, ?_⟩ <;> (first | exact Bk.cell BkC.out rfl | (simp [go_sem]; done))) (first | (go_at_call 98; (with_reducible refine Calls.mono (erNegC (by decide)) ?_); rintro e wc ⟨rfl, _, _⟩) | (go_at_call 59; (with_reducible refine Calls.mono (reToldC (by decide) (by decide)) ?_); rintro e wc ⟨rfl, _⟩))
 all_goals (go_wp2_with fail)
 all_goals (refine ret_cell_tmp rfl rfl rfl (by rfl) (by rfl) (by rfl) ?_; exact ⟨rfl, ⟨Gr.out⟩⟩)
theorem reNormBad {a b c d : ByteArray} {w : World} [sa : SzC a] [sb : SzC b] [sc : SzC c] [sd : SzC d] {E : Int} (h : checkE a b c d = E) (h0 : E ≠ 0) :
 Calls Tryz.prog 48 #[.agg #[.string a, .string b, .string c, .string d]] w fun e w' => e = .returned (.tuple #[.agg #[.string ⟨#[]⟩, .string ⟨#[]⟩], .int .i64 E]) ∧ Kp0 w w' := by
 have b1 : (E != 0) = true := bne_iff_ne.2 h0; go_enter Tryz.func48, Tryz.ntmps48; go_wp2_with ((go_at_call 51; (with_reducible refine Calls.mono (reCheckE h) ?_); rintro e wc ⟨rfl, _⟩))
 refine ret_cell_tmp rfl rfl rfl (by rfl) (by rfl) (by rfl) ?_
 exact ⟨rfl, ⟨Gr.out⟩⟩
theorem reNormOk {a b c d : ByteArray} {w : World} [sa : SzC a] [sb : SzC b] [sc : SzC c] [sd : SzC d] (h1 : checkE a b c d = 0) :
 Calls Tryz.prog 48 #[.agg #[.string a, .string b, .string c, .string d]] w fun e w' => e = .returned (.tuple #[.agg #[.string (rS ((rval a b) * (rval a b) + (rval c d) * (rval c d)) (strN ((rval a b) * (rval a b) + (rval c d) * (rval c d)).num)), .string (rS ((rval a b) * (rval a b) + (rval c d) * (rval c d)) (strN ((rval a b) * (rval a b) + (rval c d) * (rval c d)).den))], .int .i64 (tellE ((rval a b) * (rval a b) + (rval c d) * (rval c d)))]) ∧ Kp0 w w' := by
 obtain ⟨s1, s2⟩ := smC_rval h1; obtain ⟨L, hL, sN⟩ : ∃ L, L ≤ 67108864 ∧ SmC ((rval a b) * (rval a b) + (rval c d) * (rval c d)) L := ⟨_, by decide, inferInstance⟩
 obtain ⟨N, hN⟩ : ∃ N, N = (rval a b) * (rval a b) + (rval c d) * (rval c d) := ⟨_, rfl⟩; rw [← hN] at sN ⊢; have LG0 := hid (fun v : World => elong (strN N.num) (strN_size (Nat.le_trans sN.out.1 hL) (Nat.le_refl _)) v)
 have LG1 := hid (fun v : World => elong (strN N.den) (strN_size (n := (N.den : Int)) (Nat.le_trans sN.out.2 hL) (Nat.le_refl _)) v)
 have TL := hid (fun h => tellE_4 (x := N) h)
 have T0 := hid (fun h1 h2 => tellE_0 (x := N) h1 h2)
 have NM := hid hN; have SN := hid hL; clear hN hL; generalize (afterS (strN N.num)).size = z0 at *; generalize (afterS (strN (N.den : Int))).size = z1 at *; obtain ⟨k1, k2⟩ := check_okT h1; by_cases n0 : 16384 < z0
 · have i0 : (16384 : Int) < (z0 : Int) := by omega
   have HL := hid n0; clear n0; go_enter Tryz.func48, Tryz.ntmps48; go_wp2_with (first | (go_at_call 51; (with_reducible refine Calls.mono (reCheckE h1) ?_); rintro e wc ⟨rfl, _⟩) | (go_at_call 78; (with_reducible refine Calls.mono (reNumber k1 k2) ?_); rintro e wc ⟨_, _, rfl, _, _, _, _, _, _⟩) | (go_at_call 96; (with_reducible refine Calls.mono (reSquareC (by decide) (by decide)) ?_); rintro e wc ⟨q, rfl, hq, _⟩; rw [← NM.out] at hq; haveI := hq) | (go_at_call 100; (with_reducible refine Calls.mono (etellC (r := N) SN.out) ?_); rintro e wc ⟨rfl, _⟩) | (go_at_call 101; (with_reducible refine (LG0.out _).mono ?_); rintro e w' ⟨rfl, hw⟩; obtain rfl := hw.symm) | (go_at_call 101; (with_reducible refine (LG1.out _).mono ?_); rintro e w' ⟨rfl, hw⟩; obtain rfl := hw.symm))
   refine ret_cell_tmp rfl rfl rfl (by rfl) (by rfl) (by rfl) ?_
   have hE : tellE N = 4 := TL.out (Or.inl HL.out)
   have hf : ∀ s, rS N s = ⟨#[]⟩ := fun s => by
    unfold rS; rw [hE]; rfl
   refine ⟨?_, ⟨Gr.out⟩⟩
   rw [hf, hf, hE]; rfl
 · have i0 : ¬ (16384 : Int) < (z0 : Int) := by omega
   have HN0 := hid n0; clear n0; by_cases n1 : 16384 < z1
   · have i1 : (16384 : Int) < (z1 : Int) := by omega
     have HL := hid n1; clear n1; go_enter Tryz.func48, Tryz.ntmps48; go_wp2_with (first | (go_at_call 51; (with_reducible refine Calls.mono (reCheckE h1) ?_); rintro e wc ⟨rfl, _⟩) | (go_at_call 78; (with_reducible refine Calls.mono (reNumber k1 k2) ?_); rintro e wc ⟨_, _, rfl, _, _, _, _, _, _⟩) | (go_at_call 96; (with_reducible refine Calls.mono (reSquareC (by decide) (by decide)) ?_); rintro e wc ⟨q, rfl, hq, _⟩; rw [← NM.out] at hq; haveI := hq) | (go_at_call 100; (with_reducible refine Calls.mono (etellC (r := N) SN.out) ?_); rintro e wc ⟨rfl, _⟩) | (go_at_call 101; (with_reducible refine (LG0.out _).mono ?_); rintro e w' ⟨rfl, hw⟩; obtain rfl := hw.symm) | (go_at_call 101; (with_reducible refine (LG1.out _).mono ?_); rintro e w' ⟨rfl, hw⟩; obtain rfl := hw.symm))
     refine ret_cell_tmp rfl rfl rfl (by rfl) (by rfl) (by rfl) ?_
     have hE : tellE N = 4 := TL.out (Or.inr HL.out)
     have hf : ∀ s, rS N s = ⟨#[]⟩ := fun s => by
      unfold rS; rw [hE]; rfl
     refine ⟨?_, ⟨Gr.out⟩⟩
     rw [hf, hf, hE]; rfl
   · have i1 : ¬ (16384 : Int) < (z1 : Int) := by omega
     have HL := hid n1; clear n1; go_enter Tryz.func48, Tryz.ntmps48; go_wp2_with (first | (go_at_call 51; (with_reducible refine Calls.mono (reCheckE h1) ?_); rintro e wc ⟨rfl, _⟩) | (go_at_call 78; (with_reducible refine Calls.mono (reNumber k1 k2) ?_); rintro e wc ⟨_, _, rfl, _, _, _, _, _, _⟩) | (go_at_call 96; (with_reducible refine Calls.mono (reSquareC (by decide) (by decide)) ?_); rintro e wc ⟨q, rfl, hq, _⟩; rw [← NM.out] at hq; haveI := hq) | (go_at_call 100; (with_reducible refine Calls.mono (etellC (r := N) SN.out) ?_); rintro e wc ⟨rfl, _⟩) | (go_at_call 101; (with_reducible refine (LG0.out _).mono ?_); rintro e w' ⟨rfl, hw⟩; obtain rfl := hw.symm) | (go_at_call 101; (with_reducible refine (LG1.out _).mono ?_); rintro e w' ⟨rfl, hw⟩; obtain rfl := hw.symm))
     refine ret_cell_tmp rfl rfl rfl (by rfl) (by rfl) (by rfl) ?_
     have hE : tellE N = 0 := T0.out HN0.out HL.out
     have hf : ∀ s, rS N s = s := fun s => by
      unfold rS; rw [hE]; rfl
     refine ⟨?_, ⟨Gr.out⟩⟩
     rw [hf, hf, hE]; rfl
theorem reSameBad {a b c d a' b' c' d' : ByteArray} {w : World} [sa : SzC a] [sb : SzC b] [sc : SzC c] [sd : SzC d] [sa' : SzC a'] [sb' : SzC b'] [sc' : SzC c'] [sd' : SzC d'] {E : Int} (h : twoC a b c d a' b' c' d' = E) (h0 : E ≠ 0) :
 Calls Tryz.prog 50 #[.agg #[.string a, .string b, .string c, .string d], .agg #[.string a', .string b', .string c', .string d']] w fun e w' => e = .returned (.tuple #[.bool false, .int .i64 E]) ∧ Kp0 w w' := by
 have b1 : (E != 0) = true := bne_iff_ne.2 h0; go_enter Tryz.func50, Tryz.ntmps50; go_wp2_with ((go_at_call 93; (with_reducible refine Calls.mono (reTwoE h) ?_); rintro e wc ⟨rfl, _⟩))
 go_ret2
 exact ⟨rfl, ⟨Gr.out⟩⟩
theorem reSameOk {a b c d a' b' c' d' : ByteArray} {w : World} [sa : SzC a] [sb : SzC b] [sc : SzC c] [sd : SzC d] [sa' : SzC a'] [sb' : SzC b'] [sc' : SzC c'] [sd' : SzC d'] (h1 : checkE a b c d = 0) (h2 : checkE a' b' c' d' = 0) :
 Calls Tryz.prog 50 #[.agg #[.string a, .string b, .string c, .string d], .agg #[.string a', .string b', .string c', .string d']] w fun e w' => e = .returned (.tuple #[.bool (decide (a = a' ∧ b = b' ∧ c = c' ∧ d = d')), .int .i64 0]) ∧ Kp0 w w' := by
 have hT := twoC_ok h1 h2; by_cases e0 : a = a'
 · subst e0; by_cases e1 : b = b'
   · subst e1; by_cases e2 : c = c'
     · subst e2; by_cases e3 : d = d'
       · subst e3; have HQ : Hid (decide (a = a ∧ b = b ∧ c = c ∧ d = d) = true) := hid (decide_eq_true ⟨rfl, rfl, rfl, rfl⟩); go_enter Tryz.func50, Tryz.ntmps50; go_wp2_with (first | (go_at_call 93; (with_reducible refine Calls.mono (reTwoE hT) ?_); rintro e wc ⟨rfl, _⟩))
         go_ret2
         exact ⟨by rw [HQ.out]; rfl, ⟨Gr.out⟩⟩
       · have HQ : Hid (decide (a = a ∧ b = b ∧ c = c ∧ d = d') = false) := hid (decide_eq_false (fun h => e3 h.2.2.2))
         have n3 := str_ne e3; clear e3; go_enter Tryz.func50, Tryz.ntmps50; go_wp2_with (first | (go_at_call 93; (with_reducible refine Calls.mono (reTwoE hT) ?_); rintro e wc ⟨rfl, _⟩))
         go_ret2
         exact ⟨by rw [HQ.out]; rfl, ⟨Gr.out⟩⟩
     · have HQ : Hid (decide (a = a ∧ b = b ∧ c = c' ∧ d = d') = false) := hid (decide_eq_false (fun h => e2 h.2.2.1))
       have n2 := str_ne e2; clear e2; go_enter Tryz.func50, Tryz.ntmps50; go_wp2_with (first | (go_at_call 93; (with_reducible refine Calls.mono (reTwoE hT) ?_); rintro e wc ⟨rfl, _⟩))
       go_ret2
       exact ⟨by rw [HQ.out]; rfl, ⟨Gr.out⟩⟩
   · have HQ : Hid (decide (a = a ∧ b = b' ∧ c = c' ∧ d = d') = false) := hid (decide_eq_false (fun h => e1 h.2.1))
     have n1 := str_ne e1; clear e1; go_enter Tryz.func50, Tryz.ntmps50; go_wp2_with (first | (go_at_call 93; (with_reducible refine Calls.mono (reTwoE hT) ?_); rintro e wc ⟨rfl, _⟩))
     go_ret2
     exact ⟨by rw [HQ.out]; rfl, ⟨Gr.out⟩⟩
 · have HQ : Hid (decide (a = a' ∧ b = b' ∧ c = c' ∧ d = d') = false) := hid (decide_eq_false (fun h => e0 h.1))
   have n0 := str_ne e0; clear e0; go_enter Tryz.func50, Tryz.ntmps50; go_wp2_with (first | (go_at_call 93; (with_reducible refine Calls.mono (reTwoE hT) ?_); rintro e wc ⟨rfl, _⟩))
   go_ret2
   exact ⟨by rw [HQ.out]; rfl, ⟨Gr.out⟩⟩
instance (priority := 940) bkC_kpR (R : Nat) (W w' : World) (g n : Nat) (x : _root_.Rat) (L : List Value) (T : Nat) [k : Kp1 W n w'] [h : BkC W g L T] [r : RaC R W n x] [t : NeT R T] : BkC w' g L T := ⟨h.out.keep k.out (Nat.le_refl _) (by
 obtain ⟨_, _, hb, -, -⟩ := r.out
 simpa using h.out.ne hb t.out)⟩
theorem reDivBad {a b c d a' b' c' d' : ByteArray} {w : World} [sa : SzC a] [sb : SzC b] [sc : SzC c] [sd : SzC d] [sa' : SzC a'] [sb' : SzC b'] [sc' : SzC c'] [sd' : SzC d'] {E : Int} (h : twoC a b c d a' b' c' d' = E) (h0 : E ≠ 0) :
 Calls Tryz.prog 46 #[.agg #[.string a, .string b, .string c, .string d], .agg #[.string a', .string b', .string c', .string d']] w fun e w' => e = .returned (.tuple #[.agg #[.string ⟨#[]⟩, .string ⟨#[]⟩, .string ⟨#[]⟩, .string ⟨#[]⟩], .int .i64 E]) ∧ Kp0 w w' := by
 have b1 : (E != 0) = true := bne_iff_ne.2 h0; go_enter Tryz.func46, Tryz.ntmps46; go_wp2_with ((go_at_call 93; (with_reducible refine Calls.mono (reTwoE h) ?_); rintro e wc ⟨rfl, _⟩))
 refine ret_cell_tmp rfl rfl rfl (by rfl) (by rfl) (by rfl) ?_
 exact ⟨rfl, ⟨Gr.out⟩⟩
theorem reDivZero {a b c d a' b' c' d' : ByteArray} {w : World} [sa : SzC a] [sb : SzC b] [sc : SzC c] [sd : SzC d] [sa' : SzC a'] [sb' : SzC b'] [sc' : SzC c'] [sd' : SzC d'] (h1 : checkE a b c d = 0) (h2 : checkE a' b' c' d' = 0) (h0 : (divD (rval a' b') (rval c' d')).num = 0) :
 Calls Tryz.prog 46 #[.agg #[.string a, .string b, .string c, .string d], .agg #[.string a', .string b', .string c', .string d']] w fun e w' => e = .returned (.tuple #[.agg #[.string ⟨#[]⟩, .string ⟨#[]⟩, .string ⟨#[]⟩, .string ⟨#[]⟩], .int .i64 31]) ∧ Kp0 w w' := by
 obtain ⟨s1, s2⟩ := smC_rval h1; obtain ⟨s3, s4⟩ := smC_rval h2; obtain ⟨k1, k2⟩ := check_okT h1; obtain ⟨k3, k4⟩ := check_okT h2; have hT := twoC_ok h1 h2; obtain ⟨D, hD⟩ : ∃ D, D = divD (rval a' b') (rval c' d') := ⟨_, rfl⟩; have HD := hid hD; have SG := hid (fun (v : World) (g : Nat) (h : RaC 125 v g D) => reSignC (hx := h))
 rw [← hD] at h0; rw [show D.num.sign = 0 by rw [h0]; rfl] at SG
 clear hD; go_enter Tryz.func46, Tryz.ntmps46; go_wp2_with (first | (go_at_call 93; (with_reducible refine Calls.mono (reTwoE hT) ?_); rintro e w93 ⟨rfl, _⟩) | (go_at_call 78; (with_reducible refine Calls.mono (reNumber k1 k2) ?_); rintro e wa ⟨i, j, rfl, _, _, _, _, _, _⟩) | (go_at_call 78; (with_reducible refine Calls.mono (reNumber k3 k4) ?_); rintro e wb ⟨i', j', rfl, _, _, _, _, _, _⟩) | (go_at_call 96; (with_reducible refine Calls.mono (reSquareC (by decide) (by decide)) ?_); rintro e wd ⟨q, rfl, hq, _⟩; rw [show (rval a' b') * (rval a' b') + (rval c' d') * (rval c' d') = D from HD.out.symm] at hq; haveI := hq) | (go_at_call 97; (with_reducible refine (SG.out _ _ inferInstance).mono ?_); rintro e w' ⟨rfl, hw⟩; obtain rfl := hw.symm))
 refine ret_cell_tmp rfl rfl rfl (by rfl) (by rfl) (by rfl) ?_
 exact ⟨rfl, ⟨Gr.out⟩⟩
theorem reDivOk {a b c d a' b' c' d' : ByteArray} {w : World} [sa : SzC a] [sb : SzC b] [sc : SzC c] [sd : SzC d] [sa' : SzC a'] [sb' : SzC b'] [sc' : SzC c'] [sd' : SzC d'] (h1 : checkE a b c d = 0) (h2 : checkE a' b' c' d' = 0) (h0 : (divD (rval a' b') (rval c' d')).num ≠ 0) :
 Calls Tryz.prog 46 #[.agg #[.string a, .string b, .string c, .string d], .agg #[.string a', .string b', .string c', .string d']] w fun e w' => e = .returned (.tuple #[.agg #[.string (tS (divX (rval a b) (rval c d) (rval a' b') (rval c' d')) (divY (rval a b) (rval c d) (rval a' b') (rval c' d')) (strN (divX (rval a b) (rval c d) (rval a' b') (rval c' d')).num)), .string (tS (divX (rval a b) (rval c d) (rval a' b') (rval c' d')) (divY (rval a b) (rval c d) (rval a' b') (rval c' d')) (strN (divX (rval a b) (rval c d) (rval a' b') (rval c' d')).den)), .string (tS (divX (rval a b) (rval c d) (rval a' b') (rval c' d')) (divY (rval a b) (rval c d) (rval a' b') (rval c' d')) (strN (divY (rval a b) (rval c d) (rval a' b') (rval c' d')).num)), .string (tS (divX (rval a b) (rval c d) (rval a' b') (rval c' d')) (divY (rval a b) (rval c d) (rval a' b') (rval c' d')) (strN (divY (rval a b) (rval c d) (rval a' b') (rval c' d')).den))], .int .i64 (toldE (divX (rval a b) (rval c d) (rval a' b') (rval c' d')) (divY (rval a b) (rval c d) (rval a' b') (rval c' d')))]) ∧ Kp0 w w' := by
 obtain ⟨s1, s2⟩ := smC_rval h1; obtain ⟨s3, s4⟩ := smC_rval h2; obtain ⟨k1, k2⟩ := check_okT h1; obtain ⟨k3, k4⟩ := check_okT h2; have hT := twoC_ok h1 h2; obtain ⟨D, hD⟩ : ∃ D, D = divD (rval a' b') (rval c' d') := ⟨_, rfl⟩; have HD := hid hD; have SG := hid (fun (v : World) (g : Nat) (h : RaC 125 v g D) => reSignC (hx := h))
 have sD : ∃ L, L ≤ 1000000 ∧ SmC D L := ⟨2 * ((16384 + 16384) + (16384 + 16384)) + 1, by decide, by rw [hD]; exact ⟨(((s3.out.mul s3.out).add (s4.out.mul s4.out)))⟩⟩
 obtain ⟨LD, hLD, sD⟩ := sD; have hs : ¬ D.num.sign = 0 := by rw [hD]; exact num_sign h0
 have b1 : (D.num.sign == 0) = false := beq_eq_false_iff_ne.2 hs; rw [← hD] at h0; have HX : Hid (divX (rval a b) (rval c d) (rval a' b') (rval c' d') = ((rval a b) * (rval a' b') + (rval c d) * (rval c' d')) / D) := hid (by rw [hD]; rfl)
 have HY : Hid (divY (rval a b) (rval c d) (rval a' b') (rval c' d') = ((rval c d) * (rval a' b') - (rval a b) * (rval c' d')) / D) := hid (by rw [hD]; rfl)
 rw [HX.out, HY.out]; clear hD; haveI q1 := smC_div (x := ((rval a b) * (rval a' b') + (rval c d) * (rval c' d'))) h0; haveI q2 := smC_div (x := ((rval c d) * (rval a' b') - (rval a b) * (rval c' d'))) h0; have H0 := hid h0; clear h0 hs; go_enter Tryz.func46, Tryz.ntmps46; go_upto_region 9 with (first | (go_at_call 93; (with_reducible refine Calls.mono (reTwoE hT) ?_); rintro e w93 ⟨rfl, _⟩) | (go_at_call 78; (with_reducible refine Calls.mono (reNumber k1 k2) ?_); rintro e wa ⟨i, j, rfl, _, _, _, _, _, _⟩) | (go_at_call 78; (with_reducible refine Calls.mono (reNumber k3 k4) ?_); rintro e wb ⟨i', j', rfl, _, _, _, _, _, _⟩) | (go_at_call 96; (with_reducible refine Calls.mono (reSquareC (by decide) (by decide)) ?_); rintro e wd ⟨q, rfl, hq, _⟩; rw [show (rval a' b') * (rval a' b') + (rval c' d') * (rval c' d') = D from HD.out.symm] at hq; haveI := hq) | (go_at_call 97; (with_reducible refine (SG.out _ _ inferInstance).mono ?_); rintro e w' ⟨rfl, hw⟩; obtain rfl := hw.symm))
 go_cut [10] from 28 to 36 (fun s wx => ∃ m i j, s = .pointer (some ⟨m, 0, none⟩) ∧ BkC wx m [.pointer (some ⟨i, 0, none⟩), .pointer (some ⟨j, 0, none⟩)] 94 ∧ RaC 125 wx i ((rval a b) * (rval a' b') + (rval c d) * (rval c' d')) ∧ RaC 125 wx j ((rval c d) * (rval a' b') - (rval a b) * (rval c' d')) ∧ RaC 125 wx q D ∧ BkC wx (w.heap.size + 1 + 1) [.string ⟨#[]⟩, .string ⟨#[]⟩, .string ⟨#[]⟩, .string ⟨#[]⟩] 33 ∧ Gr w wx ∧ NeN i j ∧ NeN q i ∧ NeN q j ∧ Up w.heap.size i ∧ Up w.heap.size j ∧ NeN (w.heap.size + 1 + 1) i ∧ NeN (w.heap.size + 1 + 1) j)
 case first =>
  go_region_held3 (fun W => W.cell? ⟨wa.heap.size, 0, none⟩ = some (.pointer (some ⟨i, 0, none⟩)) ∧ W.cell? ⟨wa.heap.size, 1, none⟩ = some (.pointer (some ⟨j, 0, none⟩)) ∧ W.cell? ⟨wb.heap.size, 0, none⟩ = some (.pointer (some ⟨i', 0, none⟩)) ∧ W.cell? ⟨wb.heap.size, 1, none⟩ = some (.pointer (some ⟨j', 0, none⟩))) (refine ⟨?_, ?_, ?_, ?_⟩ <;> (first | exact Bk.cell BkC.out rfl | (simp [go_sem]; done))) (first | (go_at_call 98; (with_reducible refine Calls.mono (erNegC (by decide)) ?_); rintro e wc ⟨rfl, _, _⟩) | (go_at_call 95; (with_reducible refine Calls.mono (reTimesC (by decide) (by decide) (by decide) (by decide)) ?_); rintro e wc ⟨_, _, rfl, hx5, hy5, _, _, _, _⟩; rw [div_X] at hx5; rw [div_Y] at hy5; haveI := hx5; haveI := hy5))
  all_goals (go_wp2_with fail; go_meet; exact ⟨_, _, _, rfl, inferInstance, inferInstance, inferInstance, inferInstance, inferInstance, inferInstance, inferInstance, inferInstance, inferInstance, inferInstance, inferInstance, inferInstance, inferInstance⟩)
 case rest =>
  obtain ⟨m, i2, j2, rfl, ib, ix, iy, iq, iz, ig, ne1, ne2, ne3, u1, u2, ne5, ne6⟩ := hcut; haveI ne4 : NeN j2 i2 := ⟨Ne.symm ne1.out⟩; have z0 := iz.out.cell (i := 0) rfl; have f0 := iz.out.free 0; have z1 := iz.out.cell (i := 1) rfl; have f1 := iz.out.free 1; have z2 := iz.out.cell (i := 2) rfl; have f2 := iz.out.free 2; have z3 := iz.out.cell (i := 3) rfl; have f3 := iz.out.free 3; go_wp2_with fail
  go_region_held3 (fun W => W.cell? ⟨m, 0, none⟩ = some (.pointer (some ⟨i2, 0, none⟩)) ∧ W.cell? ⟨m, 1, none⟩ = some (.pointer (some ⟨j2, 0, none⟩))) (refine ⟨?_, ?_⟩ <;> (first | exact Bk.cell BkC.out rfl | (simp [go_sem]; done))) (first | (go_at_call 99; (with_reducible refine Calls.mono (erQuoC (by decide) (Nat.le_trans hLD (by decide)) H0.out) ?_); rintro e wc ⟨rfl, _, _⟩) | (go_at_call 59; (with_reducible refine Calls.mono (reToldC (Nat.le_trans (Nat.add_le_add_left hLD _) (by decide)) (Nat.le_trans (Nat.add_le_add_left hLD _) (by decide))) ?_); rintro e wc ⟨rfl, _⟩))
  all_goals (go_wp2_with fail)
  all_goals (refine ret_cell_tmp rfl rfl rfl (by rfl) (by rfl) (by rfl) ?_; exact ⟨rfl, ⟨Gr.out⟩⟩)
theorem norm_eq (x y : _root_.Rat) : x * x - y * -y = x * x + y * y := by grind
theorem prAdd {a b c d a' b' c' d' : ByteArray} [sa : SzC a] [sb : SzC b] [sc : SzC c] [sd : SzC d] [sa' : SzC a'] [sb' : SzC b'] [sc' : SzC c'] [sd' : SzC d']  : ∃ (s0 s1 s2 s3 : ByteArray) (E : Int), Hid (∀ W, VrC W → Calls Tryz.prog 34 #[.agg #[.string a, .string b, .string c, .string d], .agg #[.string a', .string b', .string c', .string d']] W (fun e w' => e = .returned (.tuple #[.agg #[.string s0, .string s1, .string s2, .string s3], .int .i64 E]) ∧ Kp0 W w')) ∧ Hid (∀ W, Calls Tryz.prog 43 #[.agg #[.string a, .string b, .string c, .string d], .agg #[.string a', .string b', .string c', .string d']] W (fun e w' => e = .returned (.tuple #[.agg #[.string s0, .string s1, .string s2, .string s3], .int .i64 E]) ∧ Kp0 W w')) := by
 by_cases h : twoC a b c d a' b' c' d' = 0
 · obtain ⟨h1, h2⟩ := twoC_zero h; exact ⟨_, _, _, _, _, hid (fun W v => gaAddXOk (hv := ⟨v.out⟩) h1 h2), hid (fun W => reAddXOk h1 h2)⟩
 · exact ⟨_, _, _, _, _, hid (fun W v => gaAddXBad (hv := ⟨v.out⟩) rfl h), hid (fun W => reAddXBad rfl h)⟩
theorem prSub {a b c d a' b' c' d' : ByteArray} [sa : SzC a] [sb : SzC b] [sc : SzC c] [sd : SzC d] [sa' : SzC a'] [sb' : SzC b'] [sc' : SzC c'] [sd' : SzC d']  : ∃ (s0 s1 s2 s3 : ByteArray) (E : Int), Hid (∀ W, VrC W → Calls Tryz.prog 36 #[.agg #[.string a, .string b, .string c, .string d], .agg #[.string a', .string b', .string c', .string d']] W (fun e w' => e = .returned (.tuple #[.agg #[.string s0, .string s1, .string s2, .string s3], .int .i64 E]) ∧ Kp0 W w')) ∧ Hid (∀ W, Calls Tryz.prog 44 #[.agg #[.string a, .string b, .string c, .string d], .agg #[.string a', .string b', .string c', .string d']] W (fun e w' => e = .returned (.tuple #[.agg #[.string s0, .string s1, .string s2, .string s3], .int .i64 E]) ∧ Kp0 W w')) := by
 by_cases h : twoC a b c d a' b' c' d' = 0
 · obtain ⟨h1, h2⟩ := twoC_zero h; exact ⟨_, _, _, _, _, hid (fun W v => gaSubXOk (hv := ⟨v.out⟩) h1 h2), hid (fun W => reSubXOk h1 h2)⟩
 · exact ⟨_, _, _, _, _, hid (fun W v => gaSubXBad (hv := ⟨v.out⟩) rfl h), hid (fun W => reSubXBad rfl h)⟩
theorem prMul {a b c d a' b' c' d' : ByteArray} [sa : SzC a] [sb : SzC b] [sc : SzC c] [sd : SzC d] [sa' : SzC a'] [sb' : SzC b'] [sc' : SzC c'] [sd' : SzC d']  : ∃ (s0 s1 s2 s3 : ByteArray) (E : Int), Hid (∀ W, VrC W → Calls Tryz.prog 35 #[.agg #[.string a, .string b, .string c, .string d], .agg #[.string a', .string b', .string c', .string d']] W (fun e w' => e = .returned (.tuple #[.agg #[.string s0, .string s1, .string s2, .string s3], .int .i64 E]) ∧ Kp0 W w')) ∧ Hid (∀ W, Calls Tryz.prog 45 #[.agg #[.string a, .string b, .string c, .string d], .agg #[.string a', .string b', .string c', .string d']] W (fun e w' => e = .returned (.tuple #[.agg #[.string s0, .string s1, .string s2, .string s3], .int .i64 E]) ∧ Kp0 W w')) := by
 by_cases h : twoC a b c d a' b' c' d' = 0
 · obtain ⟨h1, h2⟩ := twoC_zero h; exact ⟨_, _, _, _, _, hid (fun W v => gaMulXOk (hv := ⟨v.out⟩) h1 h2), hid (fun W => reMulXOk h1 h2)⟩
 · exact ⟨_, _, _, _, _, hid (fun W v => gaMulXBad (hv := ⟨v.out⟩) rfl h), hid (fun W => reMulXBad rfl h)⟩
theorem prDiv {a b c d a' b' c' d' : ByteArray} [sa : SzC a] [sb : SzC b] [sc : SzC c] [sd : SzC d] [sa' : SzC a'] [sb' : SzC b'] [sc' : SzC c'] [sd' : SzC d']  : ∃ (s0 s1 s2 s3 : ByteArray) (E : Int), Hid (∀ W, VrC W → Calls Tryz.prog 38 #[.agg #[.string a, .string b, .string c, .string d], .agg #[.string a', .string b', .string c', .string d']] W (fun e w' => e = .returned (.tuple #[.agg #[.string s0, .string s1, .string s2, .string s3], .int .i64 E]) ∧ Kp0 W w')) ∧ Hid (∀ W, Calls Tryz.prog 46 #[.agg #[.string a, .string b, .string c, .string d], .agg #[.string a', .string b', .string c', .string d']] W (fun e w' => e = .returned (.tuple #[.agg #[.string s0, .string s1, .string s2, .string s3], .int .i64 E]) ∧ Kp0 W w')) := by
 by_cases h : twoC a b c d a' b' c' d' = 0
 · obtain ⟨h1, h2⟩ := twoC_zero h; by_cases h0 : (divD (rval a' b') (rval c' d')).num = 0
   · exact ⟨_, _, _, _, _, hid (fun W v => gaDivZero (hv := ⟨v.out⟩) h1 h2 h0), hid (fun W => reDivZero h1 h2 h0)⟩
   · exact ⟨_, _, _, _, _, hid (fun W v => gaDivOk (hv := ⟨v.out⟩) h1 h2 h0), hid (fun W => reDivOk h1 h2 h0)⟩
 · exact ⟨_, _, _, _, _, hid (fun W v => gaDivBad (hv := ⟨v.out⟩) rfl h), hid (fun W => reDivBad rfl h)⟩
theorem prSame {a b c d a' b' c' d' : ByteArray} [sa : SzC a] [sb : SzC b] [sc : SzC c] [sd : SzC d] [sa' : SzC a'] [sb' : SzC b'] [sc' : SzC c'] [sd' : SzC d']  : ∃ (B : Bool) (E : Int), Hid (∀ W, VrC W → Calls Tryz.prog 37 #[.agg #[.string a, .string b, .string c, .string d], .agg #[.string a', .string b', .string c', .string d']] W (fun e w' => e = .returned (.tuple #[.bool B, .int .i64 E]) ∧ Kp0 W w')) ∧ Hid (∀ W, Calls Tryz.prog 50 #[.agg #[.string a, .string b, .string c, .string d], .agg #[.string a', .string b', .string c', .string d']] W (fun e w' => e = .returned (.tuple #[.bool B, .int .i64 E]) ∧ Kp0 W w')) := by
 by_cases h : twoC a b c d a' b' c' d' = 0
 · obtain ⟨h1, h2⟩ := twoC_zero h; exact ⟨_, _, hid (fun W v => gaSameOk (hv := ⟨v.out⟩) h1 h2), hid (fun W => reSameOk h1 h2)⟩
 · exact ⟨_, _, hid (fun W v => gaSameBad (hv := ⟨v.out⟩) rfl h), hid (fun W => reSameBad rfl h)⟩
theorem prConj {a b c d : ByteArray} [sa : SzC a] [sb : SzC b] [sc : SzC c] [sd : SzC d]  : ∃ (s0 s1 s2 s3 : ByteArray) (E : Int), Hid (∀ W, VrC W → Calls Tryz.prog 40 #[.agg #[.string a, .string b, .string c, .string d]] W (fun e w' => e = .returned (.tuple #[.agg #[.string s0, .string s1, .string s2, .string s3], .int .i64 E]) ∧ Kp0 W w')) ∧ Hid (∀ W, Calls Tryz.prog 47 #[.agg #[.string a, .string b, .string c, .string d]] W (fun e w' => e = .returned (.tuple #[.agg #[.string s0, .string s1, .string s2, .string s3], .int .i64 E]) ∧ Kp0 W w')) := by
 by_cases h1 : checkE a b c d = 0
 · exact ⟨_, _, _, _, _, hid (fun W v => gaConjOk (hv := ⟨v.out⟩) h1), hid (fun W => reConjOk h1)⟩
 · exact ⟨_, _, _, _, _, hid (fun W v => gaConjBad (hv := ⟨v.out⟩) rfl h1), hid (fun W => reConjBad rfl h1)⟩
theorem prNorm {a b c d : ByteArray} [sa : SzC a] [sb : SzC b] [sc : SzC c] [sd : SzC d]  : ∃ (s0 s1 : ByteArray) (E : Int), Hid (∀ W, VrC W → Calls Tryz.prog 39 #[.agg #[.string a, .string b, .string c, .string d]] W (fun e w' => e = .returned (.tuple #[.agg #[.string s0, .string s1], .int .i64 E]) ∧ Kp0 W w')) ∧ Hid (∀ W, Calls Tryz.prog 48 #[.agg #[.string a, .string b, .string c, .string d]] W (fun e w' => e = .returned (.tuple #[.agg #[.string s0, .string s1], .int .i64 E]) ∧ Kp0 W w')) := by
 by_cases h1 : checkE a b c d = 0
 · exact ⟨_, _, _, hid (fun W v => norm_eq (rval a b) (rval c d) ▸ gaNormOk (hv := ⟨v.out⟩) h1), hid (fun W => reNormOk h1)⟩
 · exact ⟨_, _, _, hid (fun W v => gaNormBad (hv := ⟨v.out⟩) rfl h1), hid (fun W => reNormBad rfl h1)⟩
theorem prCheck {a b c d : ByteArray} [sa : SzC a] [sb : SzC b] [sc : SzC c] [sd : SzC d]  : ∃ (E : Int), Hid (∀ W, VrC W → Calls Tryz.prog 33 #[.agg #[.string a, .string b, .string c, .string d]] W (fun e w' => e = .returned (.int .i64 E) ∧ Kp0 W w')) ∧ Hid (∀ W, Calls Tryz.prog 51 #[.agg #[.string a, .string b, .string c, .string d]] W (fun e w' => e = .returned (.int .i64 E) ∧ Kp0 W w')) := by
 exact ⟨_, hid (fun W v => gaCheckX (hv := ⟨v.out⟩)), hid (fun W => reCheckC)⟩
theorem prCmp {a b c d : ByteArray} [sa : SzC a] [sb : SzC b] [sc : SzC c] [sd : SzC d]  : ∃ (V E : Int), Hid (∀ W, VrC W → Calls Tryz.prog 42 #[.agg #[.string a, .string b], .agg #[.string c, .string d]] W (fun e w' => e = .returned (.tuple #[.int .i64 V, .int .i64 E]) ∧ Kp0 W w')) ∧ Hid (∀ W, Calls Tryz.prog 49 #[.agg #[.string a, .string b], .agg #[.string c, .string d]] W (fun e w' => e = .returned (.tuple #[.int .i64 V, .int .i64 E]) ∧ Kp0 W w')) := by
 exact ⟨_, _, hid (fun W v => gaCmp (hv := ⟨v.out⟩)), hid (fun W => reCmp)⟩
instance clC_new3 (v : World) (s a b c d e f : Nat) [hs : HasSize v s] : ClC (v.alloc (.cells #[.complex .f64 a b, .complex .f64 c d, .complex .f64 e f] 29)) s 0 [(a, b), (c, d), (e, f)] := ⟨⟨_, block_at _ _ _, fun i x hx => by
 rw [Nat.zero_add]; rcases i with _ | _ | _ | i
 · obtain rfl := Option.some.inj hx; rfl
 · obtain rfl := Option.some.inj hx; rfl
 · obtain rfl := Option.some.inj hx; rfl
 · cases hx⟩⟩
instance clC_new2 (v : World) (s a b c d : Nat) [hs : HasSize v s] : ClC (v.alloc (.cells #[.complex .f64 a b, .complex .f64 c d] 29)) s 0 [(a, b), (c, d)] := ⟨⟨_, block_at _ _ _, fun i x hx => by
 rw [Nat.zero_add]; rcases i with _ | _ | i
 · obtain rfl := Option.some.inj hx; rfl
 · obtain rfl := Option.some.inj hx; rfl
 · cases hx⟩⟩
instance szC_l0 : SzC ⟨#[48]⟩ := ⟨by decide⟩
instance szC_l1 : SzC ⟨#[49]⟩ := ⟨by decide⟩
instance szC_l2 : SzC ⟨#[50]⟩ := ⟨by decide⟩
instance szC_l3 : SzC ⟨#[51]⟩ := ⟨by decide⟩
instance szC_l4 : SzC ⟨#[52]⟩ := ⟨by decide⟩
instance szC_lm1 : SzC ⟨#[45, 49]⟩ := ⟨by decide⟩
theorem aw10 {W : World}  : Calls Tryz.prog 31 #[.int .i64 1, .int .i64 0] W fun e w' => e = .returned (.agg #[.string ⟨#[49]⟩, .string ⟨#[49]⟩, .string ⟨#[48]⟩, .string ⟨#[49]⟩]) ∧ Kp0 W w' := by
 refine (gaWhole (x := 1) (y := 0) (by decide) (by decide) (by decide) (by decide)).mono ?_
 rintro e w' ⟨rfl, hk⟩; exact ⟨congrArg Ending.returned (by kernel_rfl), hk⟩
theorem aw11 {W : World}  : Calls Tryz.prog 31 #[.int .i64 1, .int .i64 1] W fun e w' => e = .returned (.agg #[.string ⟨#[49]⟩, .string ⟨#[49]⟩, .string ⟨#[49]⟩, .string ⟨#[49]⟩]) ∧ Kp0 W w' := by
 refine (gaWhole (x := 1) (y := 1) (by decide) (by decide) (by decide) (by decide)).mono ?_
 rintro e w' ⟨rfl, hk⟩; exact ⟨congrArg Ending.returned (by kernel_rfl), hk⟩
theorem aw00 {W : World}  : Calls Tryz.prog 31 #[.int .i64 0, .int .i64 0] W fun e w' => e = .returned (.agg #[.string ⟨#[48]⟩, .string ⟨#[49]⟩, .string ⟨#[48]⟩, .string ⟨#[49]⟩]) ∧ Kp0 W w' := by
 refine (gaWhole (x := 0) (y := 0) (by decide) (by decide) (by decide) (by decide)).mono ?_
 rintro e w' ⟨rfl, hk⟩; exact ⟨congrArg Ending.returned (by kernel_rfl), hk⟩
theorem awDiv {W : World} [hv : VrC W] : Calls Tryz.prog 38 #[.agg #[.string ⟨#[49]⟩, .string ⟨#[49]⟩, .string ⟨#[48]⟩, .string ⟨#[49]⟩], .agg #[.string ⟨#[49]⟩, .string ⟨#[49]⟩, .string ⟨#[49]⟩, .string ⟨#[49]⟩]] W fun e w' => e = .returned (.tuple #[.agg #[.string ⟨#[49]⟩, .string ⟨#[50]⟩, .string ⟨#[45, 49]⟩, .string ⟨#[50]⟩], .int .i64 0]) ∧ Kp0 W w' := by
 refine (gaDivOk (hv := ⟨hv.out⟩) (by kernel_rfl) (by kernel_rfl) (by decide +kernel)).mono ?_
 rintro e w' ⟨rfl, hk⟩; exact ⟨congrArg Ending.returned (by kernel_rfl), hk⟩
theorem awDiv0 {W : World} [hv : VrC W] : Calls Tryz.prog 38 #[.agg #[.string ⟨#[49]⟩, .string ⟨#[49]⟩, .string ⟨#[48]⟩, .string ⟨#[49]⟩], .agg #[.string ⟨#[48]⟩, .string ⟨#[49]⟩, .string ⟨#[48]⟩, .string ⟨#[49]⟩]] W fun e w' => e = .returned (.tuple #[.agg #[.string ⟨#[]⟩, .string ⟨#[]⟩, .string ⟨#[]⟩, .string ⟨#[]⟩], .int .i64 31]) ∧ Kp0 W w' := by
 refine (gaDivZero (hv := ⟨hv.out⟩) (by kernel_rfl) (by kernel_rfl) (by decide +kernel)).mono ?_
 rintro e w' ⟨rfl, hk⟩; exact ⟨congrArg Ending.returned (by kernel_rfl), hk⟩
theorem awNear {W : World} [hv : VrC W] : Calls Tryz.prog 28 #[.agg #[.string ⟨#[49]⟩, .string ⟨#[51]⟩, .string ⟨#[45, 49]⟩, .string ⟨#[51]⟩]] W fun e w' => e = .returned (.tuple #[.complex .f64 4599676419421066581 13823048456275842389, .int .i64 0]) ∧ Kp0 W w' := by
 refine (gaNearOk (hv := ⟨hv.out⟩) (by kernel_rfl) (by kernel_rfl) (by kernel_rfl)).mono ?_
 rintro e w' ⟨rfl, hk⟩; exact ⟨congrArg Ending.returned (by kernel_rfl), hk⟩
theorem awCheck {W : World} [hv : VrC W] : Calls Tryz.prog 33 #[.agg #[.string ⟨#[50]⟩, .string ⟨#[52]⟩, .string ⟨#[48]⟩, .string ⟨#[49]⟩]] W fun e w' => e = .returned (.int .i64 30) ∧ Kp0 W w' := by
 refine (gaCheckX (hv := ⟨hv.out⟩)).mono ?_
 rintro e w' ⟨rfl, hk⟩; exact ⟨congrArg Ending.returned (by kernel_rfl), hk⟩
theorem awAt {W : World} {g : Nat} [q : ClC W g 0 [(4607182418800017408, 0), (0, 0), (4607182418800017408, 0)]] [hv : VrC W] : Calls Tryz.prog 14 #[.slice (some ⟨g, 0, none⟩) 3 3, .complex .f64 0 4607182418800017408] W fun e w' => e = .returned (.tuple #[.agg #[.string ⟨#[48]⟩, .string ⟨#[49]⟩, .string ⟨#[48]⟩, .string ⟨#[49]⟩], .int .i64 0]) ∧ Kp0 W w' := by
 refine (gaAtOk (hc := q) (hv := ⟨hv.out⟩) (cap := 3) (z := (0, 4607182418800017408)) (l := [(4607182418800017408, 0), (0, 0), (4607182418800017408, 0)]) (by unfold okB; decide) (by decide) (by decide) (by decide) (by kernel_rfl) (by kernel_rfl) (by kernel_rfl)).mono ?_
 rintro e w' ⟨rfl, hk⟩; exact ⟨congrArg Ending.returned (by kernel_rfl), hk⟩
theorem awZ2 {W : World} {g : Nat} [q : ClC W g 0 [(4607182418800017408, 0), (0, 0), (4607182418800017408, 0)]] [hv : VrC W] : Calls Tryz.prog 18 #[.slice (some ⟨g, 0, none⟩) 3 3, .agg #[.complex .f64 13835058055282163712 13835058055282163712, .complex .f64 4611686018427387904 4611686018427387904]] W fun e w' => e = .returned (.tuple #[.int .i64 2, .int .i64 0]) ∧ Kp0 W w' := by
 refine (gaZeros (hc := q) (cap := 3) (l := [(4607182418800017408, 0), (0, 0), (4607182418800017408, 0)]) (by unfold okB; decide) (by decide) (by decide) (by decide) (by decide)).mono ?_
 rintro e w' ⟨rfl, hk⟩; exact ⟨congrArg Ending.returned (by kernel_rfl), hk⟩
theorem awZ0 {W : World} {g : Nat} [q : ClC W g 0 [(0, 0), (0, 0), (4607182418800017408, 0)]] [hv : VrC W] : Calls Tryz.prog 18 #[.slice (some ⟨g, 0, none⟩) 3 3, .agg #[.complex .f64 13835058055282163712 13835058055282163712, .complex .f64 4611686018427387904 4611686018427387904]] W fun e w' => e = .returned (.tuple #[.int .i64 2, .int .i64 0]) ∧ Kp0 W w' := by
 refine (gaZeros (hc := q) (cap := 3) (l := [(0, 0), (0, 0), (4607182418800017408, 0)]) (by unfold okB; decide) (by decide) (by decide) (by decide) (by decide)).mono ?_
 rintro e w' ⟨rfl, hk⟩; exact ⟨congrArg Ending.returned (by kernel_rfl), hk⟩
theorem awZm {W : World} {g : Nat} [q : ClC W g 0 [(13835058055282163712, 0), (4607182418800017408, 0)]] [hv : VrC W] : Calls Tryz.prog 18 #[.slice (some ⟨g, 0, none⟩) 2 2, .agg #[.complex .f64 13835058055282163712 13835058055282163712, .complex .f64 4611686018427387904 4611686018427387904]] W fun e w' => e = .returned (.tuple #[.int .i64 0, .int .i64 32]) ∧ Kp0 W w' := by
 refine (gaZeros (hc := q) (cap := 2) (l := [(13835058055282163712, 0), (4607182418800017408, 0)]) (by unfold okB; decide) (by decide) (by decide) (by decide) (by decide)).mono ?_
 rintro e w' ⟨rfl, hk⟩; exact ⟨congrArg Ending.returned (by kernel_rfl), hk⟩
theorem lwAwake {w : World} [hv : VrB w] : Calls Tryz.prog 12 #[] w fun e w' => e = .returned (.bool true) ∧ Kp0 w w' := by
 have f1 : (FloatKind.f64.format.order 4599676419421066581 4599676419421066581 == some Ordering.eq) = true := by kernel_rfl
 have f2 : (FloatKind.f64.format.order 13823048456275842389 13823048456275842389 == some Ordering.eq) = true := by kernel_rfl
 go_enter Tryz.func12, Tryz.ntmps12; go_upto_region 6 with (first | (go_at_call 31; (with_reducible refine Calls.mono (aw10) ?_); rintro e wc ⟨rfl, _⟩) | (go_at_call 31; (with_reducible refine Calls.mono (aw11) ?_); rintro e wc ⟨rfl, _⟩) | (go_at_call 31; (with_reducible refine Calls.mono (aw00) ?_); rintro e wc ⟨rfl, _⟩) | (go_at_call 38; (with_reducible refine Calls.mono (awDiv) ?_); rintro e wd1 ⟨rfl, _⟩) | (go_at_call 38; (with_reducible refine Calls.mono (awDiv0) ?_); rintro e wd2 ⟨rfl, _⟩) | (go_at_call 52; (with_reducible refine Calls.mono (lwRatio) ?_); rintro e wc ⟨rfl, _⟩) | (go_at_call 28; (with_reducible refine Calls.mono (awNear) ?_); rintro e wc ⟨rfl, _⟩) | (go_at_call 14; (with_reducible refine Calls.mono (awAt) ?_); rintro e wat ⟨rfl, _⟩))
 go_upto_region 7 with (go_at_call 18; (with_reducible refine Calls.mono (awZ2) ?_); rintro e wc ⟨rfl, _⟩)
 go_upto_region 8 with (go_at_call 18; (with_reducible refine Calls.mono (awZ0) ?_); rintro e wc ⟨rfl, _⟩)
 go_upto_region 9 with (go_at_call 18; (with_reducible refine Calls.mono (awZm) ?_); rintro e wc ⟨rfl, _⟩)
 go_region_held3 (fun W => W.cell? ⟨wd1.heap.size, 0, none⟩ = some (.string ⟨#[49]⟩) ∧ W.cell? ⟨wd1.heap.size, 1, none⟩ = some (.string ⟨#[50]⟩) ∧ W.cell? ⟨wd1.heap.size, 2, none⟩ = some (.string ⟨#[45, 49]⟩) ∧ W.cell? ⟨wd1.heap.size, 3, none⟩ = some (.string ⟨#[50]⟩)) (refine ⟨?_, ?_, ?_, ?_⟩ <;> (first | exact Bk.cell BkC.out rfl | (simp [go_sem]; done))) (first | (go_at_call 52; (with_reducible refine Calls.mono (lwRatio) ?_); rintro e wc ⟨rfl, _⟩))
 all_goals (go_wp2_with fail)
 go_region_held3 (fun W => W.cell? ⟨wat.heap.size, 0, none⟩ = some (.string ⟨#[48]⟩) ∧ W.cell? ⟨wat.heap.size, 1, none⟩ = some (.string ⟨#[49]⟩) ∧ W.cell? ⟨wat.heap.size, 2, none⟩ = some (.string ⟨#[48]⟩) ∧ W.cell? ⟨wat.heap.size, 3, none⟩ = some (.string ⟨#[49]⟩)) (refine ⟨?_, ?_, ?_, ?_⟩ <;> (first | exact Bk.cell BkC.out rfl | (simp [go_sem]; done))) (first | (go_at_call 31; (with_reducible refine Calls.mono (aw00) ?_); rintro e wc ⟨rfl, _⟩) | (go_at_call 52; (with_reducible refine Calls.mono (lwRatio) ?_); rintro e wc ⟨rfl, _⟩) | (go_at_call 33; (with_reducible refine Calls.mono (awCheck) ?_); rintro e wc ⟨rfl, _⟩))
 all_goals (go_wp2_with fail)
 all_goals go_ret
 all_goals exact ⟨rfl, ⟨Gr.out⟩⟩
theorem lawOps {w : World} {a b c d a' b' c' d' : ByteArray} [sa : SzC a] [sb : SzC b] [sc : SzC c] [sd : SzC d] [sa' : SzC a'] [sb' : SzC b'] [sc' : SzC c'] [sd' : SzC d'] [hv : VrB w] :
 Calls Tryz.prog 11 #[.agg #[.string a, .string b, .string c, .string d], .agg #[.string a', .string b', .string c', .string d']] w fun e w' => e = .returned (.bool true) ∧ Kp0 w w' := by
 obtain ⟨q00, q01, q02, q03, q04, P0, D0⟩ := prAdd (a := a) (b := b) (c := c) (d := d) (a' := a') (b' := b') (c' := c') (d' := d'); obtain ⟨q10, q11, q12, q13, q14, P1, D1⟩ := prSub (a := a) (b := b) (c := c) (d := d) (a' := a') (b' := b') (c' := c') (d' := d'); obtain ⟨q20, q21, q22, q23, q24, P2, D2⟩ := prMul (a := a) (b := b) (c := c) (d := d) (a' := a') (b' := b') (c' := c') (d' := d'); obtain ⟨q30, q31, q32, q33, q34, P3, D3⟩ := prDiv (a := a) (b := b) (c := c) (d := d) (a' := a') (b' := b') (c' := c') (d' := d'); obtain ⟨q40, q41, q42, q43, q44, P4, D4⟩ := prConj (a := a) (b := b) (c := c) (d := d); obtain ⟨q50, q51, q52, P5, D5⟩ := prNorm (a := a) (b := b) (c := c) (d := d); obtain ⟨q60, q61, P6, D6⟩ := prCmp (a := a) (b := b) (c := c') (d := d'); obtain ⟨q70, q71, P7, D7⟩ := prSame (a := a) (b := b) (c := c) (d := d) (a' := a') (b' := b') (c' := c') (d' := d'); obtain ⟨q80, P8, D8⟩ := prCheck (a := a) (b := b) (c := c) (d := d); go_enter Tryz.func11, Tryz.ntmps11; go_wp2_with (first | (go_at_call 12; (with_reducible refine Calls.mono (lwAwake (hv := ⟨VrC.out⟩)) ?_); rintro e wc ⟨rfl, _⟩) | (go_at_call 34; (with_reducible refine Calls.mono (P0.out _ inferInstance) ?_); rintro e wc ⟨rfl, _⟩) | (go_at_call 43; (with_reducible refine Calls.mono (D0.out _) ?_); rintro e wc ⟨rfl, _⟩) | (go_at_call 36; (with_reducible refine Calls.mono (P1.out _ inferInstance) ?_); rintro e wc ⟨rfl, _⟩) | (go_at_call 44; (with_reducible refine Calls.mono (D1.out _) ?_); rintro e wc ⟨rfl, _⟩) | (go_at_call 35; (with_reducible refine Calls.mono (P2.out _ inferInstance) ?_); rintro e wc ⟨rfl, _⟩) | (go_at_call 45; (with_reducible refine Calls.mono (D2.out _) ?_); rintro e wc ⟨rfl, _⟩) | (go_at_call 38; (with_reducible refine Calls.mono (P3.out _ inferInstance) ?_); rintro e wc ⟨rfl, _⟩) | (go_at_call 46; (with_reducible refine Calls.mono (D3.out _) ?_); rintro e wc ⟨rfl, _⟩) | (go_at_call 40; (with_reducible refine Calls.mono (P4.out _ inferInstance) ?_); rintro e wc ⟨rfl, _⟩) | (go_at_call 47; (with_reducible refine Calls.mono (D4.out _) ?_); rintro e wc ⟨rfl, _⟩) | (go_at_call 39; (with_reducible refine Calls.mono (P5.out _ inferInstance) ?_); rintro e wc ⟨rfl, _⟩) | (go_at_call 48; (with_reducible refine Calls.mono (D5.out _) ?_); rintro e wc ⟨rfl, _⟩) | (go_at_call 42; (with_reducible refine Calls.mono (P6.out _ inferInstance) ?_); rintro e wc ⟨rfl, _⟩) | (go_at_call 49; (with_reducible refine Calls.mono (D6.out _) ?_); rintro e wc ⟨rfl, _⟩) | (go_at_call 37; (with_reducible refine Calls.mono (P7.out _ inferInstance) ?_); rintro e wc ⟨rfl, _⟩) | (go_at_call 50; (with_reducible refine Calls.mono (D7.out _) ?_); rintro e wc ⟨rfl, _⟩) | (go_at_call 33; (with_reducible refine Calls.mono (P8.out _ inferInstance) ?_); rintro e wc ⟨rfl, _⟩) | (go_at_call 51; (with_reducible refine Calls.mono (D8.out _) ?_); rintro e wc ⟨rfl, _⟩))
 go_region_held3 (fun W => W.cell? ⟨w.heap.size, 0, none⟩ = some (.string a) ∧ W.cell? ⟨w.heap.size, 1, none⟩ = some (.string b) ∧ W.cell? ⟨w.heap.size, 2, none⟩ = some (.string c) ∧ W.cell? ⟨w.heap.size, 3, none⟩ = some (.string d)) (refine ⟨?_, ?_, ?_, ?_⟩ <;> (first | exact Bk.cell BkC.out rfl | (simp [go_sem]; done))) (first | (go_at_call 33; (with_reducible refine Calls.mono (P8.out _ inferInstance) ?_); rintro e wc ⟨rfl, _⟩) | (go_at_call 51; (with_reducible refine Calls.mono (D8.out _) ?_); rintro e wc ⟨rfl, _⟩))
 all_goals (go_wp2_with fail)
 all_goals go_ret
 all_goals exact ⟨rfl, ⟨Gr.out⟩⟩
end Go.Proofs.YthjeejnggpjnjaaGreatDoor
