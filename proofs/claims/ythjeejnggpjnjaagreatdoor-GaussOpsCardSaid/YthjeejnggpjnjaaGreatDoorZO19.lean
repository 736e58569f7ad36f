/- A part: AY, AZ, BA, BB, AD, BC, BJ. -/
import Derived.Test.YthjeejnggpjnjaaGreatDoorZO18
import Derived.Laws.ResultCell
import Derived.Laws.Rows
set_option linter.unusedSimpArgs false
set_option linter.unusedVariables false
set_option maxRecDepth 100000
set_option maxHeartbeats 16000000
set_option synthInstance.maxHeartbeats 2000000
set_option synthInstance.maxSize 100000
namespace Go.Proofs.YthjeejnggpjnjaaGreatDoor
open Go.RowKit
theorem echecks (g T : Nat) (a b c d : ByteArray) (w : World) (hB : Bk w g [.string a, .string b, .string c, .string d] T) (ha : a.size ≤ maxLen) (hb : b.size ≤ maxLen) (hc : c.size ≤ maxLen) (hd : d.size ≤ maxLen) :
 Calls Tryz.prog 102 #[.slice (some ⟨g, 0, none⟩) 2 2] w fun e w' => e = .returned (.int .i64 (checkE a b c d)) ∧ Below w.heap.size w w' := by
 have T1 := hid (etext152 a false ha); have T2 := hid (etext152 b true hb); have T3 := hid (etext152 c false hc); have T4 := hid (etext152 d true hd); rw [Bool.not_false] at T1 T3; rw [Bool.not_true] at T2 T4; obtain ⟨E1, h1⟩ : ∃ E, E = textE a false := ⟨_, rfl⟩; obtain ⟨E2, h2⟩ : ∃ E, E = textE b true := ⟨_, rfl⟩; obtain ⟨E3, h3⟩ : ∃ E, E = textE c false := ⟨_, rfl⟩; obtain ⟨E4, h4⟩ : ∃ E, E = textE d true := ⟨_, rfl⟩; rw [← h1] at T1; rw [← h2] at T2; rw [← h3] at T3; rw [← h4] at T4; have H1 := hid h1.symm; have H2 := hid h2.symm; have H3 := hid h3.symm; have H4 := hid h4.symm; clear h1 h2 h3 h4 ha hb hc hd; have FR1 := hid (fun (ok : okT a b) (v : World) => efraction a b v ok)
 have FR2 := hid (fun (ok : okT c d) (v : World) => efraction c d v ok)
 have TL1 := hid (fun (ok : okT a b) (x : Nat) (v : World) (q : Ra 125 v x (rval a b)) => etellF x (rval a b) v q (by have := rval_small ok; omega) (by have := rval_small ok; omega))
 have TL2 := hid (fun (ok : okT c d) (x : Nat) (v : World) (q : Ra 125 v x (rval c d)) => etellF x (rval c d) v q (by have := rval_small ok; omega) (by have := rval_small ok; omega))
 obtain ⟨A1, hA1⟩ : ∃ A, A = (⟨(itext (rval a b).num).toArray⟩ : ByteArray) := ⟨_, rfl⟩; obtain ⟨A2, hA2⟩ : ∃ A, A = (⟨(itext (rval a b).den).toArray⟩ : ByteArray) := ⟨_, rfl⟩; obtain ⟨A3, hA3⟩ : ∃ A, A = (⟨(itext (rval c d).num).toArray⟩ : ByteArray) := ⟨_, rfl⟩; obtain ⟨A4, hA4⟩ : ∃ A, A = (⟨(itext (rval c d).den).toArray⟩ : ByteArray) := ⟨_, rfl⟩; rw [← hA1, ← hA2] at TL1; rw [← hA3, ← hA4] at TL2; have HA1 := hid hA1; have HA2 := hid hA2; have HA3 := hid hA3; have HA4 := hid hA4; clear hA1 hA2 hA3 hA4; haveI : Has w g := ⟨hB.lt⟩; have c0 := hB.cell (i := 0) rfl; have c1 := hB.cell (i := 1) rfl; have c2 := hB.cell (i := 2) rfl; have c3 := hB.cell (i := 3) rfl; have hB := hid hB; go_enter Tryz.func102, Tryz.ntmps102; go_wp2_with fail
 go_loop [3] (fun s3 => ∃ j : Nat, s3 = .int .i64 j ∧ j ≤ 2 ∧ Hid (1 ≤ j → E1 = 0 ∧ E2 = 0) ∧ Hid (2 ≤ j → E3 = 0 ∧ E4 = 0)) (fun s3 => 2 - (intOf s3).toNat)
 case atStart => exact ⟨0, rfl, by omega, hid (fun h => absurd h (by decide)), hid (fun h => absurd h (by decide))⟩
 case round =>
  obtain ⟨j, rfl, hj, hF1, hF2⟩ := hrel; by_cases j0 : j = 0
  · subst j0; by_cases e1 : E1 = 0
    · by_cases e2 : E2 = 0
      · have b1 : (E1 != 0) = false := by rw [e1]; rfl
        have b2 : (E2 != 0) = false := by rw [e2]; rfl
        have HG : Hid (E1 = 0 ∧ E2 = 0) := hid ⟨e1, e2⟩; clear e1 e2; go_wp2_with first | (go_at_call 152; (with_reducible refine (T1.out _).mono ?_); rintro e w' ⟨rfl, hw⟩; obtain rfl := hw.symm) | (go_at_call 152; (with_reducible refine (T2.out _).mono ?_); rintro e w' ⟨rfl, hw⟩; obtain rfl := hw.symm)
        go_round
        case rel => exact ⟨1, by go_num, by omega, hid (fun _ => HG.out), hid (fun h => absurd h (by decide))⟩
        case measure => simp [intOf]
      · have b1 : (E1 != 0) = false := by rw [e1]; rfl
        have b2 : (E2 != 0) = true := bne_iff_ne.2 e2; have HR : Hid (checkE a b c d = E2) := hid (by unfold checkE; rw [H1.out, H2.out, H3.out, H4.out]; simp only [e1, ne_eq, not_true_eq_false, if_false]; rw [if_pos e2])
        clear e1 e2; go_wp2_with first | (go_at_call 152; (with_reducible refine (T1.out _).mono ?_); rintro e w' ⟨rfl, hw⟩; obtain rfl := hw.symm) | (go_at_call 152; (with_reducible refine (T2.out _).mono ?_); rintro e w' ⟨rfl, hw⟩; obtain rfl := hw.symm)
        go_ret
        exact ⟨by rw [HR.out]; rfl, Below.refl _ _⟩
    · have b1 : (E1 != 0) = true := bne_iff_ne.2 e1; have HR : Hid (checkE a b c d = E1) := hid (by unfold checkE; rw [H1.out, H2.out, H3.out, H4.out]; rw [if_pos e1])
      clear e1; go_wp2_with first | (go_at_call 152; (with_reducible refine (T1.out _).mono ?_); rintro e w' ⟨rfl, hw⟩; obtain rfl := hw.symm) | (go_at_call 152; (with_reducible refine (T2.out _).mono ?_); rintro e w' ⟨rfl, hw⟩; obtain rfl := hw.symm)
      go_ret
      exact ⟨by rw [HR.out]; rfl, Below.refl _ _⟩
  by_cases j1 : j = 1
  · subst j1; by_cases e3 : E3 = 0
    · by_cases e4 : E4 = 0
      · have b1 : (E3 != 0) = false := by rw [e3]; rfl
        have b2 : (E4 != 0) = false := by rw [e4]; rfl
        have HG : Hid (E3 = 0 ∧ E4 = 0) := hid ⟨e3, e4⟩; clear e3 e4; go_wp2_with first | (go_at_call 152; (with_reducible refine (T3.out _).mono ?_); rintro e w' ⟨rfl, hw⟩; obtain rfl := hw.symm) | (go_at_call 152; (with_reducible refine (T4.out _).mono ?_); rintro e w' ⟨rfl, hw⟩; obtain rfl := hw.symm)
        go_round
        case rel => exact ⟨2, by go_num, by omega, hid (fun _ => hF1.out (by decide)), hid (fun _ => HG.out)⟩
        case measure => simp [intOf]
      · have b1 : (E3 != 0) = false := by rw [e3]; rfl
        have b2 : (E4 != 0) = true := bne_iff_ne.2 e4; have HR : Hid (checkE a b c d = E4) := hid (by unfold checkE; rw [H1.out, H2.out, H3.out, H4.out]; simp only [(hF1.out (by decide)).1, (hF1.out (by decide)).2, e3, ne_eq, not_true_eq_false, if_false]; rw [if_pos e4])
        clear e3 e4; go_wp2_with first | (go_at_call 152; (with_reducible refine (T3.out _).mono ?_); rintro e w' ⟨rfl, hw⟩; obtain rfl := hw.symm) | (go_at_call 152; (with_reducible refine (T4.out _).mono ?_); rintro e w' ⟨rfl, hw⟩; obtain rfl := hw.symm)
        go_ret
        exact ⟨by rw [HR.out]; rfl, Below.refl _ _⟩
    · have b1 : (E3 != 0) = true := bne_iff_ne.2 e3; have HR : Hid (checkE a b c d = E3) := hid (by unfold checkE; rw [H1.out, H2.out, H3.out, H4.out]; simp only [(hF1.out (by decide)).1, (hF1.out (by decide)).2, ne_eq, not_true_eq_false, if_false]; rw [if_pos e3])
      clear e3; go_wp2_with first | (go_at_call 152; (with_reducible refine (T3.out _).mono ?_); rintro e w' ⟨rfl, hw⟩; obtain rfl := hw.symm) | (go_at_call 152; (with_reducible refine (T4.out _).mono ?_); rintro e w' ⟨rfl, hw⟩; obtain rfl := hw.symm)
      go_ret
      exact ⟨by rw [HR.out]; rfl, Below.refl _ _⟩
  obtain rfl : j = 2 := by omega
  have HOK : Hid (okT a b ∧ okT c d) := hid ⟨⟨H1.out.trans (hF1.out (by decide)).1, H2.out.trans (hF1.out (by decide)).2⟩, ⟨H3.out.trans (hF2.out (by decide)).1, H4.out.trans (hF2.out (by decide)).2⟩⟩
  clear hF1 hF2 hj j0 j1; go_wp2_with fail
  go_loopw [5] (fun s5 wx => ∃ j : Nat, s5 = .int .i64 j ∧ j ≤ 2 ∧ Below w.heap.size w wx ∧ Hid (1 ≤ j → sameT a b = true) ∧ Hid (2 ≤ j → sameT c d = true)) (fun s5 _ => 2 - (intOf s5).toNat)
  case atStart => exact ⟨0, rfl, by omega, Below.refl _ _, hid (fun h => absurd h (by decide)), hid (fun h => absurd h (by decide))⟩
  case round =>
   obtain ⟨j, rfl, hj, hb, hF1, hF2⟩ := hrel; have HBw := hid (hB.out.below hb); have c0 := HBw.out.cell (i := 0) rfl; have c1 := HBw.out.cell (i := 1) rfl; have c2 := HBw.out.cell (i := 2) rfl; have c3 := HBw.out.cell (i := 3) rfl; haveI : Has wr g := ⟨HBw.out.lt⟩; by_cases j0 : j = 0
   · subst j0; have Hb := hid hb; clear hb; by_cases n1 : A1 = a
     · by_cases n2 : A2 = b
       · have HS : Hid (sameT a b = true) := hid ((same_iff a b).2 ⟨HA1.out.symm.trans n1, HA2.out.symm.trans n2⟩); rw [n1, n2] at TL1; clear n1 n2; go_wp2_with fail
         go_region_held3 (fun W => W.cell? ⟨g, 0, none⟩ = some (.string a) ∧ W.cell? ⟨g, 1, none⟩ = some (.string b)) (refine ⟨?_, ?_⟩ <;> (first | assumption | (simp [go_sem, *]; done))) (first | (go_at_call 103; (with_reducible refine (FR1.out HOK.out.1 _).mono ?_); rintro e w3 ⟨x, rfl, hx3, hR3, hb3⟩; have hq3 := Below.trans (Below.drew (Below.refl wr.heap.size wr)) hb3; have HB3 := hid (HBw.out.below hq3); have s0 := HB3.out.cell (i := 0) rfl; have s1 := HB3.out.cell (i := 1) rfl; haveI : Has w3 g := ⟨HB3.out.lt⟩; have HR3 := hid hR3; have HQ3 := hid hq3; clear hx3 hR3 hb3 hq3) | (go_at_call 100; (with_reducible refine (TL1.out HOK.out.1 x _ HR3.out).mono ?_); rintro e w5 ⟨rfl, hb5⟩; have HQ5 := hid (Below.trans HQ3.out (below_low hb5 HQ3.out.size)); have HB5 := hid (HB3.out.below hb5); have t0 := HB5.out.cell (i := 0) rfl; have t1 := HB5.out.cell (i := 1) rfl; haveI : Has w5 g := ⟨HB5.out.lt⟩; clear hb5))
         go_wp2_with fail
         go_round
         case rel => exact ⟨1, by go_num, by omega, Below.trans Hb.out (below_low HQ5.out Hb.out.size), hid (fun _ => HS.out), hid (fun h => absurd h (by decide))⟩
         case measure => simp [intOf]
       · have m1 := n1; clear n1; have n1 := n2; clear n2
         have HC : Hid (checkE a b c d = 30) := hid (by
          unfold checkE; have h := HOK.out; rw [h.1.1, h.1.2, h.2.1, h.2.2, if_neg (by decide), if_neg (by decide), if_neg (by decide), if_neg (by decide), if_neg]
          intro hh; have := (same_iff a b).1 hh.1; rw [← HA1.out, ← HA2.out] at this
          first
           | exact n1 this.1
           | exact n1 this.2)
         rw [m1] at TL1; clear m1; have n2 := str_ne n1; go_wp2_with fail
         go_region_held3 (fun W => W.cell? ⟨g, 0, none⟩ = some (.string a) ∧ W.cell? ⟨g, 1, none⟩ = some (.string b)) (refine ⟨?_, ?_⟩ <;> (first | assumption | (simp [go_sem, *]; done))) (first | (go_at_call 103; (with_reducible refine (FR1.out HOK.out.1 _).mono ?_); rintro e w3 ⟨x, rfl, hx3, hR3, hb3⟩; have hq3 := Below.trans (Below.drew (Below.refl wr.heap.size wr)) hb3; have HB3 := hid (HBw.out.below hq3); have s0 := HB3.out.cell (i := 0) rfl; have s1 := HB3.out.cell (i := 1) rfl; haveI : Has w3 g := ⟨HB3.out.lt⟩; have HR3 := hid hR3; have HQ3 := hid hq3; clear hx3 hR3 hb3 hq3) | (go_at_call 100; (with_reducible refine (TL1.out HOK.out.1 x _ HR3.out).mono ?_); rintro e w5 ⟨rfl, hb5⟩; have HQ5 := hid (Below.trans HQ3.out (below_low hb5 HQ3.out.size)); have HB5 := hid (HB3.out.below hb5); have t0 := HB5.out.cell (i := 0) rfl; have t1 := HB5.out.cell (i := 1) rfl; haveI : Has w5 g := ⟨HB5.out.lt⟩; clear hb5))
         go_wp2_with fail
         go_ret
         exact ⟨by rw [HC.out]; rfl, Below.trans Hb.out (below_low HQ5.out Hb.out.size)⟩
     · have HC : Hid (checkE a b c d = 30) := hid (by
        unfold checkE; have h := HOK.out; rw [h.1.1, h.1.2, h.2.1, h.2.2, if_neg (by decide), if_neg (by decide), if_neg (by decide), if_neg (by decide), if_neg]
        intro hh; have := (same_iff a b).1 hh.1; rw [← HA1.out, ← HA2.out] at this
        first
         | exact n1 this.1
         | exact n1 this.2)
       have n2 := str_ne n1; go_wp2_with fail
       go_region_held3 (fun W => W.cell? ⟨g, 0, none⟩ = some (.string a) ∧ W.cell? ⟨g, 1, none⟩ = some (.string b)) (refine ⟨?_, ?_⟩ <;> (first | assumption | (simp [go_sem, *]; done))) (first | (go_at_call 103; (with_reducible refine (FR1.out HOK.out.1 _).mono ?_); rintro e w3 ⟨x, rfl, hx3, hR3, hb3⟩; have hq3 := Below.trans (Below.drew (Below.refl wr.heap.size wr)) hb3; have HB3 := hid (HBw.out.below hq3); have s0 := HB3.out.cell (i := 0) rfl; have s1 := HB3.out.cell (i := 1) rfl; haveI : Has w3 g := ⟨HB3.out.lt⟩; have HR3 := hid hR3; have HQ3 := hid hq3; clear hx3 hR3 hb3 hq3) | (go_at_call 100; (with_reducible refine (TL1.out HOK.out.1 x _ HR3.out).mono ?_); rintro e w5 ⟨rfl, hb5⟩; have HQ5 := hid (Below.trans HQ3.out (below_low hb5 HQ3.out.size)); have HB5 := hid (HB3.out.below hb5); have t0 := HB5.out.cell (i := 0) rfl; have t1 := HB5.out.cell (i := 1) rfl; haveI : Has w5 g := ⟨HB5.out.lt⟩; clear hb5))
       go_wp2_with fail
       go_ret
       exact ⟨by rw [HC.out]; rfl, Below.trans Hb.out (below_low HQ5.out Hb.out.size)⟩
   by_cases j1 : j = 1
   · subst j1; have Hb := hid hb; clear hb; by_cases n1 : A3 = c
     · by_cases n2 : A4 = d
       · have HS : Hid (sameT c d = true) := hid ((same_iff c d).2 ⟨HA3.out.symm.trans n1, HA4.out.symm.trans n2⟩); rw [n1, n2] at TL2; clear n1 n2; go_wp2_with fail
         go_region_held3 (fun W => W.cell? ⟨g, 2, none⟩ = some (.string c) ∧ W.cell? ⟨g, 3, none⟩ = some (.string d)) (refine ⟨?_, ?_⟩ <;> (first | assumption | (simp [go_sem, *]; done))) (first | (go_at_call 103; (with_reducible refine (FR2.out HOK.out.2 _).mono ?_); rintro e w3 ⟨x, rfl, hx3, hR3, hb3⟩; have hq3 := Below.trans (Below.drew (Below.refl wr.heap.size wr)) hb3; have HB3 := hid (HBw.out.below hq3); have s0 := HB3.out.cell (i := 2) rfl; have s1 := HB3.out.cell (i := 3) rfl; haveI : Has w3 g := ⟨HB3.out.lt⟩; have HR3 := hid hR3; have HQ3 := hid hq3; clear hx3 hR3 hb3 hq3) | (go_at_call 100; (with_reducible refine (TL2.out HOK.out.2 x _ HR3.out).mono ?_); rintro e w5 ⟨rfl, hb5⟩; have HQ5 := hid (Below.trans HQ3.out (below_low hb5 HQ3.out.size)); have HB5 := hid (HB3.out.below hb5); have t0 := HB5.out.cell (i := 2) rfl; have t1 := HB5.out.cell (i := 3) rfl; haveI : Has w5 g := ⟨HB5.out.lt⟩; clear hb5))
         go_wp2_with fail
         go_round
         case rel => exact ⟨2, by go_num, by omega, Below.trans Hb.out (below_low HQ5.out Hb.out.size), hid (fun _ => hF1.out (by decide)), hid (fun _ => HS.out)⟩
         case measure => simp [intOf]
       · have m1 := n1; clear n1; have n1 := n2; clear n2
         have HC : Hid (checkE a b c d = 30) := hid (by
          unfold checkE; have h := HOK.out; rw [h.1.1, h.1.2, h.2.1, h.2.2, if_neg (by decide), if_neg (by decide), if_neg (by decide), if_neg (by decide), if_neg]
          intro hh; have := (same_iff c d).1 hh.2; rw [← HA3.out, ← HA4.out] at this
          first
           | exact n1 this.1
           | exact n1 this.2)
         rw [m1] at TL2; clear m1; have n2 := str_ne n1; go_wp2_with fail
         go_region_held3 (fun W => W.cell? ⟨g, 2, none⟩ = some (.string c) ∧ W.cell? ⟨g, 3, none⟩ = some (.string d)) (refine ⟨?_, ?_⟩ <;> (first | assumption | (simp [go_sem, *]; done))) (first | (go_at_call 103; (with_reducible refine (FR2.out HOK.out.2 _).mono ?_); rintro e w3 ⟨x, rfl, hx3, hR3, hb3⟩; have hq3 := Below.trans (Below.drew (Below.refl wr.heap.size wr)) hb3; have HB3 := hid (HBw.out.below hq3); have s0 := HB3.out.cell (i := 2) rfl; have s1 := HB3.out.cell (i := 3) rfl; haveI : Has w3 g := ⟨HB3.out.lt⟩; have HR3 := hid hR3; have HQ3 := hid hq3; clear hx3 hR3 hb3 hq3) | (go_at_call 100; (with_reducible refine (TL2.out HOK.out.2 x _ HR3.out).mono ?_); rintro e w5 ⟨rfl, hb5⟩; have HQ5 := hid (Below.trans HQ3.out (below_low hb5 HQ3.out.size)); have HB5 := hid (HB3.out.below hb5); have t0 := HB5.out.cell (i := 2) rfl; have t1 := HB5.out.cell (i := 3) rfl; haveI : Has w5 g := ⟨HB5.out.lt⟩; clear hb5))
         go_wp2_with fail
         go_ret
         exact ⟨by rw [HC.out]; rfl, Below.trans Hb.out (below_low HQ5.out Hb.out.size)⟩
     · have HC : Hid (checkE a b c d = 30) := hid (by
        unfold checkE; have h := HOK.out; rw [h.1.1, h.1.2, h.2.1, h.2.2, if_neg (by decide), if_neg (by decide), if_neg (by decide), if_neg (by decide), if_neg]
        intro hh; have := (same_iff c d).1 hh.2; rw [← HA3.out, ← HA4.out] at this
        first
         | exact n1 this.1
         | exact n1 this.2)
       have n2 := str_ne n1; go_wp2_with fail
       go_region_held3 (fun W => W.cell? ⟨g, 2, none⟩ = some (.string c) ∧ W.cell? ⟨g, 3, none⟩ = some (.string d)) (refine ⟨?_, ?_⟩ <;> (first | assumption | (simp [go_sem, *]; done))) (first | (go_at_call 103; (with_reducible refine (FR2.out HOK.out.2 _).mono ?_); rintro e w3 ⟨x, rfl, hx3, hR3, hb3⟩; have hq3 := Below.trans (Below.drew (Below.refl wr.heap.size wr)) hb3; have HB3 := hid (HBw.out.below hq3); have s0 := HB3.out.cell (i := 2) rfl; have s1 := HB3.out.cell (i := 3) rfl; haveI : Has w3 g := ⟨HB3.out.lt⟩; have HR3 := hid hR3; have HQ3 := hid hq3; clear hx3 hR3 hb3 hq3) | (go_at_call 100; (with_reducible refine (TL2.out HOK.out.2 x _ HR3.out).mono ?_); rintro e w5 ⟨rfl, hb5⟩; have HQ5 := hid (Below.trans HQ3.out (below_low hb5 HQ3.out.size)); have HB5 := hid (HB3.out.below hb5); have t0 := HB5.out.cell (i := 2) rfl; have t1 := HB5.out.cell (i := 3) rfl; haveI : Has w5 g := ⟨HB5.out.lt⟩; clear hb5))
       go_wp2_with fail
       go_ret
       exact ⟨by rw [HC.out]; rfl, Below.trans Hb.out (below_low HQ5.out Hb.out.size)⟩
   obtain rfl : j = 2 := by omega
   have HC : Hid (checkE a b c d = 0) := hid (by
    unfold checkE; have h := HOK.out; rw [h.1.1, h.1.2, h.2.1, h.2.2, if_neg (by decide), if_neg (by decide), if_neg (by decide), if_neg (by decide), if_pos ⟨hF1.out (by decide), hF2.out (by decide)⟩])
   have Hb := hid hb; clear hb hF1 hF2 hj j0 j1; go_wp2_with fail
   go_ret
   exact ⟨by rw [HC.out]; rfl, Hb.out⟩
abbrev exV (a b c d : ByteArray) : Value := .agg #[.string a, .string b, .string c, .string d]
theorem eCheck (a b c d : ByteArray) (w : World) (ha : a.size ≤ maxLen) (hb : b.size ≤ maxLen) (hc : c.size ≤ maxLen) (hd : d.size ≤ maxLen) :
 Calls Tryz.prog 51 #[exV a b c d] w fun e w' => e = .returned (.int .i64 (checkE a b c d)) ∧ Below w.heap.size w w' := by
 have CK := hid (fun (g T : Nat) (v : World) (h : Bk v g [.string a, .string b, .string c, .string d] T) => echecks g T a b c d v h ha hb hc hd)
 clear ha hb hc hd; generalize checkE a b c d = R at *; have HW : Hid (Below w.heap.size w ((w.alloc (.cells #[.string a, .string b, .string c, .string d] 33)).alloc (.cells #[.string a, .string b, .string c, .string d] 31))) := hid (((Below.refl _ _).alloc (Nat.le_refl _) _).alloc ((Below.refl w.heap.size w).alloc (Nat.le_refl _) (.cells #[.string a, .string b, .string c, .string d] 33)).size _); go_enter Tryz.func51, Tryz.ntmps51; go_wp2_with (go_at_call 102; (with_reducible refine (CK.out _ 31 _ ?_).mono ?_); (focus (exact ⟨by rw [block_at], by decide⟩)); rintro e w1 ⟨rfl, hb1⟩)
 go_ret
 exact ⟨rfl, Below.trans HW.out (below_low hb1 HW.out.size)⟩
theorem results_row_tmp {P : Program} {fn : Func} {p u : Tmp} {ty : TypeId} (h : fn.results = #[.cell p ty, .tmp u]) (tmps : Array Value) (w : World) (g : Nat) (t : TypeId) (cs : Array Value) (fr : Nat × Nat) (d : TypeDesc)
 (hp : tmps.getD p undef = .pointer (some ⟨g, 0, none⟩)) (hg : w.heap[g]? = some (.cells cs t fr))
 (hu : P.underlying ty = some d) (hd : (match d with | .struct _ | .array _ _ => true | _ => false) = true) (hi : (P.info? ty).map (·.size) = some cs.size) :
 (results fn tmps).run P w = .ok (.tuple #[.agg cs, tmps.getD u undef]) w := by
 rw [results_cell_tmp h, hp]; simp [asAddr, Result.andThen, run_loadVar_row w g t ty cs fr d hg hu hd hi]
def Nu (R B : Nat) (w : World) (v : Value) (x y : _root_.Rat) : Prop := ∃ g k, v = .agg #[.pointer (some ⟨g, 0, none⟩), .pointer (some ⟨k, 0, none⟩)] ∧ B ≤ g ∧ B ≤ k ∧ Ra R w g x ∧ Ra R w k y
theorem boneX (a b c d : ByteArray) (w : World) (ha : a.size ≤ maxLen) (hb : b.size ≤ maxLen) (hc : c.size ≤ maxLen) (hd : d.size ≤ maxLen) (hvr : Vr w) :
 Calls Tryz.prog 75 #[exV a b c d] w fun e w' => Below w.heap.size w w' ∧ ∃ v, e = .returned (.tuple #[v, .int .i64 (checkE a b c d)]) ∧ (checkE a b c d ≠ 0 → v = .agg #[.pointer none, .pointer none]) ∧ (checkE a b c d = 0 → Nu 88 w.heap.size w' v (rval a b) (rval c d)) := by
 have HW : Hid (Below w.heap.size w (((w.alloc (.cells #[.string a, .string b, .string c, .string d] 33)).alloc (.cells #[.pointer none, .pointer none] 82)).alloc (.cells #[.string a, .string b, .string c, .string d] 31))) := hid ((((Below.refl _ _).alloc (Nat.le_refl _) _).alloc ((Below.refl w.heap.size w).alloc (Nat.le_refl _) (.cells #[.string a, .string b, .string c, .string d] 33)).size _).alloc ((((Below.refl w.heap.size w).alloc (Nat.le_refl _) (.cells #[.string a, .string b, .string c, .string d] 33)).alloc ((Below.refl w.heap.size w).alloc (Nat.le_refl _) (.cells #[.string a, .string b, .string c, .string d] 33)).size (.cells #[.pointer none, .pointer none] 82)).size) _); have HZ : Hid (Bk (((w.alloc (.cells #[.string a, .string b, .string c, .string d] 33)).alloc (.cells #[.pointer none, .pointer none] 82)).alloc (.cells #[.string a, .string b, .string c, .string d] 31)) (w.heap.size + 1) [.pointer none, .pointer none] 82) := hid ((show Bk ((w.alloc (.cells #[.string a, .string b, .string c, .string d] 33)).alloc (.cells #[.pointer none, .pointer none] 82)) (w.heap.size + 1) [.pointer none, .pointer none] 82 from ⟨by rw [block_at], by decide⟩).below ((Below.refl _ _).alloc (Nat.le_refl _) _))
 have CK := hid (fun (g T : Nat) (v : World) (q : Below w.heap.size w v) (h : Bk v g [.string a, .string b, .string c, .string d] T) => bread2 g T a b c d v h ha hb hc hd (hvr.below q))
 clear ha hb hc hd hvr; go_enter Tryz.func75, Tryz.ntmps75; go_upto_region 2 with (go_at_call 91; (with_reducible refine (CK.out _ 31 _ HW.out ?_).mono ?_); (focus (exact ⟨by rw [block_at], by decide⟩)); rintro e w1 ⟨hb1, hpost⟩; have HB1 := hid (Below.trans HW.out (below_low hb1 HW.out.size)); have hBZ := HZ.out.below hb1; have z0 := hBZ.cell (i := 0) rfl; have z1 := hBZ.cell (i := 1) rfl; have f0 := hBZ.free 0; have f1 := hBZ.free 1; haveI : Has w1 (w.heap.size + 1) := ⟨hBZ.lt⟩; rcases hpost with ⟨hn, rfl⟩ | ⟨hz, g, x, y, rfl, hg, hx, hy, hB, hRx, hRy⟩)
 · have b1 : (checkE a b c d != 0) = true := bne_iff_ne.2 hn; have HN := hid hn; clear hn hb1; go_wp2_with fail
   have hB5 := (hBZ.set 0 (.pointer none)).set 1 (.pointer none); refine bodyPost_ret (results_row_tmp rfl _ _ (w.heap.size + 1) 82 _ (0, 0) _ rfl hB5.1 (by rfl) (by rfl) (by rfl)) rfl ?_
   exact ⟨below_store (below_store HB1.out (Nat.le_add_right _ 1)) (Nat.le_add_right _ 1), _, rfl, fun _ => rfl, fun h => absurd h HN.out⟩
 · have g0 := hB.cell (i := 0) rfl; have g1 := hB.cell (i := 1) rfl; haveI : Has w1 g := ⟨hB.lt⟩; have hgn : g ≠ w.heap.size + 1 := hB.ne hBZ (by decide)
   have hgn2 : w.heap.size + 1 ≠ g := Ne.symm hgn; have HBZ := hid hBZ; have HRX := hid hRx; have HRY := hid hRy; have HX := hid (Nat.le_trans HW.out.size hx); have HY := hid (Nat.le_trans HW.out.size hy); have HBG := hid hB; have HZ0 := hid hz; clear hz hb1 hBZ hRx hRy hx hy hB hg; go_upto_region 4 with fail
   go_region_held3 (fun W => W.cell? ⟨g, 0, none⟩ = some (.pointer (some ⟨x, 0, none⟩)) ∧ W.cell? ⟨g, 1, none⟩ = some (.pointer (some ⟨y, 0, none⟩))) (refine ⟨?_, ?_⟩ <;> (first | assumption | (simp [go_sem, *]; done))) (fail)
   go_wp2_with fail
   have hB5 := (HBZ.out.set 0 (.pointer (some ⟨x, 0, none⟩))).set 1 (.pointer (some ⟨y, 0, none⟩)); have KP := ((Keeps.refl w1.heap.size [w.heap.size + 1] w1).set (Or.inl (List.mem_singleton.2 rfl)) 0 (.pointer (some ⟨x, 0, none⟩))).set (Or.inl (List.mem_singleton.2 rfl)) 1 (.pointer (some ⟨y, 0, none⟩)); have nx : x ≠ w.heap.size + 1 := by obtain ⟨v, d, hbv, -, -⟩ := HRX.out; exact hbv.ne HBZ.out (by decide)
   have ny : y ≠ w.heap.size + 1 := by obtain ⟨v, d, hbv, -, -⟩ := HRY.out; exact hbv.ne HBZ.out (by decide)
   refine bodyPost_ret (results_row_tmp rfl _ _ (w.heap.size + 1) 82 _ (0, 0) _ rfl hB5.1 (by rfl) (by rfl) (by rfl)) rfl ?_
   rw [HZ0.out]; exact ⟨Below.drew (below_store (below_store HB1.out (Nat.le_add_right _ 1)) (Nat.le_add_right _ 1)), _, rfl, fun h => absurd rfl h, fun _ => ⟨x, y, rfl, HX.out, HY.out, HRX.out.keep HBZ.out KP.drew nx, HRY.out.keep HBZ.out KP.drew ny⟩⟩
theorem results_row2_tmp {P : Program} {fn : Func} {p q u : Tmp} {ty : TypeId} (h : fn.results = #[.cell p ty, .cell q ty, .tmp u]) (tmps : Array Value) (w : World) (g k : Nat) (t t' : TypeId) (cs cs' : Array Value) (fr fr' : Nat × Nat) (d : TypeDesc)
 (hp : tmps.getD p undef = .pointer (some ⟨g, 0, none⟩)) (hg : w.heap[g]? = some (.cells cs t fr)) (hq : tmps.getD q undef = .pointer (some ⟨k, 0, none⟩)) (hk : w.heap[k]? = some (.cells cs' t' fr'))
 (hu : P.underlying ty = some d) (hd : (match d with | .struct _ | .array _ _ => true | _ => false) = true) (hi : (P.info? ty).map (·.size) = some cs.size) (hi' : (P.info? ty).map (·.size) = some cs'.size) :
 (results fn tmps).run P w = .ok (.tuple #[.agg cs, .agg cs', tmps.getD u undef]) w := by
 simp only [results, h]; have hp' : tmps[p]?.getD undef = .pointer (some ⟨g, 0, none⟩) := by simpa using hp
 have hq' : tmps[q]?.getD undef = .pointer (some ⟨k, 0, none⟩) := by simpa using hq
 simp [Sem.run_bind, Result.andThen, hp', hq', asAddr, run_loadVar_row w g t ty cs fr d hg hu hd hi, run_loadVar_row w k t' ty cs' fr' d hk hu hd hi']
theorem erquo (gz gx gy : Nat) (z0 z1 z2 : Value) (x y : _root_.Rat) (w : World) (hz : Bk w gz [z0, z1, z2] 125) (hx : Ra 125 w gx x) (hy : Ra 125 w gy y) (lx : (words x.num.natAbs).length ≤ 34359738368) (mx : (words x.den).length ≤ 34359738368) (ly : (words y.num.natAbs).length ≤ 34359738368) (my : (words y.den).length ≤ 34359738368) (hy0 : y.num ≠ 0) :
 Calls Tryz.prog 99 #[.pointer (some ⟨gz, 0, none⟩), .pointer (some ⟨gx, 0, none⟩), .pointer (some ⟨gy, 0, none⟩)] w fun e w' => e = .returned (.pointer (some ⟨gz, 0, none⟩)) ∧ Ra 125 w' gz (x / y) ∧ Keeps w.heap.size [gz] w w' := by
 obtain ⟨vx, dx, bx, wx, ex⟩ := hx; obtain ⟨vy, dy, by_, wy, ey⟩ := hy; have B1 := hid (fun w' (h : Below w.heap.size w w') => ebelow gx _ vx dx x.den w' (bx.below h) (ex.below h) x.den_nz)
 have B2 := hid (fun w' (h : Below w.heap.size w w') => ebelow gy _ vy dy y.den w' (by_.below h) (ey.below h) y.den_nz)
 have lp := mul_len x.num.natAbs y.den; have lq := mul_len x.den y.num.natAbs; have M1 := hid (fun v w' (h : Below w.heap.size w w') (q : Wd w' v (words y.den)) => emulW vx v x.num.natAbs y.den w' (wx.below h) q (by omega))
 have M2 := hid (fun v w' (h : Below w.heap.size w w') (q : Wd w' v (words x.den)) => emulW v vy x.den y.num.natAbs w' q (wy.below h) (by omega))
 have TI := hid (fun va vd w' (h : Below w.heap.size w w') (q1 : Wd w' va (words (x.num.natAbs * y.den))) (q2 : Wd w' vd (words (x.den * y.num.natAbs))) => erset gz z0 z1 z2 (!(decide (x.num < 0) == decide (y.num < 0))) va vd (x.num.natAbs * y.den) (x.den * y.num.natAbs) w' (hz.below h) q1 q2 (Nat.mul_ne_zero x.den_nz (by omega)) (by omega) (by omega))
 rw [rat_div_mk' x y hy0] at TI; clear lp lq; obtain ⟨ax, cx, rfl, -, -⟩ := wx.form; obtain ⟨ay, cy, rfl, -, -⟩ := wy.form; have BX := hid bx; have BY := hid by_; have BZ := hid hz
 skip
 obtain ⟨r, hr⟩ : ∃ r, r = x / y := ⟨_, rfl⟩; rw [← hr] at TI ⊢; clear hr lx ly mx my; generalize (words x.num.natAbs).length = kx at *; generalize (words y.num.natAbs).length = ky at *; generalize decide (x.num < 0) = nx at *; generalize decide (y.num < 0) = ny at *; have x0 := bx.cell (i := 0) rfl; have x1 := bx.cell (i := 1) rfl; have y0 := by_.cell (i := 0) rfl; have y1 := by_.cell (i := 1) rfl; haveI : Has w gx := ⟨bx.lt⟩; haveI : Has w gy := ⟨by_.lt⟩; clear bx by_ wx wy ex ey hz; go_enter Tryz.func99, Tryz.ntmps99; go_wp2_with fail
 refine wp_region_late (S := (fun W => W.cell? ⟨gx, 0, none⟩ = some (.bool nx) ∧ W.cell? ⟨gx, 1, none⟩ = some (.slice ax kx cx) ∧ W.cell? ⟨gy, 0, none⟩ = some (.bool ny) ∧ W.cell? ⟨gy, 1, none⟩ = some (.slice ay ky cy))) 28 (by kernel_rfl) ?_ (fun hHeld => ?_)
 · (refine ⟨?_, ?_, ?_, ?_⟩ <;> (first | assumption | (simp [go_sem, *]; done)))
 refine wpAnyL_q 0 rfl ?_
 try simp only [Act.put, sA, sZ, sS]
 refine wpAnyL_q 1 rfl ?_
 try simp only [Act.put, sA, sZ, sS]
 refine wpAnyL_q 2 rfl ?_
 try simp only [Act.put, sA, sZ, sS]
 refine wpAnyL_q 3 rfl ?_
 try simp only [Act.put, sA, sZ, sS]
 refine wpAnyL_q 4 rfl ?_
 try simp only [Act.put, sA, sZ, sS]
 refine wpAnyL_q 6 rfl ?_
 try simp only [Act.put, sA, sZ, sS]
 refine wpAnyL_q 7 rfl ?_
 try simp only [Act.put, sA, sZ, sS]
 refine wpAnyL_q 8 rfl ?_
 try simp only [Act.put, sA, sZ, sS]
 refine wpAnyL_q 9 rfl ?_
 try simp only [Act.put, sA, sZ, sS]
 refine wpAnyL_q 12 rfl ?_
 try simp only [Act.put, sA, sZ, sS]
 refine wpAnyL_q 13 rfl ?_
 try simp only [Act.put, sA, sZ, sS]
 refine wpAnyL_q 14 rfl ?_
 try simp only [Act.put, sA, sZ, sS]
 refine wpAnyL_q 15 rfl ?_
 try simp only [Act.put, sA, sZ, sS]
 refine wpAnyL_q 17 rfl ?_
 try simp only [Act.put, sA, sZ, sS]
 refine wpAnyL_q 20 rfl ?_
 try simp only [Act.put, sA, sZ, sS]
 refine wpAnyL_q 22 rfl ?_
 try simp only [Act.put, sA, sZ, sS]
 refine wpAnyL_q 23 rfl ?_
 try simp only [Act.put, sA, sZ, sS]
 refine wpAnyL_q 24 rfl ?_
 try simp only [Act.put, sA, sZ, sS]
 refine wpAnyL_q 25 rfl ?_
 try simp only [Act.put, sA, sZ, sS]
 refine wpAnyL_r 5 rfl ?_
 try simp only [Act.put, sA, sZ, sS]
 refine wpAnyL_r 10 rfl ?_
 try simp only [Act.put, sA, sZ, sS]
 refine wpAnyL_q 11 rfl ?_
 try simp only [Act.put, sA, sZ, sS]
 refine wpAnyL_r 16 rfl ?_
 try simp only [Act.put, sA, sZ, sS]
 refine wpAnyL_r 26 rfl ?_
 try simp only [Act.put, sA, sZ, sS]
 refine wpAnyL_ready (rs := [18]) (by kernel_rfl) (by simp) ?_
 refine AllReadyL.early rfl (fun K hK => ?_) AllReadyL.nil
 go_simp
 (go_at_call 148; (with_reducible refine (B2.out _ ?_).mono ?_); (focus (first | assumption | exact Below.drew (Below.refl _ _))); rintro e w1 ⟨v1, rfl, h1, hq1⟩; have hb1 := Below.trans (Below.drew (Below.refl w.heap.size w)) hq1; have x01 := (BX.out.below hb1).cell (i := 0) rfl; have x11 := (BX.out.below hb1).cell (i := 1) rfl; have y01 := (BY.out.below hb1).cell (i := 0) rfl; have y11 := (BY.out.below hb1).cell (i := 1) rfl)
 refine hK.out _ _ ?_ (fun hHeld => ?_)
 · (refine ⟨?_, ?_, ?_, ?_⟩ <;> (first | assumption | (simp [go_sem, *]; done)))
 clear hK K
 try simp only [Act.put, sA, sZ, sS]
 refine wpAnyL_ready (rs := [19]) (by kernel_rfl) (by simp) ?_
 refine AllReadyL.early rfl (fun K hK => ?_) AllReadyL.nil
 go_simp
 (go_at_call 147; (with_reducible refine (M1.out _ _ hb1 h1).mono ?_); rintro e w2 ⟨v2, rfl, h2, -, hq2⟩; have hb2 := Below.trans hb1 (below_low hq2 hb1.size); have x02 := (BX.out.below hb2).cell (i := 0) rfl; have x12 := (BX.out.below hb2).cell (i := 1) rfl; have y02 := (BY.out.below hb2).cell (i := 0) rfl; have y12 := (BY.out.below hb2).cell (i := 1) rfl)
 refine hK.out _ _ ?_ (fun hHeld => ?_)
 · (refine ⟨?_, ?_, ?_, ?_⟩ <;> (first | assumption | (simp [go_sem, *]; done)))
 clear hK K
 try simp only [Act.put, sA, sZ, sS]
 refine wpAnyL_ready (rs := [21]) (by kernel_rfl) (by simp) ?_
 refine AllReadyL.early rfl (fun K hK => ?_) AllReadyL.nil
 go_simp
 (go_at_call 148; (with_reducible refine (B1.out _ hb2).mono ?_); rintro e w3 ⟨v3, rfl, h3, hq3⟩; have h23 := h2.below hq3; have hb3 := Below.trans hb2 (below_low hq3 hb2.size); have x03 := (BX.out.below hb3).cell (i := 0) rfl; have x13 := (BX.out.below hb3).cell (i := 1) rfl; have y03 := (BY.out.below hb3).cell (i := 0) rfl; have y13 := (BY.out.below hb3).cell (i := 1) rfl)
 refine hK.out _ _ ?_ (fun hHeld => ?_)
 · (refine ⟨?_, ?_, ?_, ?_⟩ <;> (first | assumption | (simp [go_sem, *]; done)))
 clear hK K
 try simp only [Act.put, sA, sZ, sS]
 refine wpAnyL_ready (rs := [27]) (by kernel_rfl) (by simp) ?_
 refine AllReadyL.early rfl (fun K hK => ?_) AllReadyL.nil
 go_simp
 (go_at_call 147; (with_reducible refine (M2.out _ _ hb3 h3).mono ?_); rintro e w4 ⟨v4, rfl, h4, -, hq4⟩; have h24 := h23.below hq4; have hb4 := Below.trans hb3 (below_low hq4 hb3.size); have hbl := hb4; have x04 := (BX.out.below hb4).cell (i := 0) rfl; have x14 := (BX.out.below hb4).cell (i := 1) rfl; have y04 := (BY.out.below hb4).cell (i := 0) rfl; have y14 := (BY.out.below hb4).cell (i := 1) rfl)
 refine hK.out _ _ ?_ (fun hHeld => ?_)
 · (refine ⟨?_, ?_, ?_, ?_⟩ <;> (first | assumption | (simp [go_sem, *]; done)))
 clear hK K
 try simp only [Act.put, sA, sZ, sS]
 refine wpAnyL_ready (rs := [28]) (by kernel_rfl) (by simp) ?_
 refine AllReadyL.late rfl (by kernel_rfl) (fun K hK => ?_) AllReadyL.nil
 go_simp
 (go_at_call 146; (with_reducible refine (TI.out _ _ _ hb4 h24 h4).mono ?_); rintro e wz ⟨rfl, hrz, hkz⟩)
 refine hK.out _ _ ?_
 clear hK K
 try simp only [Act.put, sA, sZ, sS]
 refine wpAnyL_ready (rs := [29]) (by kernel_rfl) (by simp) ?_
 refine AllReadyL.late rfl (by kernel_rfl) (fun K hK => ?_) AllReadyL.nil
 go_simp
 refine hK.out _ _ ?_
 clear hK K
 try simp only [Act.put, sA, sZ, sS]
 refine wpAnyL_done (by kernel_rfl) ?_ _
 go_wp2_with fail
 go_ret
 exact ⟨rfl, hrz, (Keeps.of_below hbl).trans (hkz.mono hbl.size (fun _ _ h => h))⟩
def Sm (L : Nat) (x : _root_.Rat) : Prop := (words x.num.natAbs).length ≤ L ∧ (words x.den).length ≤ L
theorem Sm.mono {L M : Nat} {x : _root_.Rat} (h : Sm L x) (k : L ≤ M) : Sm M x := ⟨Nat.le_trans h.1 k, Nat.le_trans h.2 k⟩
theorem mkRat_le (x : Int) (d : Nat) (h : d ≠ 0) : (mkRat x d).num.natAbs ≤ x.natAbs ∧ (mkRat x d).den ≤ d := by
 rw [Rat.num_mkRat, Rat.den_mkRat, if_neg h, if_neg h]
 constructor
 · rw [Int.natAbs_ediv_of_dvd]
   · exact Nat.div_le_self _ _
   · exact Int.ofNat_dvd_left.2 (Nat.gcd_dvd_right _ _)
 · exact Nat.div_le_self _ _
theorem Sm.mk {L : Nat} {x : Int} {d : Nat} (h : d ≠ 0) (h1 : (words x.natAbs).length ≤ L) (h2 : (words d).length ≤ L) : Sm L (mkRat x d) :=
 ⟨Nat.le_trans (len_mono (mkRat_le x d h).1) h1, Nat.le_trans (len_mono (mkRat_le x d h).2) h2⟩
theorem Sm.mul {L M : Nat} {x y : _root_.Rat} (h : Sm L x) (k : Sm M y) : Sm (L + M) (x * y) := by
 rw [Rat.mul_def, Rat.normalize_eq_mkRat]; refine Sm.mk (Nat.mul_ne_zero x.den_nz y.den_nz) ?_ ?_
 · rw [Int.natAbs_mul]; exact Nat.le_trans (mul_len _ _) (Nat.add_le_add h.1 k.1)
 · exact Nat.le_trans (mul_len _ _) (Nat.add_le_add h.2 k.2)
theorem Sm.add {L M : Nat} {x y : _root_.Rat} (h : Sm L x) (k : Sm M y) : Sm (2 * (L + M) + 1) (x + y) := by
 rw [Rat.add_def, Rat.normalize_eq_mkRat]; refine Sm.mk (Nat.mul_ne_zero x.den_nz y.den_nz) ?_ ?_
 · have h1 := Int.natAbs_add_le (x.num * (y.den : Int)) (y.num * (x.den : Int)); rw [Int.natAbs_mul, Int.natAbs_mul, Int.natAbs_natCast, Int.natAbs_natCast] at h1; have h2 := len_mono h1; have h3 := add_len (x.num.natAbs * y.den) (y.num.natAbs * x.den); have h4 := mul_len x.num.natAbs y.den; have h5 := mul_len y.num.natAbs x.den; have h6 := h.1; have h7 := h.2; have h8 := k.1; have h9 := k.2; omega
 · have h4 := mul_len x.den y.den; have h7 := h.2; have h9 := k.2; omega
theorem Sm.neg {L : Nat} {x : _root_.Rat} (h : Sm L x) : Sm L (-x) := ⟨by rw [Rat.neg_num, Int.natAbs_neg]; exact h.1, by rw [Rat.neg_den]; exact h.2⟩
theorem Sm.sub {L M : Nat} {x y : _root_.Rat} (h : Sm L x) (k : Sm M y) : Sm (2 * (L + M) + 1) (x - y) := by
 rw [Rat.sub_eq_add_neg]; exact h.add k.neg
theorem Sm.div {L M : Nat} {x y : _root_.Rat} (h : Sm L x) (k : Sm M y) (h0 : y.num ≠ 0) : Sm (L + M) (x / y) := by
 rw [← rat_div_mk x y h0]; refine Sm.mk (Nat.mul_ne_zero x.den_nz (by omega)) ?_ ?_
 · rw [sg_abs]; exact Nat.le_trans (mul_len _ _) (Nat.add_le_add h.1 k.2)
 · exact Nat.le_trans (mul_len _ _) (Nat.add_le_add h.2 k.1)
theorem Ra.lt {R : Nat} {w : World} {g : Nat} {x : _root_.Rat} (h : Ra R w g x) : g < w.heap.size := by
 obtain ⟨_, _, hb, -, -⟩ := h; exact hb.lt
class NotW (T : Nat) : Prop where
 out : T ≠ 190
instance notW31 : NotW 31 := ⟨by decide⟩
instance notW33 : NotW 33 := ⟨by decide⟩
instance notW80 : NotW 80 := ⟨by decide⟩
instance notW82 : NotW 82 := ⟨by decide⟩
instance notW86 : NotW 86 := ⟨by decide⟩
instance notW88 : NotW 88 := ⟨by decide⟩
instance notW92 : NotW 92 := ⟨by decide⟩
instance notW94 : NotW 94 := ⟨by decide⟩
instance notW123 : NotW 123 := ⟨by decide⟩
instance notW125 : NotW 125 := ⟨by decide⟩
instance notW174 : NotW 174 := ⟨by decide⟩
class Kp0 (W : outParam World) (w' : World) : Prop where
 out : Below W.heap.size W w'
class Kp1 (W : outParam World) (k : outParam Nat) (w' : World) : Prop where
 out : Keeps W.heap.size [k] W w'
class NeN (a b : Nat) : Prop where
 out : a ≠ b
instance neN_lt (a b : Nat) [h : LtN a b] : NeN a b := ⟨Nat.ne_of_lt h.lt⟩
instance neN_gt (a b : Nat) [h : LtN b a] : NeN a b := ⟨Ne.symm (Nat.ne_of_lt h.lt)⟩
instance (priority := 800) ltN_has (w : World) (b : Nat) [h : Has w b] : LtN b w.heap.size := ⟨h.lt⟩
instance has_kp0 (W w' : World) (n : Nat) [k : Kp0 W w'] [h : Has W n] : Has w' n := ⟨Nat.lt_of_lt_of_le h.lt k.out.size⟩
instance has_kp1 (W w' : World) (g n : Nat) [k : Kp1 W g w'] [h : Has W n] : Has w' n := ⟨Nat.lt_of_lt_of_le h.lt k.out.size⟩
def cq (w : World) (a : Addr) : Option Value := w.cell? a
def fq (w : World) (a : Addr) : Bool := w.frozen? a
@[go_sem] theorem cq_def (w : World) (a : Addr) : cq w a = w.cell? a := rfl
@[go_sem] theorem fq_def (w : World) (a : Addr) : fq w a = w.frozen? a := rfl
theorem frozen_of_heap {w w' : World} {n i : Nat} (h : w'.heap[n]? = w.heap[n]?) : w'.frozen? ⟨n, i, none⟩ = w.frozen? ⟨n, i, none⟩ := by simp only [World.frozen?, h]
section
variable (w' : World) {W : World} (n i : Nat)
@[go_sem] theorem cell_kp0 [k : Kp0 W w'] [h : Has W n] : w'.cell? ⟨n, i, none⟩ = cq W ⟨n, i, none⟩ := World.cell?_of_block (w := W) (k.out.block n h.lt)
@[go_sem] theorem cell_kp1 {g : Nat} [k : Kp1 W g w'] [h : Has W n] [e : NeN n g] : w'.cell? ⟨n, i, none⟩ = cq W ⟨n, i, none⟩ := World.cell?_of_block (w := W) (k.out.block n h.lt (by simpa using e.out))
@[go_sem] theorem frozen_kp0 [k : Kp0 W w'] [h : Has W n] : w'.frozen? ⟨n, i, none⟩ = fq W ⟨n, i, none⟩ := frozen_of_heap (k.out.block n h.lt)
@[go_sem] theorem frozen_kp1 {g : Nat} [k : Kp1 W g w'] [h : Has W n] [e : NeN n g] : w'.frozen? ⟨n, i, none⟩ = fq W ⟨n, i, none⟩ := frozen_of_heap (k.out.block n h.lt (by simpa using e.out))
end
class BkC (w : World) (g : Nat) (L : outParam (List Value)) (T : outParam Nat) : Prop where
 out : Bk w g L T
instance (priority := 1100) bkC_new (w : World) (s : Nat) (L : List Value) (T : Nat) [hs : HasSize w s] [hT : NotW T] : BkC (w.alloc (.cells L.toArray T)) s L T := ⟨⟨block_at w _ s, hT.out⟩⟩
instance bkC_alloc (w : World) (g : Nat) (L : List Value) (T : Nat) (o : Obj) [h : BkC w g L T] : BkC (w.alloc o) g L T := ⟨h.out.below ((Below.refl _ _).alloc (Nat.le_refl _) _)⟩
instance bkC_drew (w : World) (g : Nat) (L : List Value) (T : Nat) [h : BkC w g L T] : BkC w.drew g L T := ⟨h.out.below (Below.drew (Below.refl _ _))⟩
instance bkC_kp0 (W w' : World) (g : Nat) (L : List Value) (T : Nat) [k : Kp0 W w'] [h : BkC W g L T] : BkC w' g L T := ⟨h.out.below k.out⟩
instance bkC_kp1 (W w' : World) (g n : Nat) (L : List Value) (T : Nat) [k : Kp1 W n w'] [e : NeN g n] [h : BkC W g L T] : BkC w' g L T := ⟨h.out.keep k.out (Nat.le_refl _) (by simpa using e.out)⟩
class SetC (L : List Value) (i : Nat) (x : Value) (M : outParam (List Value)) : Prop where
 out : L.set i x = M
instance setC_0 (a : Value) (L : List Value) (x : Value) : SetC (a :: L) 0 x (x :: L) := ⟨rfl⟩
instance setC_s (a : Value) (L M : List Value) (i : Nat) (x : Value) [h : SetC L i x M] : SetC (a :: L) (i + 1) x (a :: M) := ⟨by rw [List.set_cons_succ, h.out]⟩
instance bkC_set (w : World) (g i : Nat) (x : Value) (L M : List Value) (T : Nat) [h : BkC w g L T] [k : SetC L i x M] : BkC (w.setCell ⟨g, i, none⟩ x) g M T := ⟨k.out ▸ h.out.set i x⟩
instance bkC_setN (w : World) (g n i : Nat) (x : Value) (L : List Value) (T : Nat) [e : NeN g n] [h : BkC w g L T] : BkC (w.setCell ⟨n, i, none⟩ x) g L T := ⟨⟨(block_ne _ _ _ _ _ e.out).trans h.out.1, h.out.2⟩⟩
class Blk (w : World) (g : Nat) : Prop where
 out : ∃ L T, Bk w g L T
instance blk_bk (w : World) (g : Nat) (L : List Value) (T : Nat) [h : BkC w g L T] : Blk w g := ⟨⟨_, _, h.out⟩⟩
class Fr (R : Nat) (W : World) (g : Nat) : Prop where
 out : Bk W g [.bool false, .slice none 0 0, .slice none 0 0] R
instance fr_bk (R : Nat) (W : World) (g : Nat) [h : BkC W g [.bool false, .slice none 0 0, .slice none 0 0] R] : Fr R W g := ⟨h.out⟩
class RaC (R : outParam Nat) (w : World) (g : Nat) (x : outParam _root_.Rat) : Prop where
 out : Ra R w g x
instance blk_ra (R : Nat) (w : World) (g : Nat) (x : _root_.Rat) [h : RaC R w g x] : Blk w g := ⟨by obtain ⟨_, _, hb, -, -⟩ := h.out; exact ⟨_, _, hb⟩⟩
instance raC_alloc (R : Nat) (w : World) (g : Nat) (x : _root_.Rat) (o : Obj) [h : RaC R w g x] : RaC R (w.alloc o) g x := ⟨h.out.below ((Below.refl _ _).alloc (Nat.le_refl _) _)⟩
instance raC_drew (R : Nat) (w : World) (g : Nat) (x : _root_.Rat) [h : RaC R w g x] : RaC R w.drew g x := ⟨h.out.below (Below.drew (Below.refl _ _))⟩
instance raC_kp0 (R : Nat) (W w' : World) (g : Nat) (x : _root_.Rat) [k : Kp0 W w'] [h : RaC R W g x] : RaC R w' g x := ⟨h.out.below k.out⟩
instance raC_kp1 (R : Nat) (W w' : World) (g n : Nat) (x : _root_.Rat) [k : Kp1 W n w'] [e : NeN g n] [b : Blk W n] [h : RaC R W g x] : RaC R w' g x := ⟨by
 obtain ⟨L, T, hb⟩ := b.out; exact h.out.keep hb k.out e.out⟩
instance raC_set (R : Nat) (w : World) (g n i : Nat) (v : Value) (x : _root_.Rat) [e : NeN g n] [b : Blk w n] [h : RaC R w g x] : RaC R (w.setCell ⟨n, i, none⟩ v) g x := ⟨by
 obtain ⟨L, T, hb⟩ := b.out; exact h.out.keep hb ((Keeps.refl _ _ _).set (Or.inl (List.mem_singleton.2 rfl)) i v) e.out⟩
class NeT (R T : Nat) : Prop where
 out : T ≠ R
instance neT_88_31 : NeT 88 31 := ⟨by decide⟩
instance neT_88_33 : NeT 88 33 := ⟨by decide⟩
instance neT_88_80 : NeT 88 80 := ⟨by decide⟩
instance neT_88_82 : NeT 88 82 := ⟨by decide⟩
instance neT_88_92 : NeT 88 92 := ⟨by decide⟩
instance neT_88_94 : NeT 88 94 := ⟨by decide⟩
instance neT_88_174 : NeT 88 174 := ⟨by decide⟩
instance neT_125_31 : NeT 125 31 := ⟨by decide⟩
instance neT_125_33 : NeT 125 33 := ⟨by decide⟩
instance neT_125_80 : NeT 125 80 := ⟨by decide⟩
instance neT_125_82 : NeT 125 82 := ⟨by decide⟩
instance neT_125_92 : NeT 125 92 := ⟨by decide⟩
instance neT_125_94 : NeT 125 94 := ⟨by decide⟩
instance neT_125_174 : NeT 125 174 := ⟨by decide⟩
instance neT_86_31 : NeT 86 31 := ⟨by decide⟩
instance neT_86_33 : NeT 86 33 := ⟨by decide⟩
instance neT_86_80 : NeT 86 80 := ⟨by decide⟩
instance neT_86_82 : NeT 86 82 := ⟨by decide⟩
instance neT_86_92 : NeT 86 92 := ⟨by decide⟩
instance neT_86_94 : NeT 86 94 := ⟨by decide⟩
instance neT_86_174 : NeT 86 174 := ⟨by decide⟩
instance neT_123_31 : NeT 123 31 := ⟨by decide⟩
instance neT_123_33 : NeT 123 33 := ⟨by decide⟩
instance neT_123_80 : NeT 123 80 := ⟨by decide⟩
instance neT_123_82 : NeT 123 82 := ⟨by decide⟩
instance neT_123_92 : NeT 123 92 := ⟨by decide⟩
instance neT_123_94 : NeT 123 94 := ⟨by decide⟩
instance neT_123_174 : NeT 123 174 := ⟨by decide⟩
instance (priority := 1100) raC_setT (R : Nat) (w : World) (g n i : Nat) (v : Value) (x : _root_.Rat) (L : List Value) (T : Nat) [h : RaC R w g x] [b : BkC w n L T] [t : NeT R T] : RaC R (w.setCell ⟨n, i, none⟩ v) g x := ⟨by
 obtain ⟨_, _, hb, -, -⟩ := h.out; exact h.out.keep b.out ((Keeps.refl _ _ _).set (Or.inl (List.mem_singleton.2 rfl)) i v) (hb.ne b.out (Ne.symm t.out))⟩
instance has_ra (R : Nat) (w : World) (g : Nat) (x : _root_.Rat) [h : RaC R w g x] : Has w g := ⟨h.out.lt⟩
class Up (B g : Nat) : Prop where
 out : B ≤ g
instance up_le (B g : Nat) [h : LeN B g] : Up B g := ⟨h.le⟩
instance (priority := 700) leN_size (v : World) (o : Obj) (s n : Nat) [h : HasSize (v.alloc o) s] [k : LeN s n] : LeN (v.alloc o).heap.size n := ⟨by rw [h.eq]; exact k.le⟩
class Gr (v : World) (W : World) : Prop where
 out : Below v.heap.size v W
instance gr_refl (v : World) : Gr v v := ⟨Below.refl _ _⟩
instance gr_alloc (v W : World) (o : Obj) [h : Gr v W] : Gr v (W.alloc o) := ⟨h.out.alloc h.out.size _⟩
instance gr_drew (v W : World) [h : Gr v W] : Gr v W.drew := ⟨Below.drew h.out⟩
instance gr_kp0 (v W w' : World) [k : Kp0 W w'] [h : Gr v W] : Gr v w' := ⟨Below.trans h.out (below_low k.out h.out.size)⟩
instance gr_kp1 (v W w' : World) (n : Nat) [k : Kp1 W n w'] [h : Gr v W] [u : Up v.heap.size n] : Gr v w' := ⟨below_keeps h.out k.out u.out h.out.size⟩
instance gr_set (v W : World) (n i : Nat) (x : Value) [h : Gr v W] [u : Up v.heap.size n] : Gr v (W.setCell ⟨n, i, none⟩ x) := ⟨below_store h.out u.out⟩
instance leN_gr (v W : World) [h : Gr v W] : LeN v.heap.size W.heap.size := ⟨h.out.size⟩
class UpW (w : outParam World) (j : Nat) : Prop where
 out : w.heap.size ≤ j
instance (priority := 900) ltN_upW (w : World) (b j : Nat) [u : UpW w j] [h : Has w b] : LtN b j := ⟨Nat.lt_of_lt_of_le h.lt u.out⟩
instance up_upW (v w : World) (j : Nat) [u : UpW w j] [g : Gr v w] : Up v.heap.size j := ⟨Nat.le_trans g.out.size u.out⟩
class VrB (w : outParam World) : Prop where
 out : Vr w
class VrC (w : World) : Prop where
 out : Vr w
instance vrC_gr (v W : World) [b : VrB v] [h : Gr v W] : VrC W := ⟨b.out.below h.out⟩
class SmC (x : _root_.Rat) (L : outParam Nat) : Prop where
 out : Sm L x
instance smC_mul (x y : _root_.Rat) (L M : Nat) [h : SmC x L] [k : SmC y M] : SmC (x * y) (L + M) := ⟨h.out.mul k.out⟩
instance smC_add (x y : _root_.Rat) (L M : Nat) [h : SmC x L] [k : SmC y M] : SmC (x + y) (2 * (L + M) + 1) := ⟨h.out.add k.out⟩
instance smC_sub (x y : _root_.Rat) (L M : Nat) [h : SmC x L] [k : SmC y M] : SmC (x - y) (2 * (L + M) + 1) := ⟨h.out.sub k.out⟩
instance smC_neg (x : _root_.Rat) (L : Nat) [h : SmC x L] : SmC (-x) L := ⟨h.out.neg⟩
theorem Fr.ra {R : Nat} {W : World} {g : Nat} (h : Fr R W g) : Ra R W g 0 := by
 have hw : ∀ w : World, Wd w (.slice none 0 0) [] := fun w => .inl ⟨rfl, rfl⟩
 refine ⟨.slice none 0 0, .slice none 0 0, h.out, ?_, .inl ⟨hw _, rfl⟩⟩
 rw [show (0 : _root_.Rat).num.natAbs = 0 from rfl, words_0]
 exact hw _
abbrev nuV (i j : Nat) : Value := .agg #[.pointer (some ⟨i, 0, none⟩), .pointer (some ⟨j, 0, none⟩)]
section
variable {P : Program} {fn : Func} {R : Ending → World → Prop} {a : Act} {w : World} {p u : Tmp} {ty : TypeId} {g : Nat} {L : List Value} {T : Nat} {d : TypeDesc}
theorem ret_cell (h : fn.results = #[.cell p ty]) (hd0 : a.defers = []) (hp : a.tmps.getD p undef = .pointer (some ⟨g, 0, none⟩)) [hb : BkC w g L T] (hu : P.underlying ty = some d) (hd : (match d with | .struct _ | .array _ _ => true | _ => false) = true) (hi : (P.info? ty).map (·.size) = some L.toArray.size)
 (hR : R (.returned (.agg L.toArray)) w) : bodyPost P fn R .ret a w :=
 bodyPost_ret (results_cell_row h _ _ g T L.toArray (0, 0) d hp hb.out.1 hu hd hi) hd0 hR
theorem ret_cell_tmp (h : fn.results = #[.cell p ty, .tmp u]) (hd0 : a.defers = []) (hp : a.tmps.getD p undef = .pointer (some ⟨g, 0, none⟩)) [hb : BkC w g L T] (hu : P.underlying ty = some d) (hd : (match d with | .struct _ | .array _ _ => true | _ => false) = true) (hi : (P.info? ty).map (·.size) = some L.toArray.size)
 (hR : R (.returned (.tuple #[.agg L.toArray, a.tmps.getD u undef])) w) : bodyPost P fn R .ret a w := by
 refine bodyPost_ret (v := .tuple #[.agg L.toArray, a.tmps.getD u undef]) ?_ hd0 hR
 rw [results_cell_tmp h, hp]; simp [asAddr, Result.andThen, run_loadVar_row w g T ty L.toArray (0, 0) d hb.out.1 hu hd hi]
end
class Blk' (R : Nat) (W : World) (g : Nat) : Prop where
 out : ∃ a b c, Bk W g [a, b, c] R
instance blkF (R : Nat) (W : World) (g : Nat) [h : Fr R W g] : Blk' R W g := ⟨⟨_, _, _, h.out⟩⟩
instance blkR (R : Nat) (W : World) (g : Nat) (x : _root_.Rat) [h : RaC R W g x] : Blk' R W g := ⟨by obtain ⟨_, _, hb, -, -⟩ := h.out; exact ⟨_, _, _, hb⟩⟩
theorem brMulC {W : World} {gz gx gy : Nat} {x y : _root_.Rat} {L M : Nat} [hz : Blk' 88 W gz] [hx : RaC 88 W gx x] [hy : RaC 88 W gy y] [sx : SmC x L] [sy : SmC y M] [nx : NeN gx gz] [ny : NeN gy gz] [vr : VrC W] (hL : L ≤ 34359738368) (hM : M ≤ 34359738368) :
 Calls Tryz.prog 106 #[.pointer (some ⟨gz, 0, none⟩), .pointer (some ⟨gx, 0, none⟩), .pointer (some ⟨gy, 0, none⟩)] W fun e w' => e = .returned (.pointer (some ⟨gz, 0, none⟩)) ∧ RaC 88 w' gz (x * y) ∧ Kp1 W gz w' := by
 obtain ⟨z0, z1, z2, bz⟩ := hz.out; refine (brmul gz gx gy _ _ _ x y _ bz hx.out hy.out (Nat.le_trans sx.out.1 hL) (Nat.le_trans sx.out.2 hL) (Nat.le_trans sy.out.1 hM) (Nat.le_trans sy.out.2 hM) vr.out nx.out ny.out).mono ?_
 rintro e w' ⟨rfl, h1, h2⟩; exact ⟨rfl, ⟨h1⟩, ⟨h2⟩⟩
theorem brQuoC {W : World} {gz gx gy : Nat} {x y : _root_.Rat} {L M : Nat} [hz : Blk' 88 W gz] [hx : RaC 88 W gx x] [hy : RaC 88 W gy y] [sx : SmC x L] [sy : SmC y M] [nx : NeN gx gz] [ny : NeN gy gz] [vr : VrC W] (hL : L ≤ 34359738368) (hM : M ≤ 34359738368) (hy0 : y.num ≠ 0) :
 Calls Tryz.prog 87 #[.pointer (some ⟨gz, 0, none⟩), .pointer (some ⟨gx, 0, none⟩), .pointer (some ⟨gy, 0, none⟩)] W fun e w' => e = .returned (.pointer (some ⟨gz, 0, none⟩)) ∧ RaC 88 w' gz (x / y) ∧ Kp1 W gz w' := by
 obtain ⟨z0, z1, z2, bz⟩ := hz.out; refine (brquo gz gx gy _ _ _ x y _ bz hx.out hy.out (Nat.le_trans sx.out.1 hL) (Nat.le_trans sx.out.2 hL) (Nat.le_trans sy.out.1 hM) (Nat.le_trans sy.out.2 hM) nx.out ny.out vr.out hy0).mono ?_
 rintro e w' ⟨rfl, h1, h2⟩; exact ⟨rfl, ⟨h1⟩, ⟨h2⟩⟩
theorem brAddC {W : World} {gz gx gy : Nat} {x y : _root_.Rat} {L M : Nat} [hz : Blk' 88 W gz] [hx : RaC 88 W gx x] [hy : RaC 88 W gy y] [sx : SmC x L] [sy : SmC y M] [vr : VrC W] (hL : L ≤ 17179869184) (hM : M ≤ 17179869184) :
 Calls Tryz.prog 108 #[.pointer (some ⟨gz, 0, none⟩), .pointer (some ⟨gx, 0, none⟩), .pointer (some ⟨gy, 0, none⟩)] W fun e w' => e = .returned (.pointer (some ⟨gz, 0, none⟩)) ∧ RaC 88 w' gz (x + y) ∧ Kp1 W gz w' := by
 obtain ⟨z0, z1, z2, bz⟩ := hz.out; refine (bradd gz gx gy _ _ _ x y _ bz hx.out hy.out (Nat.le_trans sx.out.1 hL) (Nat.le_trans sx.out.2 hL) (Nat.le_trans sy.out.1 hM) (Nat.le_trans sy.out.2 hM) vr.out).mono ?_
 rintro e w' ⟨rfl, h1, h2⟩; exact ⟨rfl, ⟨h1⟩, ⟨h2⟩⟩
theorem brSubC {W : World} {gz gx gy : Nat} {x y : _root_.Rat} {L M : Nat} [hz : Blk' 88 W gz] [hx : RaC 88 W gx x] [hy : RaC 88 W gy y] [sx : SmC x L] [sy : SmC y M] [vr : VrC W] (hL : L ≤ 17179869184) (hM : M ≤ 17179869184) :
 Calls Tryz.prog 107 #[.pointer (some ⟨gz, 0, none⟩), .pointer (some ⟨gx, 0, none⟩), .pointer (some ⟨gy, 0, none⟩)] W fun e w' => e = .returned (.pointer (some ⟨gz, 0, none⟩)) ∧ RaC 88 w' gz (x - y) ∧ Kp1 W gz w' := by
 obtain ⟨z0, z1, z2, bz⟩ := hz.out; refine (brsub gz gx gy _ _ _ x y _ bz hx.out hy.out (Nat.le_trans sx.out.1 hL) (Nat.le_trans sx.out.2 hL) (Nat.le_trans sy.out.1 hM) (Nat.le_trans sy.out.2 hM) vr.out).mono ?_
 rintro e w' ⟨rfl, h1, h2⟩; exact ⟨rfl, ⟨h1⟩, ⟨h2⟩⟩
theorem erMulC {W : World} {gz gx gy : Nat} {x y : _root_.Rat} {L M : Nat} [hz : Blk' 125 W gz] [hx : RaC 125 W gx x] [hy : RaC 125 W gy y] [sx : SmC x L] [sy : SmC y M] [nx : NeN gx gz] [ny : NeN gy gz] (hL : L ≤ 34359738368) (hM : M ≤ 34359738368) :
 Calls Tryz.prog 124 #[.pointer (some ⟨gz, 0, none⟩), .pointer (some ⟨gx, 0, none⟩), .pointer (some ⟨gy, 0, none⟩)] W fun e w' => e = .returned (.pointer (some ⟨gz, 0, none⟩)) ∧ RaC 125 w' gz (x * y) ∧ Kp1 W gz w' := by
 obtain ⟨z0, z1, z2, bz⟩ := hz.out; refine (ermul gz gx gy _ _ _ x y _ bz hx.out hy.out (Nat.le_trans sx.out.1 hL) (Nat.le_trans sx.out.2 hL) (Nat.le_trans sy.out.1 hM) (Nat.le_trans sy.out.2 hM) nx.out ny.out).mono ?_
 rintro e w' ⟨rfl, h1, h2⟩; exact ⟨rfl, ⟨h1⟩, ⟨h2⟩⟩
theorem erQuoC {W : World} {gz gx gy : Nat} {x y : _root_.Rat} {L M : Nat} [hz : Blk' 125 W gz] [hx : RaC 125 W gx x] [hy : RaC 125 W gy y] [sx : SmC x L] [sy : SmC y M] (hL : L ≤ 34359738368) (hM : M ≤ 34359738368) (hy0 : y.num ≠ 0) :
 Calls Tryz.prog 99 #[.pointer (some ⟨gz, 0, none⟩), .pointer (some ⟨gx, 0, none⟩), .pointer (some ⟨gy, 0, none⟩)] W fun e w' => e = .returned (.pointer (some ⟨gz, 0, none⟩)) ∧ RaC 125 w' gz (x / y) ∧ Kp1 W gz w' := by
 obtain ⟨z0, z1, z2, bz⟩ := hz.out; refine (erquo gz gx gy _ _ _ x y _ bz hx.out hy.out (Nat.le_trans sx.out.1 hL) (Nat.le_trans sx.out.2 hL) (Nat.le_trans sy.out.1 hM) (Nat.le_trans sy.out.2 hM) hy0).mono ?_
 rintro e w' ⟨rfl, h1, h2⟩; exact ⟨rfl, ⟨h1⟩, ⟨h2⟩⟩
theorem erAddC {W : World} {gz gx gy : Nat} {x y : _root_.Rat} {L M : Nat} [hz : Blk' 125 W gz] [hx : RaC 125 W gx x] [hy : RaC 125 W gy y] [sx : SmC x L] [sy : SmC y M] (hL : L ≤ 17179869184) (hM : M ≤ 17179869184) :
 Calls Tryz.prog 143 #[.pointer (some ⟨gz, 0, none⟩), .pointer (some ⟨gx, 0, none⟩), .pointer (some ⟨gy, 0, none⟩)] W fun e w' => e = .returned (.pointer (some ⟨gz, 0, none⟩)) ∧ RaC 125 w' gz (x + y) ∧ Kp1 W gz w' := by
 obtain ⟨z0, z1, z2, bz⟩ := hz.out; refine (eradd gz gx gy _ _ _ x y _ bz hx.out hy.out (Nat.le_trans sx.out.1 hL) (Nat.le_trans sx.out.2 hL) (Nat.le_trans sy.out.1 hM) (Nat.le_trans sy.out.2 hM) ).mono ?_
 rintro e w' ⟨rfl, h1, h2⟩; exact ⟨rfl, ⟨h1⟩, ⟨h2⟩⟩
theorem erSubC {W : World} {gz gx gy : Nat} {x y : _root_.Rat} {L M : Nat} [hz : Blk' 125 W gz] [hx : RaC 125 W gx x] [hy : RaC 125 W gy y] [sx : SmC x L] [sy : SmC y M] (hL : L ≤ 17179869184) (hM : M ≤ 17179869184) :
 Calls Tryz.prog 119 #[.pointer (some ⟨gz, 0, none⟩), .pointer (some ⟨gx, 0, none⟩), .pointer (some ⟨gy, 0, none⟩)] W fun e w' => e = .returned (.pointer (some ⟨gz, 0, none⟩)) ∧ RaC 125 w' gz (x - y) ∧ Kp1 W gz w' := by
 obtain ⟨z0, z1, z2, bz⟩ := hz.out; refine (ersub gz gx gy _ _ _ x y _ bz hx.out hy.out (Nat.le_trans sx.out.1 hL) (Nat.le_trans sx.out.2 hL) (Nat.le_trans sy.out.1 hM) (Nat.le_trans sy.out.2 hM) ).mono ?_
 rintro e w' ⟨rfl, h1, h2⟩; exact ⟨rfl, ⟨h1⟩, ⟨h2⟩⟩
theorem brNegC {W : World} {gz gx : Nat} {x : _root_.Rat} {L : Nat} [hz : Blk' 88 W gz] [hx : RaC 88 W gx x] [sx : SmC x L] (hL : L ≤ 1099511627776) :
 Calls Tryz.prog 134 #[.pointer (some ⟨gz, 0, none⟩), .pointer (some ⟨gx, 0, none⟩)] W fun e w' => e = .returned (.pointer (some ⟨gz, 0, none⟩)) ∧ RaC 88 w' gz (-x) ∧ Kp1 W gz w' := by
 obtain ⟨z0, z1, z2, bz⟩ := hz.out; refine (brneg gz gx _ _ _ x _ bz hx.out (Nat.le_trans sx.out.1 hL) (Nat.le_trans sx.out.2 hL)).mono ?_
 rintro e w' ⟨rfl, h1, h2⟩; exact ⟨rfl, ⟨h1⟩, ⟨h2⟩⟩
theorem erNegC {W : World} {gz gx : Nat} {x : _root_.Rat} {L : Nat} [hz : Blk' 125 W gz] [hx : RaC 125 W gx x] [sx : SmC x L] (hL : L ≤ 1099511627776) :
 Calls Tryz.prog 98 #[.pointer (some ⟨gz, 0, none⟩), .pointer (some ⟨gx, 0, none⟩)] W fun e w' => e = .returned (.pointer (some ⟨gz, 0, none⟩)) ∧ RaC 125 w' gz (-x) ∧ Kp1 W gz w' := by
 obtain ⟨z0, z1, z2, bz⟩ := hz.out; refine (erneg gz gx _ _ _ x _ bz hx.out (Nat.le_trans sx.out.1 hL) (Nat.le_trans sx.out.2 hL)).mono ?_
 rintro e w' ⟨rfl, h1, h2⟩; exact ⟨rfl, ⟨h1⟩, ⟨h2⟩⟩
theorem bFloatC {W : World} {gz : Nat} {b : Nat} [hz : Blk' 88 W gz] [vr : VrC W] (hb : b < 18446744073709551616) (hf : fexp b ≠ 2047) :
 Calls Tryz.prog 105 #[.pointer (some ⟨gz, 0, none⟩), .float .f64 b] W fun e w' => e = .returned (.pointer (some ⟨gz, 0, none⟩)) ∧ RaC 88 w' gz (frat b) ∧ Kp1 W gz w' := by
 obtain ⟨z0, z1, z2, bz⟩ := hz.out; refine (bsetfloat gz _ _ _ _ _ bz hb hf vr.out).mono ?_
 rintro e w' ⟨rfl, h1, h2⟩; exact ⟨rfl, ⟨h1⟩, ⟨h2⟩⟩
theorem bInt64C {W : World} {gz : Nat} {x : Int} [hz : Blk' 88 W gz] (h1 : -9223372036854775808 ≤ x) (h2 : x < 9223372036854775808) :
 Calls Tryz.prog 80 #[.pointer (some ⟨gz, 0, none⟩), .int .i64 x] W fun e w' => e = .returned (.pointer (some ⟨gz, 0, none⟩)) ∧ RaC 88 w' gz ((x : _root_.Rat)) ∧ Kp1 W gz w' := by
 obtain ⟨z0, z1, z2, bz⟩ := hz.out; refine (brsetint64 gz _ _ _ _ _ bz h1 h2).mono ?_
 rintro e w' ⟨rfl, h1, h2⟩; exact ⟨rfl, ⟨h1⟩, ⟨h2⟩⟩
def strN (n : Int) : ByteArray := ⟨(itext n).toArray⟩
theorem padf1_0 : padf 1 0 = [48] := by unfold padf; rw [figs_0]; rfl
def longN (n : Int) : Bool := decide (16384 < (afterS (strN n)).size)
def toldE (x y : _root_.Rat) : Int := if longN x.num || longN x.den || longN y.num || longN y.den then 4 else 0
theorem check_zero {a b c d : ByteArray} (h : checkE a b c d = 0) : textE a false = 0 ∧ textE b true = 0 ∧ textE c false = 0 ∧ textE d true = 0 ∧ sameT a b = true ∧ sameT c d = true := by
 unfold checkE at h; by_cases h1 : textE a false = 0
 · rw [if_neg (by omega)] at h
   by_cases h2 : textE b true = 0
   · rw [if_neg (by omega)] at h
     by_cases h3 : textE c false = 0
     · rw [if_neg (by omega)] at h
       by_cases h4 : textE d true = 0
       · rw [if_neg (by omega)] at h
         by_cases h5 : sameT a b = true ∧ sameT c d = true
         · exact ⟨h1, h2, h3, h4, h5⟩
         · rw [if_neg h5] at h; cases h
       · rw [if_pos h4] at h; exact absurd h h4
     · rw [if_pos h3] at h; exact absurd h h3
   · rw [if_pos h2] at h; exact absurd h h2
 · rw [if_pos h1] at h; exact absurd h h1
theorem check_okT {a b c d : ByteArray} (h : checkE a b c d = 0) : okT a b ∧ okT c d := by
 obtain ⟨h1, h2, h3, h4, -, -⟩ := check_zero h; exact ⟨⟨h1, h2⟩, ⟨h3, h4⟩⟩
@[go_sem] theorem cell_setNN (w : World) (n k i j : Nat) (v : Value) [e : NeN n k] : (w.setCell ⟨k, i, none⟩ v).cell? ⟨n, j, none⟩ = w.cell? ⟨n, j, none⟩ := World.cell?_of_block (w := w) (block_ne _ _ _ _ _ e.out)
instance has_bk (w : World) (g : Nat) (L : List Value) (T : Nat) [h : BkC w g L T] : Has w g := ⟨h.out.lt⟩
theorem strN_size {n : Int} {L : Nat} (h : (words n.natAbs).length ≤ L) (hL : L ≤ 67108864) : (strN n).size ≤ maxLen := by
 have h1 : (padf 1 n.natAbs).length ≤ 32 * L + 1 := by
  by_cases h0 : n.natAbs = 0
  · rw [h0, padf1_0, List.length_singleton]; omega
  · rw [padf1 h0]; have h2 := words_lt n.natAbs
    have h3 : n.natAbs < 10 ^ (32 * L) := by
     refine Nat.lt_of_lt_of_le h2 ?_
     rw [show (4294967296 : Nat) = 2 ^ 32 from rfl, ← Nat.pow_mul]
     exact Nat.le_trans (Nat.pow_le_pow_right (by decide) (Nat.mul_le_mul_left 32 h)) (Nat.pow_le_pow_left (by decide) _)
    have := figs_len.1 h3; omega
 have h4 : (strN n).size = (itext n).length := bytes_len _ _ rfl; rw [h4]; unfold itext maxLen
 split
 · rw [List.length_cons]; omega
 · omega
def tS (x y : _root_.Rat) (s : ByteArray) : ByteArray := if toldE x y = 0 then s else ⟨#[]⟩
theorem btellC {W : World} {g : Nat} {r : _root_.Rat} {L : Nat} [h : RaC 88 W g r] [s : SmC r L] (hL : L ≤ 67108864) : Calls Tryz.prog 89 #[.pointer (some ⟨g, 0, none⟩)] W fun e w' => e = .returned (.agg #[.string (strN r.num), .string (strN r.den)]) ∧ Kp0 W w' := by
 refine (btellF g r W h.out (Nat.le_trans s.out.1 hL) (Nat.le_trans s.out.2 hL)).mono ?_
 rintro e w' ⟨rfl, hb⟩; exact ⟨rfl, ⟨hb⟩⟩
theorem etellC {W : World} {g : Nat} {r : _root_.Rat} {L : Nat} [h : RaC 125 W g r] [s : SmC r L] (hL : L ≤ 67108864) : Calls Tryz.prog 100 #[.pointer (some ⟨g, 0, none⟩)] W fun e w' => e = .returned (.agg #[.string (strN r.num), .string (strN r.den)]) ∧ Kp0 W w' := by
 refine (etellF g r W h.out (Nat.le_trans s.out.1 hL) (Nat.le_trans s.out.2 hL)).mono ?_
 rintro e w' ⟨rfl, hb⟩; exact ⟨rfl, ⟨hb⟩⟩
theorem toldE_4 {x y : _root_.Rat} (h : 16384 < (afterS (strN x.num)).size ∨ 16384 < (afterS (strN x.den)).size ∨ 16384 < (afterS (strN y.num)).size ∨ 16384 < (afterS (strN y.den)).size) : toldE x y = 4 := by
 unfold toldE longN; rw [if_pos]; simp only [Bool.or_eq_true, decide_eq_true_eq]; omega
theorem toldE_0 {x y : _root_.Rat} (h1 : ¬ 16384 < (afterS (strN x.num)).size) (h2 : ¬ 16384 < (afterS (strN x.den)).size) (h3 : ¬ 16384 < (afterS (strN y.num)).size) (h4 : ¬ 16384 < (afterS (strN y.den)).size) : toldE x y = 0 := by
 unfold toldE longN; rw [if_neg]; simp only [Bool.or_eq_true, decide_eq_true_eq]; omega
end Go.Proofs.YthjeejnggpjnjaaGreatDoor
