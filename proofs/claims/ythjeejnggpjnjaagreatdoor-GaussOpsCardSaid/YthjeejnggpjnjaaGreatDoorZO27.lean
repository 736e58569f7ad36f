/- A part: CX, CY, BP, BQ, BR. -/
import Derived.Test.YthjeejnggpjnjaaGreatDoorZO21
set_option linter.unusedSimpArgs false
set_option linter.unusedVariables false
set_option maxRecDepth 100000
set_option maxHeartbeats 16000000
set_option synthInstance.maxHeartbeats 2000000
set_option synthInstance.maxSize 100000
namespace Go.Proofs.YthjeejnggpjnjaaGreatDoor
open Go.RowKit
def checkF (a b : ByteArray) : Int :=
 if textE a false ≠ 0 then textE a false else if textE b true ≠ 0 then textE b true
 else if sameT a b = true then 0 else 30
theorem checkF_okT {a b : ByteArray} (h : checkF a b = 0) : okT a b ∧ sameT a b = true := by
 unfold checkF at h; by_cases h1 : textE a false = 0
 · rw [if_neg (by omega)] at h
   by_cases h2 : textE b true = 0
   · rw [if_neg (by omega)] at h
     by_cases h3 : sameT a b = true
     · exact ⟨⟨h1, h2⟩, h3⟩
     · rw [if_neg h3] at h; cases h
   · rw [if_pos h2] at h; exact absurd h h2
 · rw [if_pos h1] at h; exact absurd h h1
theorem make_one {ops : Array Oper} {rest : List Oper} {o : Oper} {a : Act} {Q : Exit → Act → World → Prop} (w : World) (hg : o.guard = none) (l c : Operand) (hop : o.op = Op.makeSlice 137 l c)
 (hl : a.eval l = .int .i64 1) (hc : a.eval c = .int .i64 1)
 (hK : ∀ w1, Bk w1 w.heap.size [.pointer none] 80 → Below w.heap.size w w1 → wpList Tryz.prog ops Q rest (a.put o.dst (.slice (some ⟨w.heap.size, 0, none⟩) 1 1)) w1) :
 wpList Tryz.prog ops Q (o :: rest) a w := by
 obtain ⟨ti, hti, htz, hts, htb⟩ := info_parts info80; refine wpList_make_full w hg l c 137 hop w.heap.size 80 ti _ 1 und137 hti htz hts .i64 .i64 1 1 1 hl hc rfl rfl (by rw [htb]; omega) (by unfold maxLen; omega) (Nat.le_refl _) (fun w1 hown hgrow => ?_)
 refine hK w1 ?_ (Keeps.below ⟨hgrow.os, hgrow.tape, hgrow.output, hgrow.size, fun k hk _ => hgrow.block k hk (by simp)⟩)
 rcases hown.2 with ⟨h0, -⟩ | ⟨k, cap, cur, he, hgk, hb, h1, h2, h3, h4⟩
 · cases h0
 · simp only [Value.slice.injEq, Option.some.injEq, Addr.mk.injEq] at he; obtain ⟨⟨rfl, -, -⟩, -, rfl⟩ := he; rw [show (Value.pointer none).cells = #[Value.pointer none] from rfl, toList_madeCells_one, List.take_of_length_le (by rw [Array.length_toList, h3]; exact Nat.le_refl _)] at h4
   refine ⟨?_, by decide⟩
   rw [hb]
   have e : cur = #[Value.pointer none] := by
    rw [← Array.toList_inj, h4]; rfl
   rw [e]
def ReadPost1 (a b : ByteArray) (w : World) (e : Ending) (w' : World) : Prop := Below w.heap.size w w' ∧
 ((checkF a b ≠ 0 ∧ e = .returned (.tuple #[.slice none 0 0, .int .i64 (checkF a b)])) ∨
  (checkF a b = 0 ∧ ∃ g x, e = .returned (.tuple #[.slice (some ⟨g, 0, none⟩) 1 1, .int .i64 0]) ∧ w.heap.size ≤ g ∧
    Bk w' g [.pointer (some ⟨x, 0, none⟩)] 80 ∧ Ra 88 w' x (rval a b)))
theorem bread1 (g T : Nat) (a b : ByteArray) (w : World) (hB : Bk w g [.string a, .string b] T) (ha : a.size ≤ maxLen) (hb : b.size ≤ maxLen) (hvr : Vr w) :
 Calls Tryz.prog 91 #[.slice (some ⟨g, 0, none⟩) 1 1] w (ReadPost1 a b w) := by
 have T1 := hid (btext139 a false ha); have T2 := hid (btext139 b true hb); obtain ⟨E1, h1⟩ : ∃ E, E = textE a false := ⟨_, rfl⟩; obtain ⟨E2, h2⟩ : ∃ E, E = textE b true := ⟨_, rfl⟩; rw [← h1] at T1; rw [← h2] at T2; have H1 := hid h1.symm; have H2 := hid h2.symm; have HV := hid hvr; have FR1 := hid (fun (ok : okT a b) (v : World) (q : Below w.heap.size w v) => bfraction a b v ok (hvr.below q))
 have TL1 := hid (fun (ok : okT a b) (x : Nat) (v : World) (q : Ra 88 v x (rval a b)) => btellF x (rval a b) v q (by have := rval_small ok; omega) (by have := rval_small ok; omega))
 obtain ⟨A1, hA1⟩ : ∃ A, A = (⟨(itext (rval a b).num).toArray⟩ : ByteArray) := ⟨_, rfl⟩; obtain ⟨A2, hA2⟩ : ∃ A, A = (⟨(itext (rval a b).den).toArray⟩ : ByteArray) := ⟨_, rfl⟩; rw [← hA1, ← hA2] at TL1; have HA1 := hid hA1; have HA2 := hid hA2; clear hA1 hA2; clear h1 h2 hvr ha hb; haveI : Has w g := ⟨hB.lt⟩; have hB := hid hB; go_enter Tryz.func91, Tryz.ntmps91; go_wp2_with fail
 go_loopw [13] (fun s13 wr => ∃ j : Nat, s13 = .int .i64 j ∧ j ≤ 1 ∧ Below w.heap.size w wr ∧ Hid (1 ≤ j → E1 = 0 ∧ E2 = 0)) (fun s13 _ => 1 - (intOf s13).toNat)
 case atStart => exact ⟨0, rfl, by omega, Below.refl _ _, hid (fun h => absurd h (by decide))⟩
 case round =>
  obtain ⟨j, rfl, hj, hb, hF1⟩ := hrel; have hBw := hB.out.below hb; have c0 := hBw.cell (i := 0) rfl; have c1 := hBw.cell (i := 1) rfl; haveI : Has wr g := ⟨hBw.lt⟩; clear hBw; by_cases j0 : j = 0
  · subst j0; by_cases e1 : E1 = 0
    · by_cases e2 : E2 = 0
      · have b1 : (E1 != 0) = false := by rw [e1]; rfl
        have b2 : (E2 != 0) = false := by rw [e2]; rfl
        have HG : Hid (E1 = 0 ∧ E2 = 0) := hid ⟨e1, e2⟩; have HB := hid (((hb.alloc hb.size (.cells #[.string a, .string b] 31)))); clear e1 e2; go_wp2_with first | (go_at_call 139; (with_reducible refine (T1.out _).mono ?_); rintro e w' ⟨rfl, hw⟩; obtain rfl := hw.symm) | (go_at_call 139; (with_reducible refine (T2.out _).mono ?_); rintro e w' ⟨rfl, hw⟩; obtain rfl := hw.symm)
        go_round
        case rel => exact ⟨1, by go_num, by omega, HB.out, hid (fun _ => HG.out)⟩
        case measure => simp [intOf]
      · have b1 : (E1 != 0) = false := by rw [e1]; rfl
        have b2 : (E2 != 0) = true := bne_iff_ne.2 e2; have HR : Hid (checkF a b = E2) := hid (by unfold checkF; rw [H1.out, H2.out]; simp only [e1, ne_eq, not_true_eq_false, if_false]; rw [if_pos e2])
        have HN := hid e2; have HB := hid (((hb.alloc hb.size (.cells #[.string a, .string b] 31)))); clear e1 e2; go_wp2_with first | (go_at_call 139; (with_reducible refine (T1.out _).mono ?_); rintro e w' ⟨rfl, hw⟩; obtain rfl := hw.symm) | (go_at_call 139; (with_reducible refine (T2.out _).mono ?_); rintro e w' ⟨rfl, hw⟩; obtain rfl := hw.symm)
        go_ret2
        exact ⟨HB.out, .inl ⟨by rw [HR.out]; exact HN.out, by rw [HR.out]; rfl⟩⟩
    · have b1 : (E1 != 0) = true := bne_iff_ne.2 e1; have HR : Hid (checkF a b = E1) := hid (by unfold checkF; rw [H1.out, H2.out]; rw [if_pos e1])
      have HN := hid e1; have HB := hid (((hb.alloc hb.size (.cells #[.string a, .string b] 31)))); clear e1; go_wp2_with first | (go_at_call 139; (with_reducible refine (T1.out _).mono ?_); rintro e w' ⟨rfl, hw⟩; obtain rfl := hw.symm) | (go_at_call 139; (with_reducible refine (T2.out _).mono ?_); rintro e w' ⟨rfl, hw⟩; obtain rfl := hw.symm)
      go_ret2
      exact ⟨HB.out, .inl ⟨by rw [HR.out]; exact HN.out, by rw [HR.out]; rfl⟩⟩
  obtain rfl : j = 1 := by omega
  have HOK : Hid (okT a b) := hid ⟨H1.out.trans (hF1.out (by decide)).1, H2.out.trans (hF1.out (by decide)).2⟩
  have Hb := hid hb; clear hb hF1 hj j0; go_wp2_with (at_make; refine make_one _ (by rfl) _ _ (by rfl) (by rfl) (by rfl) ?_; intro wq hBq hbq)
  have Hq := hid (Below.trans Hb.out (below_low hbq Hb.out.size)); have HBq := hid hBq; have HG := hid Hb.out.size; clear hBq hbq; obtain ⟨G, hG⟩ : ∃ G, G = wr.heap.size := ⟨_, rfl⟩; have HGE := hid hG; rw [← hG] at HBq HG; rw [← hG]; clear hG; go_loopw [35] (fun s35 wx => ∃ (j : Nat) (p0 : Value), s35 = .int .i64 j ∧ j ≤ 1 ∧ Bk wx G [p0] 80 ∧ Below w.heap.size w wx ∧ Hid (1 ≤ j → ∃ x, p0 = .pointer (some ⟨x, 0, none⟩) ∧ w.heap.size ≤ x ∧ Ra 88 wx x (rval a b) ∧ sameT a b = true)) (fun s35 _ => 1 - (intOf s35).toNat)
  case atStart => exact ⟨0, _, rfl, by omega, HBq.out, Hq.out, hid (fun h => absurd h (by decide))⟩
  case round =>
   obtain ⟨j, p0, rfl, hj, hBx, hb, hF1⟩ := hrel; have hBw := hB.out.below hb; have c0 := hBw.cell (i := 0) rfl; have c1 := hBw.cell (i := 1) rfl; haveI : Has wr g := ⟨hBw.lt⟩; clear hBw; by_cases j0 : j = 0
   · subst j0; have Hb2 := hid (hb.alloc hb.size (.cells #[.string a, .string b] 31)); have HB2 : Hid (Bk (wr.alloc (.cells #[.string a, .string b] 31)) wr.heap.size [.string a, .string b] 31) := hid ⟨by rw [block_at], by decide⟩
     have HG2 := hid (hBx.below ((Below.refl wr.heap.size wr).alloc (Nat.le_refl _) (.cells #[.string a, .string b] 31))); clear hBx hb hF1; go_upto_region 16 with (go_at_call 140; (with_reducible refine (FR1.out HOK.out _ Hb2.out).mono ?_); rintro e w3 ⟨x, rfl, hx3, hR3, hb3⟩; have HB3 := hid (HB2.out.below hb3); have hG3 := HG2.out.below hb3; have HG3 := hid hG3; have g0 := hG3.cell (i := 0) rfl; have f0 := hG3.free 0; haveI : Has w3 G := ⟨hG3.lt⟩; have HR3 := hid hR3; have Hb3 := hid (Below.trans Hb2.out (below_low hb3 Hb2.out.size)); have HX3 := hid (Nat.le_trans Hb2.out.size hx3); clear hx3 hR3 hb3 hG3)
     have K4 : Hid (Keeps w3.heap.size [G] w3 (w3.setCell ⟨G, 0, none⟩ (.pointer (some ⟨x, 0, none⟩)))) := hid ((Keeps.refl w3.heap.size [G] w3).set (Or.inl (by simp)) 0 (.pointer (some ⟨x, 0, none⟩)))
     have hxG : x ≠ G := by obtain ⟨v, d, hbv, -, -⟩ := HR3.out; exact hbv.ne HG3.out (by decide)
     have HR4 := hid (HR3.out.keep HG3.out K4.out hxG); have HG4 : Hid (Bk (w3.setCell ⟨G, 0, none⟩ (.pointer (some ⟨x, 0, none⟩))) G [.pointer (some ⟨x, 0, none⟩)] 80) := hid (HG3.out.set 0 (.pointer (some ⟨x, 0, none⟩))); have hng : wr.heap.size ≠ G := HB3.out.ne HG3.out (by decide)
     have HB4 := hid (HB3.out.keep K4.out (Nat.le_refl _) (by simpa using hng))
     have Hb4 : Hid (Below w.heap.size w (w3.setCell ⟨G, 0, none⟩ (.pointer (some ⟨x, 0, none⟩)))) := hid (below_store Hb3.out HG.out); clear HR3 HG3 HB3 Hb3 g0 f0 K4 hxG hng; generalize w3.setCell ⟨G, 0, none⟩ (.pointer (some ⟨x, 0, none⟩)) = w4 at *; have g0 := HG4.out.cell (i := 0) rfl; have d0 := HB4.out.cell (i := 0) rfl; have d1 := HB4.out.cell (i := 1) rfl; haveI : Has w4 G := ⟨HG4.out.lt⟩; haveI : Has w4 wr.heap.size := ⟨HB4.out.lt⟩; by_cases n1 : A1 = a
     · by_cases n2 : A2 = b
       · have HS : Hid (sameT a b = true) := hid ((same_iff a b).2 ⟨HA1.out.symm.trans n1, HA2.out.symm.trans n2⟩); rw [n1, n2] at TL1; clear n1 n2; go_region_held3 (fun W => W.cell? ⟨wr.heap.size, 0, none⟩ = some (.string a) ∧ W.cell? ⟨wr.heap.size, 1, none⟩ = some (.string b) ∧ W.cell? ⟨G, 0, none⟩ = some (.pointer (some ⟨x, 0, none⟩))) (refine ⟨?_, ?_, ?_⟩ <;> (first | assumption | (simp [go_sem, *]; done))) ((go_at_call 89; (with_reducible refine (TL1.out HOK.out x _ (HR4.out.below (Below.drew (Below.refl _ _)))).mono ?_); rintro e w5 ⟨rfl, hb5⟩; have hq5 := Below.trans (Below.drew (Below.refl w4.heap.size w4)) hb5; have g5 := (HG4.out.below hq5).cell (i := 0) rfl; have d50 := (HB4.out.below hq5).cell (i := 0) rfl; have d51 := (HB4.out.below hq5).cell (i := 1) rfl; haveI : Has w5 G := ⟨(HG4.out.below hq5).lt⟩; haveI : Has w5 wr.heap.size := ⟨(HB4.out.below hq5).lt⟩; have HQ5 := hid hq5; clear hb5 hq5))
         go_wp2_with fail
         go_round
         case rel => exact ⟨1, _, by go_num, by omega, HG4.out.below HQ5.out, Below.trans Hb4.out (below_low HQ5.out Hb4.out.size), hid (fun _ => ⟨x, rfl, HX3.out, HR4.out.below HQ5.out, HS.out⟩)⟩
         case measure => simp [intOf]
       · have m1 := n1; clear n1; have n1 := n2; clear n2
         have HC : Hid (checkF a b = 30) := hid (by
          unfold checkF; have h := HOK.out; rw [h.1, h.2, if_neg (by decide), if_neg (by decide), if_neg]
          intro hh; have := (same_iff a b).1 hh; rw [← HA1.out, ← HA2.out] at this
          first
           | exact n1 this.1
           | exact n1 this.2)
         rw [m1] at TL1; clear m1; have n2 := str_ne n1; go_region_held3 (fun W => W.cell? ⟨wr.heap.size, 0, none⟩ = some (.string a) ∧ W.cell? ⟨wr.heap.size, 1, none⟩ = some (.string b) ∧ W.cell? ⟨G, 0, none⟩ = some (.pointer (some ⟨x, 0, none⟩))) (refine ⟨?_, ?_, ?_⟩ <;> (first | assumption | (simp [go_sem, *]; done))) ((go_at_call 89; (with_reducible refine (TL1.out HOK.out x _ (HR4.out.below (Below.drew (Below.refl _ _)))).mono ?_); rintro e w5 ⟨rfl, hb5⟩; have hq5 := Below.trans (Below.drew (Below.refl w4.heap.size w4)) hb5; have g5 := (HG4.out.below hq5).cell (i := 0) rfl; have d50 := (HB4.out.below hq5).cell (i := 0) rfl; have d51 := (HB4.out.below hq5).cell (i := 1) rfl; haveI : Has w5 G := ⟨(HG4.out.below hq5).lt⟩; haveI : Has w5 wr.heap.size := ⟨(HB4.out.below hq5).lt⟩; have HQ5 := hid hq5; clear hb5 hq5))
         go_wp2_with fail
         go_ret2
         exact ⟨Below.trans Hb4.out (below_low HQ5.out Hb4.out.size), .inl ⟨by rw [HC.out]; decide, by rw [HC.out]; rfl⟩⟩
     · have HC : Hid (checkF a b = 30) := hid (by
        unfold checkF; have h := HOK.out; rw [h.1, h.2, if_neg (by decide), if_neg (by decide), if_neg]
        intro hh; have := (same_iff a b).1 hh; rw [← HA1.out, ← HA2.out] at this
        first
         | exact n1 this.1
         | exact n1 this.2)
       have n2 := str_ne n1; go_region_held3 (fun W => W.cell? ⟨wr.heap.size, 0, none⟩ = some (.string a) ∧ W.cell? ⟨wr.heap.size, 1, none⟩ = some (.string b) ∧ W.cell? ⟨G, 0, none⟩ = some (.pointer (some ⟨x, 0, none⟩))) (refine ⟨?_, ?_, ?_⟩ <;> (first | assumption | (simp [go_sem, *]; done))) ((go_at_call 89; (with_reducible refine (TL1.out HOK.out x _ (HR4.out.below (Below.drew (Below.refl _ _)))).mono ?_); rintro e w5 ⟨rfl, hb5⟩; have hq5 := Below.trans (Below.drew (Below.refl w4.heap.size w4)) hb5; have g5 := (HG4.out.below hq5).cell (i := 0) rfl; have d50 := (HB4.out.below hq5).cell (i := 0) rfl; have d51 := (HB4.out.below hq5).cell (i := 1) rfl; haveI : Has w5 G := ⟨(HG4.out.below hq5).lt⟩; haveI : Has w5 wr.heap.size := ⟨(HB4.out.below hq5).lt⟩; have HQ5 := hid hq5; clear hb5 hq5))
       go_wp2_with fail
       go_ret2
       exact ⟨Below.trans Hb4.out (below_low HQ5.out Hb4.out.size), .inl ⟨by rw [HC.out]; decide, by rw [HC.out]; rfl⟩⟩
   obtain rfl : j = 1 := by omega
   obtain ⟨x0, h01, h02, h03, h04⟩ := hF1.out (by decide)
   subst h01
   have HC : Hid (checkF a b = 0) := hid (by
    unfold checkF; have h := HOK.out; rw [h.1, h.2, if_neg (by decide), if_neg (by decide), if_pos h04])
   have HZ : Hid (ReadPost1 a b w (.returned (.tuple #[.slice (some ⟨G, 0, none⟩) 1 1, .int .i64 0])) wr) := hid ⟨hb, .inr ⟨HC.out, G, x0, rfl, HG.out, hBx, h03⟩⟩; clear h02 h03 h04 hBx hb hF1 hj j0; go_wp2_with fail
   go_ret2
   exact HZ.out
theorem echecks1 (g T : Nat) (a b : ByteArray) (w : World) (hB : Bk w g [.string a, .string b] T) (ha : a.size ≤ maxLen) (hb : b.size ≤ maxLen) :
 Calls Tryz.prog 102 #[.slice (some ⟨g, 0, none⟩) 1 1] w fun e w' => e = .returned (.int .i64 (checkF a b)) ∧ Below w.heap.size w w' := by
 have T1 := hid (etext152 a false ha); have T2 := hid (etext152 b true hb); rw [Bool.not_false] at T1; rw [Bool.not_true] at T2; obtain ⟨E1, h1⟩ : ∃ E, E = textE a false := ⟨_, rfl⟩; obtain ⟨E2, h2⟩ : ∃ E, E = textE b true := ⟨_, rfl⟩; rw [← h1] at T1; rw [← h2] at T2; have H1 := hid h1.symm; have H2 := hid h2.symm; clear h1 h2 ha hb; have FR1 := hid (fun (ok : okT a b) (v : World) => efraction a b v ok)
 have TL1 := hid (fun (ok : okT a b) (x : Nat) (v : World) (q : Ra 125 v x (rval a b)) => etellF x (rval a b) v q (by have := rval_small ok; omega) (by have := rval_small ok; omega))
 obtain ⟨A1, hA1⟩ : ∃ A, A = (⟨(itext (rval a b).num).toArray⟩ : ByteArray) := ⟨_, rfl⟩; obtain ⟨A2, hA2⟩ : ∃ A, A = (⟨(itext (rval a b).den).toArray⟩ : ByteArray) := ⟨_, rfl⟩; rw [← hA1, ← hA2] at TL1; have HA1 := hid hA1; have HA2 := hid hA2; clear hA1 hA2; haveI : Has w g := ⟨hB.lt⟩; have c0 := hB.cell (i := 0) rfl; have c1 := hB.cell (i := 1) rfl; have hB := hid hB; go_enter Tryz.func102, Tryz.ntmps102; go_wp2_with fail
 go_loop [3] (fun s3 => ∃ j : Nat, s3 = .int .i64 j ∧ j ≤ 1 ∧ Hid (1 ≤ j → E1 = 0 ∧ E2 = 0)) (fun s3 => 1 - (intOf s3).toNat)
 case atStart => exact ⟨0, rfl, by omega, hid (fun h => absurd h (by decide))⟩
 case round =>
  obtain ⟨j, rfl, hj, hF1⟩ := hrel; by_cases j0 : j = 0
  · subst j0; by_cases e1 : E1 = 0
    · by_cases e2 : E2 = 0
      · have b1 : (E1 != 0) = false := by rw [e1]; rfl
        have b2 : (E2 != 0) = false := by rw [e2]; rfl
        have HG : Hid (E1 = 0 ∧ E2 = 0) := hid ⟨e1, e2⟩; clear e1 e2; go_wp2_with first | (go_at_call 152; (with_reducible refine (T1.out _).mono ?_); rintro e w' ⟨rfl, hw⟩; obtain rfl := hw.symm) | (go_at_call 152; (with_reducible refine (T2.out _).mono ?_); rintro e w' ⟨rfl, hw⟩; obtain rfl := hw.symm)
        go_round
        case rel => exact ⟨1, by go_num, by omega, hid (fun _ => HG.out)⟩
        case measure => simp [intOf]
      · have b1 : (E1 != 0) = false := by rw [e1]; rfl
        have b2 : (E2 != 0) = true := bne_iff_ne.2 e2; have HR : Hid (checkF a b = E2) := hid (by unfold checkF; rw [H1.out, H2.out]; simp only [e1, ne_eq, not_true_eq_false, if_false]; rw [if_pos e2])
        clear e1 e2; go_wp2_with first | (go_at_call 152; (with_reducible refine (T1.out _).mono ?_); rintro e w' ⟨rfl, hw⟩; obtain rfl := hw.symm) | (go_at_call 152; (with_reducible refine (T2.out _).mono ?_); rintro e w' ⟨rfl, hw⟩; obtain rfl := hw.symm)
        go_ret
        exact ⟨by rw [HR.out]; rfl, Below.refl _ _⟩
    · have b1 : (E1 != 0) = true := bne_iff_ne.2 e1; have HR : Hid (checkF a b = E1) := hid (by unfold checkF; rw [H1.out, H2.out]; rw [if_pos e1])
      clear e1; go_wp2_with first | (go_at_call 152; (with_reducible refine (T1.out _).mono ?_); rintro e w' ⟨rfl, hw⟩; obtain rfl := hw.symm) | (go_at_call 152; (with_reducible refine (T2.out _).mono ?_); rintro e w' ⟨rfl, hw⟩; obtain rfl := hw.symm)
      go_ret
      exact ⟨by rw [HR.out]; rfl, Below.refl _ _⟩
  obtain rfl : j = 1 := by omega
  have HOK : Hid (okT a b) := hid ⟨H1.out.trans (hF1.out (by decide)).1, H2.out.trans (hF1.out (by decide)).2⟩
  clear hF1 hj j0; go_wp2_with fail
  go_loopw [5] (fun s5 wx => ∃ j : Nat, s5 = .int .i64 j ∧ j ≤ 1 ∧ Below w.heap.size w wx ∧ Hid (1 ≤ j → sameT a b = true)) (fun s5 _ => 1 - (intOf s5).toNat)
  case atStart => exact ⟨0, rfl, by omega, Below.refl _ _, hid (fun h => absurd h (by decide))⟩
  case round =>
   obtain ⟨j, rfl, hj, hb, hF1⟩ := hrel; have HBw := hid (hB.out.below hb); have c0 := HBw.out.cell (i := 0) rfl; have c1 := HBw.out.cell (i := 1) rfl; haveI : Has wr g := ⟨HBw.out.lt⟩; by_cases j0 : j = 0
   · subst j0; have Hb := hid hb; clear hb; by_cases n1 : A1 = a
     · by_cases n2 : A2 = b
       · have HS : Hid (sameT a b = true) := hid ((same_iff a b).2 ⟨HA1.out.symm.trans n1, HA2.out.symm.trans n2⟩); rw [n1, n2] at TL1; clear n1 n2; go_wp2_with fail
         go_region_held3 (fun W => W.cell? ⟨g, 0, none⟩ = some (.string a) ∧ W.cell? ⟨g, 1, none⟩ = some (.string b)) (refine ⟨?_, ?_⟩ <;> (first | assumption | (simp [go_sem, *]; done))) (first | (go_at_call 103; (with_reducible refine (FR1.out HOK.out _).mono ?_); rintro e w3 ⟨x, rfl, hx3, hR3, hb3⟩; have hq3 := Below.trans (Below.drew (Below.refl wr.heap.size wr)) hb3; have HB3 := hid (HBw.out.below hq3); have s0 := HB3.out.cell (i := 0) rfl; have s1 := HB3.out.cell (i := 1) rfl; haveI : Has w3 g := ⟨HB3.out.lt⟩; have HR3 := hid hR3; have HQ3 := hid hq3; clear hx3 hR3 hb3 hq3) | (go_at_call 100; (with_reducible refine (TL1.out HOK.out x _ HR3.out).mono ?_); rintro e w5 ⟨rfl, hb5⟩; have HQ5 := hid (Below.trans HQ3.out (below_low hb5 HQ3.out.size)); have HB5 := hid (HB3.out.below hb5); have t0 := HB5.out.cell (i := 0) rfl; have t1 := HB5.out.cell (i := 1) rfl; haveI : Has w5 g := ⟨HB5.out.lt⟩; clear hb5))
         go_wp2_with fail
         go_round
         case rel => exact ⟨1, by go_num, by omega, Below.trans Hb.out (below_low HQ5.out Hb.out.size), hid (fun _ => HS.out)⟩
         case measure => simp [intOf]
       · have m1 := n1; clear n1; have n1 := n2; clear n2
         have HC : Hid (checkF a b = 30) := hid (by
          unfold checkF; have h := HOK.out; rw [h.1, h.2, if_neg (by decide), if_neg (by decide), if_neg]
          intro hh; have := (same_iff a b).1 hh; rw [← HA1.out, ← HA2.out] at this
          first
           | exact n1 this.1
           | exact n1 this.2)
         rw [m1] at TL1; clear m1; have n2 := str_ne n1; go_wp2_with fail
         go_region_held3 (fun W => W.cell? ⟨g, 0, none⟩ = some (.string a) ∧ W.cell? ⟨g, 1, none⟩ = some (.string b)) (refine ⟨?_, ?_⟩ <;> (first | assumption | (simp [go_sem, *]; done))) (first | (go_at_call 103; (with_reducible refine (FR1.out HOK.out _).mono ?_); rintro e w3 ⟨x, rfl, hx3, hR3, hb3⟩; have hq3 := Below.trans (Below.drew (Below.refl wr.heap.size wr)) hb3; have HB3 := hid (HBw.out.below hq3); have s0 := HB3.out.cell (i := 0) rfl; have s1 := HB3.out.cell (i := 1) rfl; haveI : Has w3 g := ⟨HB3.out.lt⟩; have HR3 := hid hR3; have HQ3 := hid hq3; clear hx3 hR3 hb3 hq3) | (go_at_call 100; (with_reducible refine (TL1.out HOK.out x _ HR3.out).mono ?_); rintro e w5 ⟨rfl, hb5⟩; have HQ5 := hid (Below.trans HQ3.out (below_low hb5 HQ3.out.size)); have HB5 := hid (HB3.out.below hb5); have t0 := HB5.out.cell (i := 0) rfl; have t1 := HB5.out.cell (i := 1) rfl; haveI : Has w5 g := ⟨HB5.out.lt⟩; clear hb5))
         go_wp2_with fail
         go_ret
         exact ⟨by rw [HC.out]; rfl, Below.trans Hb.out (below_low HQ5.out Hb.out.size)⟩
     · have HC : Hid (checkF a b = 30) := hid (by
        unfold checkF; have h := HOK.out; rw [h.1, h.2, if_neg (by decide), if_neg (by decide), if_neg]
        intro hh; have := (same_iff a b).1 hh; rw [← HA1.out, ← HA2.out] at this
        first
         | exact n1 this.1
         | exact n1 this.2)
       have n2 := str_ne n1; go_wp2_with fail
       go_region_held3 (fun W => W.cell? ⟨g, 0, none⟩ = some (.string a) ∧ W.cell? ⟨g, 1, none⟩ = some (.string b)) (refine ⟨?_, ?_⟩ <;> (first | assumption | (simp [go_sem, *]; done))) (first | (go_at_call 103; (with_reducible refine (FR1.out HOK.out _).mono ?_); rintro e w3 ⟨x, rfl, hx3, hR3, hb3⟩; have hq3 := Below.trans (Below.drew (Below.refl wr.heap.size wr)) hb3; have HB3 := hid (HBw.out.below hq3); have s0 := HB3.out.cell (i := 0) rfl; have s1 := HB3.out.cell (i := 1) rfl; haveI : Has w3 g := ⟨HB3.out.lt⟩; have HR3 := hid hR3; have HQ3 := hid hq3; clear hx3 hR3 hb3 hq3) | (go_at_call 100; (with_reducible refine (TL1.out HOK.out x _ HR3.out).mono ?_); rintro e w5 ⟨rfl, hb5⟩; have HQ5 := hid (Below.trans HQ3.out (below_low hb5 HQ3.out.size)); have HB5 := hid (HB3.out.below hb5); have t0 := HB5.out.cell (i := 0) rfl; have t1 := HB5.out.cell (i := 1) rfl; haveI : Has w5 g := ⟨HB5.out.lt⟩; clear hb5))
       go_wp2_with fail
       go_ret
       exact ⟨by rw [HC.out]; rfl, Below.trans Hb.out (below_low HQ5.out Hb.out.size)⟩
   obtain rfl : j = 1 := by omega
   have HC : Hid (checkF a b = 0) := hid (by
    unfold checkF; have h := HOK.out; rw [h.1, h.2, if_neg (by decide), if_neg (by decide), if_pos (hF1.out (by decide))])
   have Hb := hid hb; clear hb hF1 hj j0; go_wp2_with fail
   go_ret
   exact ⟨by rw [HC.out]; rfl, Hb.out⟩
theorem smC_rvalF {a b : ByteArray} (h : checkF a b = 0) : SmC (rval a b) 16384 := ⟨rval_small (checkF_okT h).1⟩
theorem bread1Ok {w : World} {g T : Nat} {a b : ByteArray} [hB : BkC w g [.string a, .string b] T] [sa : SzC a] [sb : SzC b] [hv : VrC w] (h : checkF a b = 0) :
 Calls Tryz.prog 91 #[.slice (some ⟨g, 0, none⟩) 1 1] w fun e w' => ∃ q x, e = .returned (.tuple #[.slice (some ⟨q, 0, none⟩) 1 1, .int .i64 0]) ∧ BkC w' q [.pointer (some ⟨x, 0, none⟩)] 80 ∧ RaC 88 w' x (rval a b) ∧ Kp0 w w' := by
 refine (bread1 g T a b w hB.out sa.out sb.out hv.out).mono ?_
 rintro e w' ⟨hb, ⟨h1, -⟩ | ⟨-, q, x, rfl, -, h3, h4⟩⟩
 · exact absurd h h1
 · exact ⟨q, x, rfl, ⟨h3⟩, ⟨h4⟩, ⟨hb⟩⟩
theorem bread1Bad {w : World} {g T : Nat} {a b : ByteArray} {E : Int} [hB : BkC w g [.string a, .string b] T] [sa : SzC a] [sb : SzC b] [hv : VrC w] (h : checkF a b = E) (h0 : E ≠ 0) :
 Calls Tryz.prog 91 #[.slice (some ⟨g, 0, none⟩) 1 1] w fun e w' => e = .returned (.tuple #[.slice none 0 0, .int .i64 E]) ∧ Kp0 w w' := by
 subst h; refine (bread1 g T a b w hB.out sa.out sb.out hv.out).mono ?_
 rintro e w' ⟨hb, ⟨-, rfl⟩ | ⟨h1, -⟩⟩
 · exact ⟨rfl, ⟨hb⟩⟩
 · exact absurd h1 h0
theorem echecks1C {w : World} {g T : Nat} {a b : ByteArray} {E : Int} [hB : BkC w g [.string a, .string b] T] [sa : SzC a] [sb : SzC b] (h : checkF a b = E) :
 Calls Tryz.prog 102 #[.slice (some ⟨g, 0, none⟩) 1 1] w fun e w' => e = .returned (.int .i64 E) ∧ Kp0 w w' := by
 subst h; refine (echecks1 g T a b w hB.out sa.out sb.out).mono ?_
 rintro e w' ⟨rfl, hb⟩; exact ⟨rfl, ⟨hb⟩⟩
theorem efractionC {w : World} {a b : ByteArray} (h : checkF a b = 0) :
 Calls Tryz.prog 103 #[.agg #[.string a, .string b]] w fun e w' => ∃ x, e = .returned (.pointer (some ⟨x, 0, none⟩)) ∧ RaC 125 w' x (rval a b) ∧ Kp0 w w' := by
 refine (efraction a b w (checkF_okT h).1).mono ?_
 rintro e w' ⟨x, rfl, h1, h2, h3⟩; exact ⟨x, rfl, ⟨h2⟩, ⟨h3⟩⟩
theorem brcmpC {w : World} {g k : Nat} {x y : _root_.Rat} {L M : Nat} [hx : RaC 88 w g x] [hy : RaC 88 w k y] [sx : SmC x L] [sy : SmC y M] (h1 : L ≤ 34359738368) (h2 : M ≤ 34359738368) :
 Calls Tryz.prog 92 #[.pointer (some ⟨g, 0, none⟩), .pointer (some ⟨k, 0, none⟩)] w fun e w' => e = .returned (.int .i64 (rcmp x y)) ∧ Kp0 w w' := by
 refine (brcmp g k x y w hx.out hy.out (Nat.le_trans sx.out.1 h1) (Nat.le_trans sx.out.2 h1) (Nat.le_trans sy.out.1 h2) (Nat.le_trans sy.out.2 h2)).mono ?_
 rintro e w' ⟨rfl, hb⟩; exact ⟨rfl, ⟨hb⟩⟩
theorem ercmpC {w : World} {g k : Nat} {x y : _root_.Rat} {L M : Nat} [hx : RaC 125 w g x] [hy : RaC 125 w k y] [sx : SmC x L] [sy : SmC y M] (h1 : L ≤ 34359738368) (h2 : M ≤ 34359738368) :
 Calls Tryz.prog 104 #[.pointer (some ⟨g, 0, none⟩), .pointer (some ⟨k, 0, none⟩)] w fun e w' => e = .returned (.int .i64 (rcmp x y)) ∧ Kp0 w w' := by
 refine (ercmp g k x y w hx.out hy.out (Nat.le_trans sx.out.1 h1) (Nat.le_trans sx.out.2 h1) (Nat.le_trans sy.out.1 h2) (Nat.le_trans sy.out.2 h2)).mono ?_
 rintro e w' ⟨rfl, hb⟩; exact ⟨rfl, ⟨hb⟩⟩
def cmpE (a b c d : ByteArray) : Int := if checkF a b ≠ 0 then checkF a b else checkF c d
def cmpV (a b c d : ByteArray) : Int := if cmpE a b c d ≠ 0 then 0 else rcmp (rval a b) (rval c d)
theorem cmpE_1 {a b c d : ByteArray} (h : checkF a b ≠ 0) : cmpE a b c d = checkF a b ∧ cmpV a b c d = 0 := by
 have e : cmpE a b c d = checkF a b := by unfold cmpE; rw [if_pos h]
 exact ⟨e, by unfold cmpV; rw [e, if_pos h]⟩
theorem cmpE_2 {a b c d : ByteArray} (h : checkF a b = 0) (h2 : checkF c d ≠ 0) : cmpE a b c d = checkF c d ∧ cmpV a b c d = 0 := by
 have e : cmpE a b c d = checkF c d := by unfold cmpE; rw [if_neg (by omega)]
 exact ⟨e, by unfold cmpV; rw [e, if_pos h2]⟩
theorem cmpE_3 {a b c d : ByteArray} (h : checkF a b = 0) (h2 : checkF c d = 0) : cmpE a b c d = 0 ∧ cmpV a b c d = rcmp (rval a b) (rval c d) := by
 have e : cmpE a b c d = 0 := by unfold cmpE; rw [if_neg (by omega)]; exact h2
 exact ⟨e, by unfold cmpV; rw [e, if_neg (by omega)]⟩
theorem gaCmp1 {a b c d : ByteArray} {w : World} [sa : SzC a] [sb : SzC b] [sc : SzC c] [sd : SzC d] [hv : VrB w] (h : checkF a b ≠ 0) :
 Calls Tryz.prog 42 #[.agg #[.string a, .string b], .agg #[.string c, .string d]] w fun e w' => e = .returned (.tuple #[.int .i64 (cmpV a b c d), .int .i64 (cmpE a b c d)]) ∧ Kp0 w w' := by
 have HE := hid (cmpE_1 (c := c) (d := d) h); generalize hE : checkF a b = E at *; have b1 : (E != 0) = true := bne_iff_ne.2 h; go_enter Tryz.func42, Tryz.ntmps42; go_wp2_with ((go_at_call 91; (with_reducible refine Calls.mono (bread1Bad hE h) ?_); rintro e wc ⟨rfl, _⟩))
 go_ret2
 rw [HE.out.1, HE.out.2]; exact ⟨rfl, ⟨Gr.out⟩⟩
theorem gaCmp2 {a b c d : ByteArray} {w : World} [sa : SzC a] [sb : SzC b] [sc : SzC c] [sd : SzC d] [hv : VrB w] (h1 : checkF a b = 0) (h : checkF c d ≠ 0) :
 Calls Tryz.prog 42 #[.agg #[.string a, .string b], .agg #[.string c, .string d]] w fun e w' => e = .returned (.tuple #[.int .i64 (cmpV a b c d), .int .i64 (cmpE a b c d)]) ∧ Kp0 w w' := by
 have HE := hid (cmpE_2 h1 h); generalize hE : checkF c d = E at *; have b1 : (E != 0) = true := bne_iff_ne.2 h; go_enter Tryz.func42, Tryz.ntmps42; go_wp2_with (first | (go_at_call 91; (with_reducible refine Calls.mono (bread1Bad hE h) ?_); rintro e wc ⟨rfl, _⟩) | (go_at_call 91; (with_reducible refine Calls.mono (bread1Ok h1) ?_); rintro e wc ⟨q, x, rfl, _, _, _⟩))
 go_ret2
 rw [HE.out.1, HE.out.2]; exact ⟨rfl, ⟨Gr.out⟩⟩
theorem gaCmp3 {a b c d : ByteArray} {w : World} [sa : SzC a] [sb : SzC b] [sc : SzC c] [sd : SzC d] [hv : VrB w] (h1 : checkF a b = 0) (h2 : checkF c d = 0) :
 Calls Tryz.prog 42 #[.agg #[.string a, .string b], .agg #[.string c, .string d]] w fun e w' => e = .returned (.tuple #[.int .i64 (cmpV a b c d), .int .i64 (cmpE a b c d)]) ∧ Kp0 w w' := by
 have HE := hid (cmpE_3 h1 h2); haveI := smC_rvalF h1; haveI := smC_rvalF h2; go_enter Tryz.func42, Tryz.ntmps42; go_wp2_with (first | (go_at_call 91; (with_reducible refine Calls.mono (bread1Ok h1) ?_); rintro e wc ⟨q, x, rfl, _, _, _⟩) | (go_at_call 91; (with_reducible refine Calls.mono (bread1Ok h2) ?_); rintro e wc ⟨q', x', rfl, _, _, _⟩))
 go_region_held3 (fun W => W.cell? ⟨q, 0, none⟩ = some (.pointer (some ⟨x, 0, none⟩)) ∧ W.cell? ⟨q', 0, none⟩ = some (.pointer (some ⟨x', 0, none⟩))) (refine ⟨?_, ?_⟩ <;> (first | exact Bk.cell BkC.out rfl | (simp [go_sem]; done))) (first | (go_at_call 92; (with_reducible refine Calls.mono (brcmpC (by decide) (by decide)) ?_); rintro e wc ⟨rfl, _⟩))
 all_goals (go_wp2_with fail)
 all_goals (go_ret2; rw [HE.out.1, HE.out.2]; exact ⟨rfl, ⟨Gr.out⟩⟩)
theorem gaCmp {a b c d : ByteArray} {w : World} [sa : SzC a] [sb : SzC b] [sc : SzC c] [sd : SzC d] [hv : VrC w] : Calls Tryz.prog 42 #[.agg #[.string a, .string b], .agg #[.string c, .string d]] w fun e w' => e = .returned (.tuple #[.int .i64 (cmpV a b c d), .int .i64 (cmpE a b c d)]) ∧ Kp0 w w' := by
 by_cases h1 : checkF a b = 0
 · by_cases h2 : checkF c d = 0
   · exact gaCmp3 (hv := ⟨VrC.out⟩) h1 h2
   · exact gaCmp2 (hv := ⟨VrC.out⟩) h1 h2
 · exact gaCmp1 (hv := ⟨VrC.out⟩) h1
theorem reCmp1 {a b c d : ByteArray} {w : World} [sa : SzC a] [sb : SzC b] [sc : SzC c] [sd : SzC d] (h : checkF a b ≠ 0) :
 Calls Tryz.prog 49 #[.agg #[.string a, .string b], .agg #[.string c, .string d]] w fun e w' => e = .returned (.tuple #[.int .i64 (cmpV a b c d), .int .i64 (cmpE a b c d)]) ∧ Kp0 w w' := by
 have HE := hid (cmpE_1 (c := c) (d := d) h); generalize hE : checkF a b = E at *; have b1 : (E != 0) = true := bne_iff_ne.2 h; go_enter Tryz.func49, Tryz.ntmps49; go_wp2_with ((go_at_call 102; (with_reducible refine Calls.mono (echecks1C hE) ?_); rintro e wc ⟨rfl, _⟩))
 go_ret2
 rw [HE.out.1, HE.out.2]; exact ⟨rfl, ⟨Gr.out⟩⟩
theorem reCmp2 {a b c d : ByteArray} {w : World} [sa : SzC a] [sb : SzC b] [sc : SzC c] [sd : SzC d] (h1 : checkF a b = 0) (h : checkF c d ≠ 0) :
 Calls Tryz.prog 49 #[.agg #[.string a, .string b], .agg #[.string c, .string d]] w fun e w' => e = .returned (.tuple #[.int .i64 (cmpV a b c d), .int .i64 (cmpE a b c d)]) ∧ Kp0 w w' := by
 have HE := hid (cmpE_2 h1 h); generalize hE : checkF c d = E at *; have b1 : (E != 0) = true := bne_iff_ne.2 h; go_enter Tryz.func49, Tryz.ntmps49; go_wp2_with (first | (go_at_call 102; (with_reducible refine Calls.mono (echecks1C h1) ?_); rintro e wc ⟨rfl, _⟩) | (go_at_call 102; (with_reducible refine Calls.mono (echecks1C hE) ?_); rintro e wc ⟨rfl, _⟩))
 go_ret2
 rw [HE.out.1, HE.out.2]; exact ⟨rfl, ⟨Gr.out⟩⟩
theorem reCmp3 {a b c d : ByteArray} {w : World} [sa : SzC a] [sb : SzC b] [sc : SzC c] [sd : SzC d] (h1 : checkF a b = 0) (h2 : checkF c d = 0) :
 Calls Tryz.prog 49 #[.agg #[.string a, .string b], .agg #[.string c, .string d]] w fun e w' => e = .returned (.tuple #[.int .i64 (cmpV a b c d), .int .i64 (cmpE a b c d)]) ∧ Kp0 w w' := by
 have HE := hid (cmpE_3 h1 h2); haveI := smC_rvalF h1; haveI := smC_rvalF h2; go_enter Tryz.func49, Tryz.ntmps49; go_wp2_with (first | (go_at_call 102; (with_reducible refine Calls.mono (echecks1C h1) ?_); rintro e wc ⟨rfl, _⟩) | (go_at_call 102; (with_reducible refine Calls.mono (echecks1C h2) ?_); rintro e wc ⟨rfl, _⟩))
 go_region_held3 (fun W => W.cell? ⟨w.heap.size, 0, none⟩ = some (.string a) ∧ W.cell? ⟨w.heap.size, 1, none⟩ = some (.string b) ∧ W.cell? ⟨w.heap.size + 1, 0, none⟩ = some (.string c) ∧ W.cell? ⟨w.heap.size + 1, 1, none⟩ = some (.string d)) (refine ⟨?_, ?_, ?_, ?_⟩ <;> (first | exact Bk.cell BkC.out rfl | (simp [go_sem]; done))) (first | (go_at_call 103; (with_reducible refine Calls.mono (efractionC h1) ?_); rintro e wc ⟨x, rfl, _, _⟩) | (go_at_call 103; (with_reducible refine Calls.mono (efractionC h2) ?_); rintro e wc ⟨x', rfl, _, _⟩) | (go_at_call 104; (with_reducible refine Calls.mono (ercmpC (by decide) (by decide)) ?_); rintro e wc ⟨rfl, _⟩))
 all_goals (go_wp2_with fail)
 all_goals (go_ret2; rw [HE.out.1, HE.out.2]; exact ⟨rfl, ⟨Gr.out⟩⟩)
theorem reCmp {a b c d : ByteArray} {w : World} [sa : SzC a] [sb : SzC b] [sc : SzC c] [sd : SzC d] : Calls Tryz.prog 49 #[.agg #[.string a, .string b], .agg #[.string c, .string d]] w fun e w' => e = .returned (.tuple #[.int .i64 (cmpV a b c d), .int .i64 (cmpE a b c d)]) ∧ Kp0 w w' := by
 by_cases h1 : checkF a b = 0
 · by_cases h2 : checkF c d = 0
   · exact reCmp3 h1 h2
   · exact reCmp2 h1 h2
 · exact reCmp1 h1
theorem gaAddXBad {a b c d a' b' c' d' : ByteArray} {E : Int} {w : World} [sa : SzC a] [sb : SzC b] [sc : SzC c] [sd : SzC d] [sa' : SzC a'] [sb' : SzC b'] [sc' : SzC c'] [sd' : SzC d'] [hv : VrB w] (h : twoC a b c d a' b' c' d' = E) (h0 : E ≠ 0) :
 Calls Tryz.prog 34 #[.agg #[.string a, .string b, .string c, .string d], .agg #[.string a', .string b', .string c', .string d']] w fun e w' => e = .returned (.tuple #[.agg #[.string ⟨#[]⟩, .string ⟨#[]⟩, .string ⟨#[]⟩, .string ⟨#[]⟩], .int .i64 E]) ∧ Kp0 w w' := by
 go_enter Tryz.func34, Tryz.ntmps34; go_wp2_with ((go_at_call 82; (with_reducible refine Calls.mono (gaDoneBad (hv := ⟨VrC.out⟩) h h0) ?_); rintro e wc ⟨rfl, _⟩))
 refine ret_cell_tmp rfl rfl rfl (by rfl) (by rfl) (by rfl) ?_
 exact ⟨rfl, ⟨Gr.out⟩⟩
theorem gaAddXOk {a b c d a' b' c' d' : ByteArray} {w : World} [sa : SzC a] [sb : SzC b] [sc : SzC c] [sd : SzC d] [sa' : SzC a'] [sb' : SzC b'] [sc' : SzC c'] [sd' : SzC d'] [hv : VrB w] (h1 : checkE a b c d = 0) (h2 : checkE a' b' c' d' = 0) :
 Calls Tryz.prog 34 #[.agg #[.string a, .string b, .string c, .string d], .agg #[.string a', .string b', .string c', .string d']] w fun e w' => e = .returned (.tuple #[.agg #[.string (tS ((rval a b) + (rval a' b')) ((rval c d) + (rval c' d')) (strN ((rval a b) + (rval a' b')).num)), .string (tS ((rval a b) + (rval a' b')) ((rval c d) + (rval c' d')) (strN ((rval a b) + (rval a' b')).den)), .string (tS ((rval a b) + (rval a' b')) ((rval c d) + (rval c' d')) (strN ((rval c d) + (rval c' d')).num)), .string (tS ((rval a b) + (rval a' b')) ((rval c d) + (rval c' d')) (strN ((rval c d) + (rval c' d')).den))], .int .i64 (toldE ((rval a b) + (rval a' b')) ((rval c d) + (rval c' d')))]) ∧ Kp0 w w' := by
 go_enter Tryz.func34, Tryz.ntmps34; go_wp2_with ((go_at_call 82; (with_reducible refine Calls.mono (gaDone0 (hv := ⟨VrC.out⟩) h1 h2) ?_); rintro e wc ⟨rfl, _⟩))
 refine ret_cell_tmp rfl rfl rfl (by rfl) (by rfl) (by rfl) ?_
 exact ⟨rfl, ⟨Gr.out⟩⟩
theorem gaSubXBad {a b c d a' b' c' d' : ByteArray} {E : Int} {w : World} [sa : SzC a] [sb : SzC b] [sc : SzC c] [sd : SzC d] [sa' : SzC a'] [sb' : SzC b'] [sc' : SzC c'] [sd' : SzC d'] [hv : VrB w] (h : twoC a b c d a' b' c' d' = E) (h0 : E ≠ 0) :
 Calls Tryz.prog 36 #[.agg #[.string a, .string b, .string c, .string d], .agg #[.string a', .string b', .string c', .string d']] w fun e w' => e = .returned (.tuple #[.agg #[.string ⟨#[]⟩, .string ⟨#[]⟩, .string ⟨#[]⟩, .string ⟨#[]⟩], .int .i64 E]) ∧ Kp0 w w' := by
 go_enter Tryz.func36, Tryz.ntmps36; go_wp2_with ((go_at_call 82; (with_reducible refine Calls.mono (gaDoneBad (hv := ⟨VrC.out⟩) h h0) ?_); rintro e wc ⟨rfl, _⟩))
 refine ret_cell_tmp rfl rfl rfl (by rfl) (by rfl) (by rfl) ?_
 exact ⟨rfl, ⟨Gr.out⟩⟩
theorem gaSubXOk {a b c d a' b' c' d' : ByteArray} {w : World} [sa : SzC a] [sb : SzC b] [sc : SzC c] [sd : SzC d] [sa' : SzC a'] [sb' : SzC b'] [sc' : SzC c'] [sd' : SzC d'] [hv : VrB w] (h1 : checkE a b c d = 0) (h2 : checkE a' b' c' d' = 0) :
 Calls Tryz.prog 36 #[.agg #[.string a, .string b, .string c, .string d], .agg #[.string a', .string b', .string c', .string d']] w fun e w' => e = .returned (.tuple #[.agg #[.string (tS ((rval a b) - (rval a' b')) ((rval c d) - (rval c' d')) (strN ((rval a b) - (rval a' b')).num)), .string (tS ((rval a b) - (rval a' b')) ((rval c d) - (rval c' d')) (strN ((rval a b) - (rval a' b')).den)), .string (tS ((rval a b) - (rval a' b')) ((rval c d) - (rval c' d')) (strN ((rval c d) - (rval c' d')).num)), .string (tS ((rval a b) - (rval a' b')) ((rval c d) - (rval c' d')) (strN ((rval c d) - (rval c' d')).den))], .int .i64 (toldE ((rval a b) - (rval a' b')) ((rval c d) - (rval c' d')))]) ∧ Kp0 w w' := by
 go_enter Tryz.func36, Tryz.ntmps36; go_wp2_with ((go_at_call 82; (with_reducible refine Calls.mono (gaDone1 (hv := ⟨VrC.out⟩) h1 h2) ?_); rintro e wc ⟨rfl, _⟩))
 refine ret_cell_tmp rfl rfl rfl (by rfl) (by rfl) (by rfl) ?_
 exact ⟨rfl, ⟨Gr.out⟩⟩
theorem gaMulXBad {a b c d a' b' c' d' : ByteArray} {E : Int} {w : World} [sa : SzC a] [sb : SzC b] [sc : SzC c] [sd : SzC d] [sa' : SzC a'] [sb' : SzC b'] [sc' : SzC c'] [sd' : SzC d'] [hv : VrB w] (h : twoC a b c d a' b' c' d' = E) (h0 : E ≠ 0) :
 Calls Tryz.prog 35 #[.agg #[.string a, .string b, .string c, .string d], .agg #[.string a', .string b', .string c', .string d']] w fun e w' => e = .returned (.tuple #[.agg #[.string ⟨#[]⟩, .string ⟨#[]⟩, .string ⟨#[]⟩, .string ⟨#[]⟩], .int .i64 E]) ∧ Kp0 w w' := by
 go_enter Tryz.func35, Tryz.ntmps35; go_wp2_with ((go_at_call 82; (with_reducible refine Calls.mono (gaDoneBad (hv := ⟨VrC.out⟩) h h0) ?_); rintro e wc ⟨rfl, _⟩))
 refine ret_cell_tmp rfl rfl rfl (by rfl) (by rfl) (by rfl) ?_
 exact ⟨rfl, ⟨Gr.out⟩⟩
theorem gaMulXOk {a b c d a' b' c' d' : ByteArray} {w : World} [sa : SzC a] [sb : SzC b] [sc : SzC c] [sd : SzC d] [sa' : SzC a'] [sb' : SzC b'] [sc' : SzC c'] [sd' : SzC d'] [hv : VrB w] (h1 : checkE a b c d = 0) (h2 : checkE a' b' c' d' = 0) :
 Calls Tryz.prog 35 #[.agg #[.string a, .string b, .string c, .string d], .agg #[.string a', .string b', .string c', .string d']] w fun e w' => e = .returned (.tuple #[.agg #[.string (tS ((rval a b) * (rval a' b') - (rval c d) * (rval c' d')) ((rval a b) * (rval c' d') + (rval c d) * (rval a' b')) (strN ((rval a b) * (rval a' b') - (rval c d) * (rval c' d')).num)), .string (tS ((rval a b) * (rval a' b') - (rval c d) * (rval c' d')) ((rval a b) * (rval c' d') + (rval c d) * (rval a' b')) (strN ((rval a b) * (rval a' b') - (rval c d) * (rval c' d')).den)), .string (tS ((rval a b) * (rval a' b') - (rval c d) * (rval c' d')) ((rval a b) * (rval c' d') + (rval c d) * (rval a' b')) (strN ((rval a b) * (rval c' d') + (rval c d) * (rval a' b')).num)), .string (tS ((rval a b) * (rval a' b') - (rval c d) * (rval c' d')) ((rval a b) * (rval c' d') + (rval c d) * (rval a' b')) (strN ((rval a b) * (rval c' d') + (rval c d) * (rval a' b')).den))], .int .i64 (toldE ((rval a b) * (rval a' b') - (rval c d) * (rval c' d')) ((rval a b) * (rval c' d') + (rval c d) * (rval a' b')))]) ∧ Kp0 w w' := by
 go_enter Tryz.func35, Tryz.ntmps35; go_wp2_with ((go_at_call 82; (with_reducible refine Calls.mono (gaDone2 (hv := ⟨VrC.out⟩) h1 h2) ?_); rintro e wc ⟨rfl, _⟩))
 refine ret_cell_tmp rfl rfl rfl (by rfl) (by rfl) (by rfl) ?_
 exact ⟨rfl, ⟨Gr.out⟩⟩
theorem gaCheckBad {a b c d : ByteArray} {w : World} [sa : SzC a] [sb : SzC b] [sc : SzC c] [sd : SzC d] [hv : VrB w] {E : Int} (h : checkE a b c d = E) (h0 : E ≠ 0) :
 Calls Tryz.prog 33 #[.agg #[.string a, .string b, .string c, .string d]] w fun e w' => e = .returned (.int .i64 E) ∧ Kp0 w w' := by
 go_enter Tryz.func33, Tryz.ntmps33; go_wp2_with ((go_at_call 75; (with_reducible refine Calls.mono (gaOneBad h h0) ?_); rintro e wc ⟨rfl, _⟩))
 go_ret
 exact ⟨rfl, ⟨Gr.out⟩⟩
theorem gaCheckOk {a b c d : ByteArray} {w : World} [sa : SzC a] [sb : SzC b] [sc : SzC c] [sd : SzC d] [hv : VrB w] (h1 : checkE a b c d = 0) :
 Calls Tryz.prog 33 #[.agg #[.string a, .string b, .string c, .string d]] w fun e w' => e = .returned (.int .i64 0) ∧ Kp0 w w' := by
 go_enter Tryz.func33, Tryz.ntmps33; go_wp2_with ((go_at_call 75; (with_reducible refine Calls.mono (gaOneOk h1) ?_); rintro e wc ⟨i, j, rfl, _, _, _⟩))
 go_ret
 exact ⟨rfl, ⟨Gr.out⟩⟩
theorem gaCheckX {a b c d : ByteArray} {w : World} [sa : SzC a] [sb : SzC b] [sc : SzC c] [sd : SzC d] [hv : VrC w] :
 Calls Tryz.prog 33 #[.agg #[.string a, .string b, .string c, .string d]] w fun e w' => e = .returned (.int .i64 (checkE a b c d)) ∧ Kp0 w w' := by
 by_cases h : checkE a b c d = 0
 · rw [h]; exact gaCheckOk (hv := ⟨VrC.out⟩) h
 · exact gaCheckBad (hv := ⟨VrC.out⟩) rfl h
theorem gaConjBad {a b c d : ByteArray} {w : World} [sa : SzC a] [sb : SzC b] [sc : SzC c] [sd : SzC d] [hv : VrB w] {E : Int} (h : checkE a b c d = E) (h0 : E ≠ 0) :
 Calls Tryz.prog 40 #[.agg #[.string a, .string b, .string c, .string d]] w fun e w' => e = .returned (.tuple #[.agg #[.string ⟨#[]⟩, .string ⟨#[]⟩, .string ⟨#[]⟩, .string ⟨#[]⟩], .int .i64 E]) ∧ Kp0 w w' := by
 have b1 : (E != 0) = true := bne_iff_ne.2 h0; go_enter Tryz.func40, Tryz.ntmps40; go_wp2_with ((go_at_call 75; (with_reducible refine Calls.mono (gaOneBad h h0) ?_); rintro e wc ⟨rfl, _⟩))
 refine ret_cell_tmp rfl rfl rfl (by rfl) (by rfl) (by rfl) ?_
 exact ⟨rfl, ⟨Gr.out⟩⟩
theorem gaConjOk {a b c d : ByteArray} {w : World} [sa : SzC a] [sb : SzC b] [sc : SzC c] [sd : SzC d] [hv : VrB w] (h1 : checkE a b c d = 0) :
 Calls Tryz.prog 40 #[.agg #[.string a, .string b, .string c, .string d]] w fun e w' => e = .returned (.tuple #[.agg #[.string (tS (rval a b) (-(rval c d)) (strN (rval a b).num)), .string (tS (rval a b) (-(rval c d)) (strN (rval a b).den)), .string (tS (rval a b) (-(rval c d)) (strN (-(rval c d)).num)), .string (tS (rval a b) (-(rval c d)) (strN (-(rval c d)).den))], .int .i64 (toldE (rval a b) (-(rval c d)))]) ∧ Kp0 w w' := by
 obtain ⟨s1, s2⟩ := smC_rval h1; go_enter Tryz.func40, Tryz.ntmps40; go_wp2_with (first | (go_at_call 75; (with_reducible refine Calls.mono (gaOneOk h1) ?_); rintro e wc ⟨i, j, rfl, _, _, _⟩) | (go_at_call 88; (with_reducible refine Calls.mono (gaConjC (by decide) (by decide)) ?_); rintro e wc ⟨_, _, rfl, _, _, _⟩) | (go_at_call 57; (with_reducible refine Calls.mono (gaToldC (by decide) (by decide)) ?_); rintro e wc ⟨rfl, _⟩))
 refine ret_cell_tmp rfl rfl rfl (by rfl) (by rfl) (by rfl) ?_
 exact ⟨rfl, ⟨Gr.out⟩⟩
def tellE (x : _root_.Rat) : Int := if longN x.num || longN x.den then 4 else 0
def rS (x : _root_.Rat) (s : ByteArray) : ByteArray := if tellE x = 0 then s else ⟨#[]⟩
theorem tellE_4 {x : _root_.Rat} (h : 16384 < (afterS (strN x.num)).size ∨ 16384 < (afterS (strN x.den)).size) : tellE x = 4 := by
 unfold tellE longN; rw [if_pos]; simp only [Bool.or_eq_true, decide_eq_true_eq]; omega
theorem tellE_0 {x : _root_.Rat} (h1 : ¬ 16384 < (afterS (strN x.num)).size) (h2 : ¬ 16384 < (afterS (strN x.den)).size) : tellE x = 0 := by
 unfold tellE longN; rw [if_neg]; simp only [Bool.or_eq_true, decide_eq_true_eq]; omega
theorem gaNormBad {a b c d : ByteArray} {w : World} [sa : SzC a] [sb : SzC b] [sc : SzC c] [sd : SzC d] [hv : VrB w] {E : Int} (h : checkE a b c d = E) (h0 : E ≠ 0) :
 Calls Tryz.prog 39 #[.agg #[.string a, .string b, .string c, .string d]] w fun e w' => e = .returned (.tuple #[.agg #[.string ⟨#[]⟩, .string ⟨#[]⟩], .int .i64 E]) ∧ Kp0 w w' := by
 have b1 : (E != 0) = true := bne_iff_ne.2 h0; go_enter Tryz.func39, Tryz.ntmps39; go_wp2_with ((go_at_call 75; (with_reducible refine Calls.mono (gaOneBad h h0) ?_); rintro e wc ⟨rfl, _⟩))
 refine ret_cell_tmp rfl rfl rfl (by rfl) (by rfl) (by rfl) ?_
 exact ⟨rfl, ⟨Gr.out⟩⟩
theorem gaNormOk {a b c d : ByteArray} {w : World} [sa : SzC a] [sb : SzC b] [sc : SzC c] [sd : SzC d] [hv : VrB w] (h1 : checkE a b c d = 0) :
 Calls Tryz.prog 39 #[.agg #[.string a, .string b, .string c, .string d]] w fun e w' => e = .returned (.tuple #[.agg #[.string (rS ((rval a b) * (rval a b) - (rval c d) * -(rval c d)) (strN ((rval a b) * (rval a b) - (rval c d) * -(rval c d)).num)), .string (rS ((rval a b) * (rval a b) - (rval c d) * -(rval c d)) (strN ((rval a b) * (rval a b) - (rval c d) * -(rval c d)).den))], .int .i64 (tellE ((rval a b) * (rval a b) - (rval c d) * -(rval c d)))]) ∧ Kp0 w w' := by
 obtain ⟨s1, s2⟩ := smC_rval h1; obtain ⟨L, hL, sN⟩ : ∃ L, L ≤ 67108864 ∧ SmC ((rval a b) * (rval a b) - (rval c d) * -(rval c d)) L := ⟨_, by decide, inferInstance⟩
 obtain ⟨N, hN⟩ : ∃ N, N = (rval a b) * (rval a b) - (rval c d) * -(rval c d) := ⟨_, rfl⟩; rw [← hN] at sN ⊢; have LG0 := hid (fun v : World => blong (strN N.num) (strN_size (Nat.le_trans sN.out.1 hL) (Nat.le_refl _)) v)
 have LG1 := hid (fun v : World => blong (strN N.den) (strN_size (n := (N.den : Int)) (Nat.le_trans sN.out.2 hL) (Nat.le_refl _)) v)
 have TL := hid (fun h => tellE_4 (x := N) h)
 have T0 := hid (fun h1 h2 => tellE_0 (x := N) h1 h2)
 have NM := hid hN; have SN := hid hL; clear hN hL; generalize (afterS (strN N.num)).size = z0 at *; generalize (afterS (strN (N.den : Int))).size = z1 at *; by_cases n0 : 16384 < z0
 · have i0 : (16384 : Int) < (z0 : Int) := by omega
   have HL := hid n0; clear n0; go_enter Tryz.func39, Tryz.ntmps39; go_wp2_with (first | (go_at_call 75; (with_reducible refine Calls.mono (gaOneOk h1) ?_); rintro e wc ⟨i, j, rfl, _, _, _⟩) | (go_at_call 84; (with_reducible refine Calls.mono (gaNormC (by decide) (by decide)) ?_); rintro e wc ⟨q, rfl, hq, _⟩; rw [← NM.out] at hq; haveI := hq) | (go_at_call 89; (with_reducible refine Calls.mono (btellC (r := N) SN.out) ?_); rintro e wc ⟨rfl, _⟩) | (go_at_call 90; (with_reducible refine (LG0.out _).mono ?_); rintro e w' ⟨rfl, hw⟩; obtain rfl := hw.symm) | (go_at_call 90; (with_reducible refine (LG1.out _).mono ?_); rintro e w' ⟨rfl, hw⟩; obtain rfl := hw.symm))
   refine ret_cell_tmp rfl rfl rfl (by rfl) (by rfl) (by rfl) ?_
   have hE : tellE N = 4 := TL.out (Or.inl HL.out)
   have hf : ∀ s, rS N s = ⟨#[]⟩ := fun s => by
    unfold rS; rw [hE]; rfl
   refine ⟨?_, ⟨Gr.out⟩⟩
   rw [hf, hf, hE]; rfl
 · have i0 : ¬ (16384 : Int) < (z0 : Int) := by omega
   have HN0 := hid n0; clear n0; by_cases n1 : 16384 < z1
   · have i1 : (16384 : Int) < (z1 : Int) := by omega
     have HL := hid n1; clear n1; go_enter Tryz.func39, Tryz.ntmps39; go_wp2_with (first | (go_at_call 75; (with_reducible refine Calls.mono (gaOneOk h1) ?_); rintro e wc ⟨i, j, rfl, _, _, _⟩) | (go_at_call 84; (with_reducible refine Calls.mono (gaNormC (by decide) (by decide)) ?_); rintro e wc ⟨q, rfl, hq, _⟩; rw [← NM.out] at hq; haveI := hq) | (go_at_call 89; (with_reducible refine Calls.mono (btellC (r := N) SN.out) ?_); rintro e wc ⟨rfl, _⟩) | (go_at_call 90; (with_reducible refine (LG0.out _).mono ?_); rintro e w' ⟨rfl, hw⟩; obtain rfl := hw.symm) | (go_at_call 90; (with_reducible refine (LG1.out _).mono ?_); rintro e w' ⟨rfl, hw⟩; obtain rfl := hw.symm))
     refine ret_cell_tmp rfl rfl rfl (by rfl) (by rfl) (by rfl) ?_
     have hE : tellE N = 4 := TL.out (Or.inr HL.out)
     have hf : ∀ s, rS N s = ⟨#[]⟩ := fun s => by
      unfold rS; rw [hE]; rfl
     refine ⟨?_, ⟨Gr.out⟩⟩
     rw [hf, hf, hE]; rfl
   · have i1 : ¬ (16384 : Int) < (z1 : Int) := by omega
     have HL := hid n1; clear n1; go_enter Tryz.func39, Tryz.ntmps39; go_wp2_with (first | (go_at_call 75; (with_reducible refine Calls.mono (gaOneOk h1) ?_); rintro e wc ⟨i, j, rfl, _, _, _⟩) | (go_at_call 84; (with_reducible refine Calls.mono (gaNormC (by decide) (by decide)) ?_); rintro e wc ⟨q, rfl, hq, _⟩; rw [← NM.out] at hq; haveI := hq) | (go_at_call 89; (with_reducible refine Calls.mono (btellC (r := N) SN.out) ?_); rintro e wc ⟨rfl, _⟩) | (go_at_call 90; (with_reducible refine (LG0.out _).mono ?_); rintro e w' ⟨rfl, hw⟩; obtain rfl := hw.symm) | (go_at_call 90; (with_reducible refine (LG1.out _).mono ?_); rintro e w' ⟨rfl, hw⟩; obtain rfl := hw.symm))
     refine ret_cell_tmp rfl rfl rfl (by rfl) (by rfl) (by rfl) ?_
     have hE : tellE N = 0 := T0.out HN0.out HL.out
     have hf : ∀ s, rS N s = s := fun s => by
      unfold rS; rw [hE]; rfl
     refine ⟨?_, ⟨Gr.out⟩⟩
     rw [hf, hf, hE]; rfl
theorem gaSameBad {a b c d a' b' c' d' : ByteArray} {w : World} [sa : SzC a] [sb : SzC b] [sc : SzC c] [sd : SzC d] [sa' : SzC a'] [sb' : SzC b'] [sc' : SzC c'] [sd' : SzC d'] [hv : VrB w] {E : Int} (h : twoC a b c d a' b' c' d' = E) (h0 : E ≠ 0) :
 Calls Tryz.prog 37 #[.agg #[.string a, .string b, .string c, .string d], .agg #[.string a', .string b', .string c', .string d']] w fun e w' => e = .returned (.tuple #[.bool false, .int .i64 E]) ∧ Kp0 w w' := by
 have b1 : (E != 0) = true := bne_iff_ne.2 h0; go_enter Tryz.func37, Tryz.ntmps37; go_wp2_with ((go_at_call 83; (with_reducible refine Calls.mono (gaTwoBad (a := a) (b := b) (c := c) (d := d) (a' := a') (b' := b') (c' := c') (d' := d') h h0) ?_); rintro e wc ⟨_, _, _, _, rfl, _⟩))
 go_ret2
 exact ⟨rfl, ⟨Gr.out⟩⟩
theorem gaSameOk {a b c d a' b' c' d' : ByteArray} {w : World} [sa : SzC a] [sb : SzC b] [sc : SzC c] [sd : SzC d] [sa' : SzC a'] [sb' : SzC b'] [sc' : SzC c'] [sd' : SzC d'] [hv : VrB w] (h1 : checkE a b c d = 0) (h2 : checkE a' b' c' d' = 0) :
 Calls Tryz.prog 37 #[.agg #[.string a, .string b, .string c, .string d], .agg #[.string a', .string b', .string c', .string d']] w fun e w' => e = .returned (.tuple #[.bool (decide (a = a' ∧ b = b' ∧ c = c' ∧ d = d')), .int .i64 0]) ∧ Kp0 w w' := by
 by_cases e0 : a = a'
 · subst e0; by_cases e1 : b = b'
   · subst e1; by_cases e2 : c = c'
     · subst e2; by_cases e3 : d = d'
       · subst e3; have HQ : Hid (decide (a = a ∧ b = b ∧ c = c ∧ d = d) = true) := hid (decide_eq_true ⟨rfl, rfl, rfl, rfl⟩); go_enter Tryz.func37, Tryz.ntmps37; go_wp2_with (first | (go_at_call 83; (with_reducible refine Calls.mono (gaTwoOk h1 h2) ?_); rintro e wc ⟨i, j, i', j', rfl, _, _, _, _, _⟩))
         go_ret2
         exact ⟨by rw [HQ.out]; rfl, ⟨Gr.out⟩⟩
       · have HQ : Hid (decide (a = a ∧ b = b ∧ c = c ∧ d = d') = false) := hid (decide_eq_false (fun h => e3 h.2.2.2))
         have n3 := str_ne e3; clear e3; go_enter Tryz.func37, Tryz.ntmps37; go_wp2_with (first | (go_at_call 83; (with_reducible refine Calls.mono (gaTwoOk h1 h2) ?_); rintro e wc ⟨i, j, i', j', rfl, _, _, _, _, _⟩))
         go_ret2
         exact ⟨by rw [HQ.out]; rfl, ⟨Gr.out⟩⟩
     · have HQ : Hid (decide (a = a ∧ b = b ∧ c = c' ∧ d = d') = false) := hid (decide_eq_false (fun h => e2 h.2.2.1))
       have n2 := str_ne e2; clear e2; go_enter Tryz.func37, Tryz.ntmps37; go_wp2_with (first | (go_at_call 83; (with_reducible refine Calls.mono (gaTwoOk h1 h2) ?_); rintro e wc ⟨i, j, i', j', rfl, _, _, _, _, _⟩))
       go_ret2
       exact ⟨by rw [HQ.out]; rfl, ⟨Gr.out⟩⟩
   · have HQ : Hid (decide (a = a ∧ b = b' ∧ c = c' ∧ d = d') = false) := hid (decide_eq_false (fun h => e1 h.2.1))
     have n1 := str_ne e1; clear e1; go_enter Tryz.func37, Tryz.ntmps37; go_wp2_with (first | (go_at_call 83; (with_reducible refine Calls.mono (gaTwoOk h1 h2) ?_); rintro e wc ⟨i, j, i', j', rfl, _, _, _, _, _⟩))
     go_ret2
     exact ⟨by rw [HQ.out]; rfl, ⟨Gr.out⟩⟩
 · have HQ : Hid (decide (a = a' ∧ b = b' ∧ c = c' ∧ d = d') = false) := hid (decide_eq_false (fun h => e0 h.1))
   have n0 := str_ne e0; clear e0; go_enter Tryz.func37, Tryz.ntmps37; go_wp2_with (first | (go_at_call 83; (with_reducible refine Calls.mono (gaTwoOk h1 h2) ?_); rintro e wc ⟨i, j, i', j', rfl, _, _, _, _, _⟩))
   go_ret2
   exact ⟨by rw [HQ.out]; rfl, ⟨Gr.out⟩⟩
end Go.Proofs.YthjeejnggpjnjaaGreatDoor
