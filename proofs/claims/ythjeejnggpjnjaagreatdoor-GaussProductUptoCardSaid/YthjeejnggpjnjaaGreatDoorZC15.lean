/- A part: AX, AZ, BA, BB, BC, BJ. -/
import Derived.Test.YthjeejnggpjnjaaGreatDoorZC14
import Derived.Laws.ResultCell
import Derived.Laws.Rows
set_option linter.unusedSimpArgs false
set_option linter.unusedVariables false
set_option maxRecDepth 100000
set_option maxHeartbeats 16000000
set_option synthInstance.maxHeartbeats 2000000
set_option synthInstance.maxSize 100000
namespace Go.Proofs.YthjeejnggpjnjaaGreatDoor
open Go.RowKit
def sameT (n d : ByteArray) : Bool := decide (n.data.toList = itext (rval n d).num) && decide (d.data.toList = itext (rval n d).den)
def checkE (a b c d : ByteArray) : Int :=
 if textE a false ≠ 0 then textE a false else if textE b true ≠ 0 then textE b true
 else if textE c false ≠ 0 then textE c false else if textE d true ≠ 0 then textE d true
 else if sameT a b = true ∧ sameT c d = true then 0 else 30
theorem mkRat_small (x : Int) (d : Nat) (h : d ≠ 0) : (mkRat x d).num.natAbs ≤ x.natAbs ∧ (mkRat x d).den ≤ d := by
 rw [Rat.num_mkRat, Rat.den_mkRat, if_neg h, if_neg h]
 constructor
 · rw [Int.natAbs_ediv_of_dvd]
   · exact Nat.div_le_self _ _
   · exact Int.ofNat_dvd_left.2 (Nat.gcd_dvd_right _ _)
 · exact Nat.div_le_self _ _
theorem rval_small {n d : ByteArray} (h : okT n d) : (words (rval n d).num.natAbs).length ≤ 16384 ∧ (words (rval n d).den).length ≤ 16384 := by
 obtain ⟨h1, h2⟩ := h; obtain ⟨l1, d1, -⟩ := textE_ok h1; obtain ⟨l2, d2, d3⟩ := textE_ok h2; obtain ⟨d4, d5⟩ := d3 rfl; have n0 := dval_ne0 d2 d5; have i1 := dval_lt (digB_isdig d1).1; have i2 := dval_lt (digB_isdig d2).1; rw [← bytes_len _ _ rfl] at i1 i2; have m := mkRat_small (ival n) _ n0; rw [ival_abs] at m; exact ⟨Nat.le_trans (dec_len (Nat.lt_of_le_of_lt m.1 i1)) l1, Nat.le_trans (dec_len (Nat.lt_of_le_of_lt m.2 i2)) l2⟩
theorem info80 : (Tryz.prog.info? 80).map (fun i => (i.zero, i.size, i.bytes)) = some (some (.pointer none), 1, 8) := by kernel_rfl
theorem und137 : Tryz.prog.underlying 137 = some (.slice 80) := by kernel_rfl
theorem make_two {ops : Array Oper} {rest : List Oper} {o : Oper} {a : Act} {Q : Exit → Act → World → Prop} (w : World) (hg : o.guard = none) (l c : Operand) (hop : o.op = Op.makeSlice 137 l c)
 (hl : a.eval l = .int .i64 2) (hc : a.eval c = .int .i64 2)
 (hK : ∀ w1, Bk w1 w.heap.size [.pointer none, .pointer none] 80 → Below w.heap.size w w1 → wpList Tryz.prog ops Q rest (a.put o.dst (.slice (some ⟨w.heap.size, 0, none⟩) 2 2)) w1) :
 wpList Tryz.prog ops Q (o :: rest) a w := by
 obtain ⟨ti, hti, htz, hts, htb⟩ := info_parts info80; refine wpList_make_full w hg l c 137 hop w.heap.size 80 ti _ 1 und137 hti htz hts .i64 .i64 2 2 2 hl hc rfl rfl (by rw [htb]; omega) (by unfold maxLen; omega) (Nat.le_refl _) (fun w1 hown hgrow => ?_)
 refine hK w1 ?_ (Keeps.below ⟨hgrow.os, hgrow.tape, hgrow.output, hgrow.size, fun k hk _ => hgrow.block k hk (by simp)⟩)
 rcases hown.2 with ⟨h0, -⟩ | ⟨k, cap, cur, he, hgk, hb, h1, h2, h3, h4⟩
 · cases h0
 · simp only [Value.slice.injEq, Option.some.injEq, Addr.mk.injEq] at he; obtain ⟨⟨rfl, -, -⟩, -, rfl⟩ := he; rw [show (Value.pointer none).cells = #[Value.pointer none] from rfl, toList_madeCells_one, List.take_of_length_le (by rw [Array.length_toList, h3]; exact Nat.le_refl _)] at h4
   refine ⟨?_, by decide⟩
   rw [hb]
   have e : cur = #[Value.pointer none, Value.pointer none] := by
    rw [← Array.toList_inj, h4]; rfl
   rw [e]
theorem str_ne {s t : ByteArray} (h : ¬ s = t) : (s.toList == t.toList) = false := by
 rw [ByteArray.toList_eq, ByteArray.toList_eq]; exact beq_eq_false_iff_ne.2 (fun e => h (ByteArray.ext (Array.toList_inj.1 e)))
theorem same_iff (n d : ByteArray) : sameT n d = true ↔ (⟨(itext (rval n d).num).toArray⟩ : ByteArray) = n ∧ (⟨(itext (rval n d).den).toArray⟩ : ByteArray) = d := by
 have h : ∀ (t : ByteArray) (L : List UInt8), t.data.toList = L ↔ (⟨L.toArray⟩ : ByteArray) = t := by
  intro t L
  constructor
  · intro e; subst e; rfl
  · intro e; subst e; rfl
 unfold sameT; rw [Bool.and_eq_true, decide_eq_true_iff, decide_eq_true_iff, h, h]
def ReadPost (a b c d : ByteArray) (w : World) (e : Ending) (w' : World) : Prop := Below w.heap.size w w' ∧
 ((checkE a b c d ≠ 0 ∧ e = .returned (.tuple #[.slice none 0 0, .int .i64 (checkE a b c d)])) ∨
  (checkE a b c d = 0 ∧ ∃ g x y, e = .returned (.tuple #[.slice (some ⟨g, 0, none⟩) 2 2, .int .i64 0]) ∧ w.heap.size ≤ g ∧ w.heap.size ≤ x ∧ w.heap.size ≤ y ∧
    Bk w' g [.pointer (some ⟨x, 0, none⟩), .pointer (some ⟨y, 0, none⟩)] 80 ∧ Ra 88 w' x (rval a b) ∧ Ra 88 w' y (rval c d)))
theorem bread2 (g T : Nat) (a b c d : ByteArray) (w : World) (hB : Bk w g [.string a, .string b, .string c, .string d] T) (ha : a.size ≤ maxLen) (hb : b.size ≤ maxLen) (hc : c.size ≤ maxLen) (hd : d.size ≤ maxLen) (hvr : Vr w) :
 Calls Tryz.prog 91 #[.slice (some ⟨g, 0, none⟩) 2 2] w (ReadPost a b c d w) := by
 have T1 := hid (btext139 a false ha); have T2 := hid (btext139 b true hb); have T3 := hid (btext139 c false hc); have T4 := hid (btext139 d true hd); obtain ⟨E1, h1⟩ : ∃ E, E = textE a false := ⟨_, rfl⟩; obtain ⟨E2, h2⟩ : ∃ E, E = textE b true := ⟨_, rfl⟩; obtain ⟨E3, h3⟩ : ∃ E, E = textE c false := ⟨_, rfl⟩; obtain ⟨E4, h4⟩ : ∃ E, E = textE d true := ⟨_, rfl⟩; rw [← h1] at T1; rw [← h2] at T2; rw [← h3] at T3; rw [← h4] at T4; have H1 := hid h1.symm; have H2 := hid h2.symm; have H3 := hid h3.symm; have H4 := hid h4.symm; have HV := hid hvr; have FR1 := hid (fun (ok : okT a b) (v : World) (q : Below w.heap.size w v) => bfraction a b v ok (hvr.below q))
 have TL1 := hid (fun (ok : okT a b) (x : Nat) (v : World) (q : Ra 88 v x (rval a b)) => btellF x (rval a b) v q (by have := rval_small ok; omega) (by have := rval_small ok; omega))
 have TL2 := hid (fun (ok : okT c d) (x : Nat) (v : World) (q : Ra 88 v x (rval c d)) => btellF x (rval c d) v q (by have := rval_small ok; omega) (by have := rval_small ok; omega))
 have FR2 := hid (fun (ok : okT c d) (v : World) (q : Below w.heap.size w v) => bfraction c d v ok (hvr.below q))
 obtain ⟨A1, hA1⟩ : ∃ A, A = (⟨(itext (rval a b).num).toArray⟩ : ByteArray) := ⟨_, rfl⟩; obtain ⟨A2, hA2⟩ : ∃ A, A = (⟨(itext (rval a b).den).toArray⟩ : ByteArray) := ⟨_, rfl⟩; obtain ⟨A3, hA3⟩ : ∃ A, A = (⟨(itext (rval c d).num).toArray⟩ : ByteArray) := ⟨_, rfl⟩; obtain ⟨A4, hA4⟩ : ∃ A, A = (⟨(itext (rval c d).den).toArray⟩ : ByteArray) := ⟨_, rfl⟩; rw [← hA1, ← hA2] at TL1; rw [← hA3, ← hA4] at TL2; have HA1 := hid hA1; have HA2 := hid hA2; have HA3 := hid hA3; have HA4 := hid hA4; clear hA1 hA2 hA3 hA4; clear h1 h2 h3 h4 hvr ha hb hc hd; haveI : Has w g := ⟨hB.lt⟩; have hB := hid hB; go_enter Tryz.func91, Tryz.ntmps91; go_wp2_with fail
 go_loopw [13] (fun s13 wr => ∃ j : Nat, s13 = .int .i64 j ∧ j ≤ 2 ∧ Below w.heap.size w wr ∧ Hid (1 ≤ j → E1 = 0 ∧ E2 = 0) ∧ Hid (2 ≤ j → E3 = 0 ∧ E4 = 0)) (fun s13 _ => 2 - (intOf s13).toNat)
 case atStart => exact ⟨0, rfl, by omega, Below.refl _ _, hid (fun h => absurd h (by decide)), hid (fun h => absurd h (by decide))⟩
 case round =>
  obtain ⟨j, rfl, hj, hb, hF1, hF2⟩ := hrel; have hBw := hB.out.below hb; have c0 := hBw.cell (i := 0) rfl; have c1 := hBw.cell (i := 1) rfl; have c2 := hBw.cell (i := 2) rfl; have c3 := hBw.cell (i := 3) rfl; haveI : Has wr g := ⟨hBw.lt⟩; clear hBw; by_cases j0 : j = 0
  · subst j0; by_cases e1 : E1 = 0
    · by_cases e2 : E2 = 0
      · have b1 : (E1 != 0) = false := by rw [e1]; rfl
        have b2 : (E2 != 0) = false := by rw [e2]; rfl
        have HG : Hid (E1 = 0 ∧ E2 = 0) := hid ⟨e1, e2⟩; have HB := hid (((hb.alloc hb.size (.cells #[.string a, .string b] 31)))); clear e1 e2; go_wp2_with first | (go_at_call 139; (with_reducible refine (T1.out _).mono ?_); rintro e w' ⟨rfl, hw⟩; obtain rfl := hw.symm) | (go_at_call 139; (with_reducible refine (T2.out _).mono ?_); rintro e w' ⟨rfl, hw⟩; obtain rfl := hw.symm)
        go_round
        case rel => exact ⟨1, by go_num, by omega, HB.out, hid (fun _ => HG.out), hid (fun h => absurd h (by decide))⟩
        case measure => simp [intOf]
      · have b1 : (E1 != 0) = false := by rw [e1]; rfl
        have b2 : (E2 != 0) = true := bne_iff_ne.2 e2; have HR : Hid (checkE a b c d = E2) := hid (by unfold checkE; rw [H1.out, H2.out, H3.out, H4.out]; simp only [e1, ne_eq, not_true_eq_false, if_false]; rw [if_pos e2])
        have HN := hid e2; have HB := hid (((hb.alloc hb.size (.cells #[.string a, .string b] 31)))); clear e1 e2; go_wp2_with first | (go_at_call 139; (with_reducible refine (T1.out _).mono ?_); rintro e w' ⟨rfl, hw⟩; obtain rfl := hw.symm) | (go_at_call 139; (with_reducible refine (T2.out _).mono ?_); rintro e w' ⟨rfl, hw⟩; obtain rfl := hw.symm)
        go_ret2
        exact ⟨HB.out, .inl ⟨by rw [HR.out]; exact HN.out, by rw [HR.out]; rfl⟩⟩
    · have b1 : (E1 != 0) = true := bne_iff_ne.2 e1; have HR : Hid (checkE a b c d = E1) := hid (by unfold checkE; rw [H1.out, H2.out, H3.out, H4.out]; rw [if_pos e1])
      have HN := hid e1; have HB := hid (((hb.alloc hb.size (.cells #[.string a, .string b] 31)))); clear e1; go_wp2_with first | (go_at_call 139; (with_reducible refine (T1.out _).mono ?_); rintro e w' ⟨rfl, hw⟩; obtain rfl := hw.symm) | (go_at_call 139; (with_reducible refine (T2.out _).mono ?_); rintro e w' ⟨rfl, hw⟩; obtain rfl := hw.symm)
      go_ret2
      exact ⟨HB.out, .inl ⟨by rw [HR.out]; exact HN.out, by rw [HR.out]; rfl⟩⟩
  by_cases j1 : j = 1
  · subst j1; by_cases e3 : E3 = 0
    · by_cases e4 : E4 = 0
      · have b1 : (E3 != 0) = false := by rw [e3]; rfl
        have b2 : (E4 != 0) = false := by rw [e4]; rfl
        have HG : Hid (E3 = 0 ∧ E4 = 0) := hid ⟨e3, e4⟩; have HB := hid (((hb.alloc hb.size (.cells #[.string c, .string d] 31)))); clear e3 e4; go_wp2_with first | (go_at_call 139; (with_reducible refine (T3.out _).mono ?_); rintro e w' ⟨rfl, hw⟩; obtain rfl := hw.symm) | (go_at_call 139; (with_reducible refine (T4.out _).mono ?_); rintro e w' ⟨rfl, hw⟩; obtain rfl := hw.symm)
        go_round
        case rel => exact ⟨2, by go_num, by omega, HB.out, hid (fun _ => hF1.out (by decide)), hid (fun _ => HG.out)⟩
        case measure => simp [intOf]
      · have b1 : (E3 != 0) = false := by rw [e3]; rfl
        have b2 : (E4 != 0) = true := bne_iff_ne.2 e4; have HR : Hid (checkE a b c d = E4) := hid (by unfold checkE; rw [H1.out, H2.out, H3.out, H4.out]; simp only [(hF1.out (by decide)).1, (hF1.out (by decide)).2, e3, ne_eq, not_true_eq_false, if_false]; rw [if_pos e4])
        have HN := hid e4; have HB := hid (((hb.alloc hb.size (.cells #[.string c, .string d] 31)))); clear e3 e4; go_wp2_with first | (go_at_call 139; (with_reducible refine (T3.out _).mono ?_); rintro e w' ⟨rfl, hw⟩; obtain rfl := hw.symm) | (go_at_call 139; (with_reducible refine (T4.out _).mono ?_); rintro e w' ⟨rfl, hw⟩; obtain rfl := hw.symm)
        go_ret2
        exact ⟨HB.out, .inl ⟨by rw [HR.out]; exact HN.out, by rw [HR.out]; rfl⟩⟩
    · have b1 : (E3 != 0) = true := bne_iff_ne.2 e3; have HR : Hid (checkE a b c d = E3) := hid (by unfold checkE; rw [H1.out, H2.out, H3.out, H4.out]; simp only [(hF1.out (by decide)).1, (hF1.out (by decide)).2, ne_eq, not_true_eq_false, if_false]; rw [if_pos e3])
      have HN := hid e3; have HB := hid (((hb.alloc hb.size (.cells #[.string c, .string d] 31)))); clear e3; go_wp2_with first | (go_at_call 139; (with_reducible refine (T3.out _).mono ?_); rintro e w' ⟨rfl, hw⟩; obtain rfl := hw.symm) | (go_at_call 139; (with_reducible refine (T4.out _).mono ?_); rintro e w' ⟨rfl, hw⟩; obtain rfl := hw.symm)
      go_ret2
      exact ⟨HB.out, .inl ⟨by rw [HR.out]; exact HN.out, by rw [HR.out]; rfl⟩⟩
  obtain rfl : j = 2 := by omega
  have HOK : Hid (okT a b ∧ okT c d) := hid ⟨⟨H1.out.trans (hF1.out (by decide)).1, H2.out.trans (hF1.out (by decide)).2⟩, ⟨H3.out.trans (hF2.out (by decide)).1, H4.out.trans (hF2.out (by decide)).2⟩⟩
  have Hb := hid hb; clear hb hF1 hF2 hj j0 j1; go_wp2_with (at_make; refine make_two _ (by rfl) _ _ (by rfl) (by rfl) (by rfl) ?_; intro wq hBq hbq)
  have Hq := hid (Below.trans Hb.out (below_low hbq Hb.out.size)); have HBq := hid hBq; have HG := hid Hb.out.size; clear hBq hbq; obtain ⟨G, hG⟩ : ∃ G, G = wr.heap.size := ⟨_, rfl⟩; have HGE := hid hG; rw [← hG] at HBq HG; rw [← hG]; clear hG; go_loopw [35] (fun s35 wx => ∃ (j : Nat) (p0 p1 : Value), s35 = .int .i64 j ∧ j ≤ 2 ∧ Bk wx G [p0, p1] 80 ∧ Below w.heap.size w wx ∧ Hid (1 ≤ j → ∃ x, p0 = .pointer (some ⟨x, 0, none⟩) ∧ w.heap.size ≤ x ∧ Ra 88 wx x (rval a b) ∧ sameT a b = true) ∧ Hid (2 ≤ j → ∃ x, p1 = .pointer (some ⟨x, 0, none⟩) ∧ w.heap.size ≤ x ∧ Ra 88 wx x (rval c d) ∧ sameT c d = true)) (fun s35 _ => 2 - (intOf s35).toNat)
  case atStart => exact ⟨0, _, _, rfl, by omega, HBq.out, Hq.out, hid (fun h => absurd h (by decide)), hid (fun h => absurd h (by decide))⟩
  case round =>
   obtain ⟨j, p0, p1, rfl, hj, hBx, hb, hF1, hF2⟩ := hrel; have hBw := hB.out.below hb; have c0 := hBw.cell (i := 0) rfl; have c1 := hBw.cell (i := 1) rfl; have c2 := hBw.cell (i := 2) rfl; have c3 := hBw.cell (i := 3) rfl; haveI : Has wr g := ⟨hBw.lt⟩; clear hBw; by_cases j0 : j = 0
   · subst j0; have Hb2 := hid (hb.alloc hb.size (.cells #[.string a, .string b] 31)); have HB2 : Hid (Bk (wr.alloc (.cells #[.string a, .string b] 31)) wr.heap.size [.string a, .string b] 31) := hid ⟨by rw [block_at], by decide⟩
     have HG2 := hid (hBx.below ((Below.refl wr.heap.size wr).alloc (Nat.le_refl _) (.cells #[.string a, .string b] 31))); clear hBx hb hF1 hF2; go_upto_region 16 with (go_at_call 140; (with_reducible refine (FR1.out HOK.out.1 _ Hb2.out).mono ?_); rintro e w3 ⟨x, rfl, hx3, hR3, hb3⟩; have HB3 := hid (HB2.out.below hb3); have hG3 := HG2.out.below hb3; have HG3 := hid hG3; have g0 := hG3.cell (i := 0) rfl; have f0 := hG3.free 0; haveI : Has w3 G := ⟨hG3.lt⟩; have HR3 := hid hR3; have Hb3 := hid (Below.trans Hb2.out (below_low hb3 Hb2.out.size)); have HX3 := hid (Nat.le_trans Hb2.out.size hx3); clear hx3 hR3 hb3 hG3)
     have K4 : Hid (Keeps w3.heap.size [G] w3 (w3.setCell ⟨G, 0, none⟩ (.pointer (some ⟨x, 0, none⟩)))) := hid ((Keeps.refl w3.heap.size [G] w3).set (Or.inl (by simp)) 0 (.pointer (some ⟨x, 0, none⟩)))
     have hxG : x ≠ G := by obtain ⟨v, d, hbv, -, -⟩ := HR3.out; exact hbv.ne HG3.out (by decide)
     have HR4 := hid (HR3.out.keep HG3.out K4.out hxG); have HG4 : Hid (Bk (w3.setCell ⟨G, 0, none⟩ (.pointer (some ⟨x, 0, none⟩))) G [.pointer (some ⟨x, 0, none⟩), p1] 80) := hid (HG3.out.set 0 (.pointer (some ⟨x, 0, none⟩))); have hng : wr.heap.size ≠ G := HB3.out.ne HG3.out (by decide)
     have HB4 := hid (HB3.out.keep K4.out (Nat.le_refl _) (by simpa using hng))
     have Hb4 : Hid (Below w.heap.size w (w3.setCell ⟨G, 0, none⟩ (.pointer (some ⟨x, 0, none⟩)))) := hid (below_store Hb3.out HG.out); clear HR3 HG3 HB3 Hb3 g0 f0 K4 hxG hng; generalize w3.setCell ⟨G, 0, none⟩ (.pointer (some ⟨x, 0, none⟩)) = w4 at *; have g0 := HG4.out.cell (i := 0) rfl; have d0 := HB4.out.cell (i := 0) rfl; have d1 := HB4.out.cell (i := 1) rfl; haveI : Has w4 G := ⟨HG4.out.lt⟩; haveI : Has w4 wr.heap.size := ⟨HB4.out.lt⟩; by_cases n1 : A1 = a
     · by_cases n2 : A2 = b
       · have HS : Hid (sameT a b = true) := hid ((same_iff a b).2 ⟨HA1.out.symm.trans n1, HA2.out.symm.trans n2⟩); rw [n1, n2] at TL1; clear n1 n2; go_region_held3 (fun W => W.cell? ⟨wr.heap.size, 0, none⟩ = some (.string a) ∧ W.cell? ⟨wr.heap.size, 1, none⟩ = some (.string b) ∧ W.cell? ⟨G, 0, none⟩ = some (.pointer (some ⟨x, 0, none⟩))) (refine ⟨?_, ?_, ?_⟩ <;> (first | assumption | (simp [go_sem, *]; done))) ((go_at_call 89; (with_reducible refine (TL1.out HOK.out.1 x _ (HR4.out.below (Below.drew (Below.refl _ _)))).mono ?_); rintro e w5 ⟨rfl, hb5⟩; have hq5 := Below.trans (Below.drew (Below.refl w4.heap.size w4)) hb5; have g5 := (HG4.out.below hq5).cell (i := 0) rfl; have d50 := (HB4.out.below hq5).cell (i := 0) rfl; have d51 := (HB4.out.below hq5).cell (i := 1) rfl; haveI : Has w5 G := ⟨(HG4.out.below hq5).lt⟩; haveI : Has w5 wr.heap.size := ⟨(HB4.out.below hq5).lt⟩; have HQ5 := hid hq5; clear hb5 hq5))
         go_wp2_with fail
         go_round
         case rel => exact ⟨1, _, _, by go_num, by omega, HG4.out.below HQ5.out, Below.trans Hb4.out (below_low HQ5.out Hb4.out.size), hid (fun _ => ⟨x, rfl, HX3.out, HR4.out.below HQ5.out, HS.out⟩), hid (fun h => absurd h (by decide))⟩
         case measure => simp [intOf]
       · have m1 := n1; clear n1; have n1 := n2; clear n2
         have HC : Hid (checkE a b c d = 30) := hid (by
          unfold checkE; have h := HOK.out; rw [h.1.1, h.1.2, h.2.1, h.2.2, if_neg (by decide), if_neg (by decide), if_neg (by decide), if_neg (by decide), if_neg]
          intro hh; have := (same_iff a b).1 hh.1; rw [← HA1.out, ← HA2.out] at this
          first
           | exact n1 this.1
           | exact n1 this.2)
         rw [m1] at TL1; clear m1; have n2 := str_ne n1; go_region_held3 (fun W => W.cell? ⟨wr.heap.size, 0, none⟩ = some (.string a) ∧ W.cell? ⟨wr.heap.size, 1, none⟩ = some (.string b) ∧ W.cell? ⟨G, 0, none⟩ = some (.pointer (some ⟨x, 0, none⟩))) (refine ⟨?_, ?_, ?_⟩ <;> (first | assumption | (simp [go_sem, *]; done))) ((go_at_call 89; (with_reducible refine (TL1.out HOK.out.1 x _ (HR4.out.below (Below.drew (Below.refl _ _)))).mono ?_); rintro e w5 ⟨rfl, hb5⟩; have hq5 := Below.trans (Below.drew (Below.refl w4.heap.size w4)) hb5; have g5 := (HG4.out.below hq5).cell (i := 0) rfl; have d50 := (HB4.out.below hq5).cell (i := 0) rfl; have d51 := (HB4.out.below hq5).cell (i := 1) rfl; haveI : Has w5 G := ⟨(HG4.out.below hq5).lt⟩; haveI : Has w5 wr.heap.size := ⟨(HB4.out.below hq5).lt⟩; have HQ5 := hid hq5; clear hb5 hq5))
         go_wp2_with fail
         go_ret2
         exact ⟨Below.trans Hb4.out (below_low HQ5.out Hb4.out.size), .inl ⟨by rw [HC.out]; decide, by rw [HC.out]; rfl⟩⟩
     · have HC : Hid (checkE a b c d = 30) := hid (by
        unfold checkE; have h := HOK.out; rw [h.1.1, h.1.2, h.2.1, h.2.2, if_neg (by decide), if_neg (by decide), if_neg (by decide), if_neg (by decide), if_neg]
        intro hh; have := (same_iff a b).1 hh.1; rw [← HA1.out, ← HA2.out] at this
        first
         | exact n1 this.1
         | exact n1 this.2)
       have n2 := str_ne n1; go_region_held3 (fun W => W.cell? ⟨wr.heap.size, 0, none⟩ = some (.string a) ∧ W.cell? ⟨wr.heap.size, 1, none⟩ = some (.string b) ∧ W.cell? ⟨G, 0, none⟩ = some (.pointer (some ⟨x, 0, none⟩))) (refine ⟨?_, ?_, ?_⟩ <;> (first | assumption | (simp [go_sem, *]; done))) ((go_at_call 89; (with_reducible refine (TL1.out HOK.out.1 x _ (HR4.out.below (Below.drew (Below.refl _ _)))).mono ?_); rintro e w5 ⟨rfl, hb5⟩; have hq5 := Below.trans (Below.drew (Below.refl w4.heap.size w4)) hb5; have g5 := (HG4.out.below hq5).cell (i := 0) rfl; have d50 := (HB4.out.below hq5).cell (i := 0) rfl; have d51 := (HB4.out.below hq5).cell (i := 1) rfl; haveI : Has w5 G := ⟨(HG4.out.below hq5).lt⟩; haveI : Has w5 wr.heap.size := ⟨(HB4.out.below hq5).lt⟩; have HQ5 := hid hq5; clear hb5 hq5))
       go_wp2_with fail
       go_ret2
       exact ⟨Below.trans Hb4.out (below_low HQ5.out Hb4.out.size), .inl ⟨by rw [HC.out]; decide, by rw [HC.out]; rfl⟩⟩
   by_cases j1 : j = 1
   · subst j1; have Hb2 := hid (hb.alloc hb.size (.cells #[.string c, .string d] 31)); have HB2 : Hid (Bk (wr.alloc (.cells #[.string c, .string d] 31)) wr.heap.size [.string c, .string d] 31) := hid ⟨by rw [block_at], by decide⟩
     have HG2 := hid (hBx.below ((Below.refl wr.heap.size wr).alloc (Nat.le_refl _) (.cells #[.string c, .string d] 31))); obtain ⟨x0, h01, h02, h03, h04⟩ := hF1.out (by decide)
     subst h01; have HF3 := hid (h03.below ((Below.refl wr.heap.size wr).alloc (Nat.le_refl _) (.cells #[.string c, .string d] 31))); have H02 := hid h02; have H04 := hid h04; clear h02 h03 h04; clear hBx hb hF1 hF2; go_upto_region 16 with (go_at_call 140; (with_reducible refine (FR2.out HOK.out.2 _ Hb2.out).mono ?_); rintro e w3 ⟨x, rfl, hx3, hR3, hb3⟩; have HB3 := hid (HB2.out.below hb3); have hG3 := HG2.out.below hb3; have HG3 := hid hG3; have g0 := hG3.cell (i := 1) rfl; have f0 := hG3.free 1; haveI : Has w3 G := ⟨hG3.lt⟩; have HR3 := hid hR3; have Hb3 := hid (Below.trans Hb2.out (below_low hb3 Hb2.out.size)); have HX3 := hid (Nat.le_trans Hb2.out.size hx3); have HF3b := hid (HF3.out.below hb3); clear hx3 hR3 hb3 hG3)
     have K4 : Hid (Keeps w3.heap.size [G] w3 (w3.setCell ⟨G, 1, none⟩ (.pointer (some ⟨x, 0, none⟩)))) := hid ((Keeps.refl w3.heap.size [G] w3).set (Or.inl (by simp)) 1 (.pointer (some ⟨x, 0, none⟩)))
     have hxG : x ≠ G := by obtain ⟨v, d, hbv, -, -⟩ := HR3.out; exact hbv.ne HG3.out (by decide)
     have HR4 := hid (HR3.out.keep HG3.out K4.out hxG); have HG4 : Hid (Bk (w3.setCell ⟨G, 1, none⟩ (.pointer (some ⟨x, 0, none⟩))) G [.pointer (some ⟨x0, 0, none⟩), .pointer (some ⟨x, 0, none⟩)] 80) := hid (HG3.out.set 1 (.pointer (some ⟨x, 0, none⟩))); have hng : wr.heap.size ≠ G := HB3.out.ne HG3.out (by decide)
     have HB4 := hid (HB3.out.keep K4.out (Nat.le_refl _) (by simpa using hng))
     have Hb4 : Hid (Below w.heap.size w (w3.setCell ⟨G, 1, none⟩ (.pointer (some ⟨x, 0, none⟩)))) := hid (below_store Hb3.out HG.out); have hx0G : x0 ≠ G := by obtain ⟨v, d, hbv, -, -⟩ := HF3b.out; exact hbv.ne HG3.out (by decide)
     have HF4 := hid (HF3b.out.keep HG3.out K4.out hx0G); clear hx0G HF3b; clear HR3 HG3 HB3 Hb3 g0 f0 K4 hxG hng; generalize w3.setCell ⟨G, 1, none⟩ (.pointer (some ⟨x, 0, none⟩)) = w4 at *; have g0 := HG4.out.cell (i := 1) rfl; have d0 := HB4.out.cell (i := 0) rfl; have d1 := HB4.out.cell (i := 1) rfl; haveI : Has w4 G := ⟨HG4.out.lt⟩; haveI : Has w4 wr.heap.size := ⟨HB4.out.lt⟩; by_cases n1 : A3 = c
     · by_cases n2 : A4 = d
       · have HS : Hid (sameT c d = true) := hid ((same_iff c d).2 ⟨HA3.out.symm.trans n1, HA4.out.symm.trans n2⟩); rw [n1, n2] at TL2; clear n1 n2; go_region_held3 (fun W => W.cell? ⟨wr.heap.size, 0, none⟩ = some (.string c) ∧ W.cell? ⟨wr.heap.size, 1, none⟩ = some (.string d) ∧ W.cell? ⟨G, 1, none⟩ = some (.pointer (some ⟨x, 0, none⟩))) (refine ⟨?_, ?_, ?_⟩ <;> (first | assumption | (simp [go_sem, *]; done))) ((go_at_call 89; (with_reducible refine (TL2.out HOK.out.2 x _ (HR4.out.below (Below.drew (Below.refl _ _)))).mono ?_); rintro e w5 ⟨rfl, hb5⟩; have hq5 := Below.trans (Below.drew (Below.refl w4.heap.size w4)) hb5; have g5 := (HG4.out.below hq5).cell (i := 1) rfl; have d50 := (HB4.out.below hq5).cell (i := 0) rfl; have d51 := (HB4.out.below hq5).cell (i := 1) rfl; haveI : Has w5 G := ⟨(HG4.out.below hq5).lt⟩; haveI : Has w5 wr.heap.size := ⟨(HB4.out.below hq5).lt⟩; have HQ5 := hid hq5; clear hb5 hq5))
         go_wp2_with fail
         go_round
         case rel => exact ⟨2, _, _, by go_num, by omega, HG4.out.below HQ5.out, Below.trans Hb4.out (below_low HQ5.out Hb4.out.size), hid (fun _ => ⟨x0, rfl, H02.out, HF4.out.below HQ5.out, H04.out⟩), hid (fun _ => ⟨x, rfl, HX3.out, HR4.out.below HQ5.out, HS.out⟩)⟩
         case measure => simp [intOf]
       · have m1 := n1; clear n1; have n1 := n2; clear n2
         have HC : Hid (checkE a b c d = 30) := hid (by
          unfold checkE; have h := HOK.out; rw [h.1.1, h.1.2, h.2.1, h.2.2, if_neg (by decide), if_neg (by decide), if_neg (by decide), if_neg (by decide), if_neg]
          intro hh; have := (same_iff c d).1 hh.2; rw [← HA3.out, ← HA4.out] at this
          first
           | exact n1 this.1
           | exact n1 this.2)
         rw [m1] at TL2; clear m1; have n2 := str_ne n1; go_region_held3 (fun W => W.cell? ⟨wr.heap.size, 0, none⟩ = some (.string c) ∧ W.cell? ⟨wr.heap.size, 1, none⟩ = some (.string d) ∧ W.cell? ⟨G, 1, none⟩ = some (.pointer (some ⟨x, 0, none⟩))) (refine ⟨?_, ?_, ?_⟩ <;> (first | assumption | (simp [go_sem, *]; done))) ((go_at_call 89; (with_reducible refine (TL2.out HOK.out.2 x _ (HR4.out.below (Below.drew (Below.refl _ _)))).mono ?_); rintro e w5 ⟨rfl, hb5⟩; have hq5 := Below.trans (Below.drew (Below.refl w4.heap.size w4)) hb5; have g5 := (HG4.out.below hq5).cell (i := 1) rfl; have d50 := (HB4.out.below hq5).cell (i := 0) rfl; have d51 := (HB4.out.below hq5).cell (i := 1) rfl; haveI : Has w5 G := ⟨(HG4.out.below hq5).lt⟩; haveI : Has w5 wr.heap.size := ⟨(HB4.out.below hq5).lt⟩; have HQ5 := hid hq5; clear hb5 hq5))
         go_wp2_with fail
         go_ret2
         exact ⟨Below.trans Hb4.out (below_low HQ5.out Hb4.out.size), .inl ⟨by rw [HC.out]; decide, by rw [HC.out]; rfl⟩⟩
     · have HC : Hid (checkE a b c d = 30) := hid (by
        unfold checkE; have h := HOK.out; rw [h.1.1, h.1.2, h.2.1, h.2.2, if_neg (by decide), if_neg (by decide), if_neg (by decide), if_neg (by decide), if_neg]
        intro hh; have := (same_iff c d).1 hh.2; rw [← HA3.out, ← HA4.out] at this
        first
         | exact n1 this.1
         | exact n1 this.2)
       have n2 := str_ne n1; go_region_held3 (fun W => W.cell? ⟨wr.heap.size, 0, none⟩ = some (.string c) ∧ W.cell? ⟨wr.heap.size, 1, none⟩ = some (.string d) ∧ W.cell? ⟨G, 1, none⟩ = some (.pointer (some ⟨x, 0, none⟩))) (refine ⟨?_, ?_, ?_⟩ <;> (first | assumption | (simp [go_sem, *]; done))) ((go_at_call 89; (with_reducible refine (TL2.out HOK.out.2 x _ (HR4.out.below (Below.drew (Below.refl _ _)))).mono ?_); rintro e w5 ⟨rfl, hb5⟩; have hq5 := Below.trans (Below.drew (Below.refl w4.heap.size w4)) hb5; have g5 := (HG4.out.below hq5).cell (i := 1) rfl; have d50 := (HB4.out.below hq5).cell (i := 0) rfl; have d51 := (HB4.out.below hq5).cell (i := 1) rfl; haveI : Has w5 G := ⟨(HG4.out.below hq5).lt⟩; haveI : Has w5 wr.heap.size := ⟨(HB4.out.below hq5).lt⟩; have HQ5 := hid hq5; clear hb5 hq5))
       go_wp2_with fail
       go_ret2
       exact ⟨Below.trans Hb4.out (below_low HQ5.out Hb4.out.size), .inl ⟨by rw [HC.out]; decide, by rw [HC.out]; rfl⟩⟩
   obtain rfl : j = 2 := by omega
   obtain ⟨x0, h01, h02, h03, h04⟩ := hF1.out (by decide)
   obtain ⟨y0, h11, h12, h13, h14⟩ := hF2.out (by decide)
   subst h01; subst h11
   have HC : Hid (checkE a b c d = 0) := hid (by
    unfold checkE; have h := HOK.out; rw [h.1.1, h.1.2, h.2.1, h.2.2, if_neg (by decide), if_neg (by decide), if_neg (by decide), if_neg (by decide), if_pos ⟨h04, h14⟩])
   have HZ : Hid (ReadPost a b c d w (.returned (.tuple #[.slice (some ⟨G, 0, none⟩) 2 2, .int .i64 0])) wr) := hid ⟨hb, .inr ⟨HC.out, G, x0, y0, rfl, HG.out, h02, h12, hBx, h03, h13⟩⟩; clear h02 h03 h04 h12 h13 h14 hBx hb hF1 hF2 hj j0 j1; go_wp2_with fail
   go_ret2
   exact HZ.out
abbrev exV (a b c d : ByteArray) : Value := .agg #[.string a, .string b, .string c, .string d]
theorem results_row_tmp {P : Program} {fn : Func} {p u : Tmp} {ty : TypeId} (h : fn.results = #[.cell p ty, .tmp u]) (tmps : Array Value) (w : World) (g : Nat) (t : TypeId) (cs : Array Value) (fr : Nat × Nat) (d : TypeDesc)
 (hp : tmps.getD p undef = .pointer (some ⟨g, 0, none⟩)) (hg : w.heap[g]? = some (.cells cs t fr))
 (hu : P.underlying ty = some d) (hd : (match d with | .struct _ | .array _ _ => true | _ => false) = true) (hi : (P.info? ty).map (·.size) = some cs.size) :
 (results fn tmps).run P w = .ok (.tuple #[.agg cs, tmps.getD u undef]) w := by
 rw [results_cell_tmp h, hp]; simp [asAddr, Result.andThen, run_loadVar_row w g t ty cs fr d hg hu hd hi]
def Nu (R B : Nat) (w : World) (v : Value) (x y : _root_.Rat) : Prop := ∃ g k, v = .agg #[.pointer (some ⟨g, 0, none⟩), .pointer (some ⟨k, 0, none⟩)] ∧ B ≤ g ∧ B ≤ k ∧ Ra R w g x ∧ Ra R w k y
theorem boneX (a b c d : ByteArray) (w : World) (ha : a.size ≤ maxLen) (hb : b.size ≤ maxLen) (hc : c.size ≤ maxLen) (hd : d.size ≤ maxLen) (hvr : Vr w) :
 Calls Tryz.prog 75 #[exV a b c d] w fun e w' => Below w.heap.size w w' ∧ ∃ v, e = .returned (.tuple #[v, .int .i64 (checkE a b c d)]) ∧ (checkE a b c d ≠ 0 → v = .agg #[.pointer none, .pointer none]) ∧ (checkE a b c d = 0 → Nu 88 w.heap.size w' v (rval a b) (rval c d)) := by
 have HW : Hid (Below w.heap.size w (((w.alloc (.cells #[.string a, .string b, .string c, .string d] 33)).alloc (.cells #[.pointer none, .pointer none] 82)).alloc (.cells #[.string a, .string b, .string c, .string d] 31))) := hid ((((Below.refl _ _).alloc (Nat.le_refl _) _).alloc ((Below.refl w.heap.size w).alloc (Nat.le_refl _) (.cells #[.string a, .string b, .string c, .string d] 33)).size _).alloc ((((Below.refl w.heap.size w).alloc (Nat.le_refl _) (.cells #[.string a, .string b, .string c, .string d] 33)).alloc ((Below.refl w.heap.size w).alloc (Nat.le_refl _) (.cells #[.string a, .string b, .string c, .string d] 33)).size (.cells #[.pointer none, .pointer none] 82)).size) _); have HZ : Hid (Bk (((w.alloc (.cells #[.string a, .string b, .string c, .string d] 33)).alloc (.cells #[.pointer none, .pointer none] 82)).alloc (.cells #[.string a, .string b, .string c, .string d] 31)) (w.heap.size + 1) [.pointer none, .pointer none] 82) := hid ((show Bk ((w.alloc (.cells #[.string a, .string b, .string c, .string d] 33)).alloc (.cells #[.pointer none, .pointer none] 82)) (w.heap.size + 1) [.pointer none, .pointer none] 82 from ⟨by rw [block_at], by decide⟩).below ((Below.refl _ _).alloc (Nat.le_refl _) _))
 have CK := hid (fun (g T : Nat) (v : World) (q : Below w.heap.size w v) (h : Bk v g [.string a, .string b, .string c, .string d] T) => bread2 g T a b c d v h ha hb hc hd (hvr.below q))
 clear ha hb hc hd hvr; go_enter Tryz.func75, Tryz.ntmps75; go_upto_region 2 with (go_at_call 91; (with_reducible refine (CK.out _ 31 _ HW.out ?_).mono ?_); (focus (exact ⟨by rw [block_at], by decide⟩)); rintro e w1 ⟨hb1, hpost⟩; have HB1 := hid (Below.trans HW.out (below_low hb1 HW.out.size)); have hBZ := HZ.out.below hb1; have z0 := hBZ.cell (i := 0) rfl; have z1 := hBZ.cell (i := 1) rfl; have f0 := hBZ.free 0; have f1 := hBZ.free 1; haveI : Has w1 (w.heap.size + 1) := ⟨hBZ.lt⟩; rcases hpost with ⟨hn, rfl⟩ | ⟨hz, g, x, y, rfl, hg, hx, hy, hB, hRx, hRy⟩)
 · have b1 : (checkE a b c d != 0) = true := bne_iff_ne.2 hn; have HN := hid hn; clear hn hb1; go_wp2_with fail
   have hB5 := (hBZ.set 0 (.pointer none)).set 1 (.pointer none); refine bodyPost_ret (results_row_tmp rfl _ _ (w.heap.size + 1) 82 _ (0, 0) _ rfl hB5.1 (by rfl) (by rfl) (by rfl)) rfl ?_
   exact ⟨below_store (below_store HB1.out (Nat.le_add_right _ 1)) (Nat.le_add_right _ 1), _, rfl, fun _ => rfl, fun h => absurd h HN.out⟩
 · have g0 := hB.cell (i := 0) rfl; have g1 := hB.cell (i := 1) rfl; haveI : Has w1 g := ⟨hB.lt⟩; have hgn : g ≠ w.heap.size + 1 := hB.ne hBZ (by decide)
   have hgn2 : w.heap.size + 1 ≠ g := Ne.symm hgn; have HBZ := hid hBZ; have HRX := hid hRx; have HRY := hid hRy; have HX := hid (Nat.le_trans HW.out.size hx); have HY := hid (Nat.le_trans HW.out.size hy); have HBG := hid hB; have HZ0 := hid hz; clear hz hb1 hBZ hRx hRy hx hy hB hg; go_upto_region 4 with fail
   go_region_held3 (fun W => W.cell? ⟨g, 0, none⟩ = some (.pointer (some ⟨x, 0, none⟩)) ∧ W.cell? ⟨g, 1, none⟩ = some (.pointer (some ⟨y, 0, none⟩))) (refine ⟨?_, ?_⟩ <;> (first | assumption | (simp [go_sem, *]; done))) (fail)
   go_wp2_with fail
   have hB5 := (HBZ.out.set 0 (.pointer (some ⟨x, 0, none⟩))).set 1 (.pointer (some ⟨y, 0, none⟩)); have KP := ((Keeps.refl w1.heap.size [w.heap.size + 1] w1).set (Or.inl (List.mem_singleton.2 rfl)) 0 (.pointer (some ⟨x, 0, none⟩))).set (Or.inl (List.mem_singleton.2 rfl)) 1 (.pointer (some ⟨y, 0, none⟩)); have nx : x ≠ w.heap.size + 1 := by obtain ⟨v, d, hbv, -, -⟩ := HRX.out; exact hbv.ne HBZ.out (by decide)
   have ny : y ≠ w.heap.size + 1 := by obtain ⟨v, d, hbv, -, -⟩ := HRY.out; exact hbv.ne HBZ.out (by decide)
   refine bodyPost_ret (results_row_tmp rfl _ _ (w.heap.size + 1) 82 _ (0, 0) _ rfl hB5.1 (by rfl) (by rfl) (by rfl)) rfl ?_
   rw [HZ0.out]; exact ⟨Below.drew (below_store (below_store HB1.out (Nat.le_add_right _ 1)) (Nat.le_add_right _ 1)), _, rfl, fun h => absurd rfl h, fun _ => ⟨x, y, rfl, HX.out, HY.out, HRX.out.keep HBZ.out KP.drew nx, HRY.out.keep HBZ.out KP.drew ny⟩⟩
theorem results_row2_tmp {P : Program} {fn : Func} {p q u : Tmp} {ty : TypeId} (h : fn.results = #[.cell p ty, .cell q ty, .tmp u]) (tmps : Array Value) (w : World) (g k : Nat) (t t' : TypeId) (cs cs' : Array Value) (fr fr' : Nat × Nat) (d : TypeDesc)
 (hp : tmps.getD p undef = .pointer (some ⟨g, 0, none⟩)) (hg : w.heap[g]? = some (.cells cs t fr)) (hq : tmps.getD q undef = .pointer (some ⟨k, 0, none⟩)) (hk : w.heap[k]? = some (.cells cs' t' fr'))
 (hu : P.underlying ty = some d) (hd : (match d with | .struct _ | .array _ _ => true | _ => false) = true) (hi : (P.info? ty).map (·.size) = some cs.size) (hi' : (P.info? ty).map (·.size) = some cs'.size) :
 (results fn tmps).run P w = .ok (.tuple #[.agg cs, .agg cs', tmps.getD u undef]) w := by
 simp only [results, h]; have hp' : tmps[p]?.getD undef = .pointer (some ⟨g, 0, none⟩) := by simpa using hp
 have hq' : tmps[q]?.getD undef = .pointer (some ⟨k, 0, none⟩) := by simpa using hq
 simp [Sem.run_bind, Result.andThen, hp', hq', asAddr, run_loadVar_row w g t ty cs fr d hg hu hd hi, run_loadVar_row w k t' ty cs' fr' d hk hu hd hi']
def Sm (L : Nat) (x : _root_.Rat) : Prop := (words x.num.natAbs).length ≤ L ∧ (words x.den).length ≤ L
theorem Sm.mono {L M : Nat} {x : _root_.Rat} (h : Sm L x) (k : L ≤ M) : Sm M x := ⟨Nat.le_trans h.1 k, Nat.le_trans h.2 k⟩
theorem mkRat_le (x : Int) (d : Nat) (h : d ≠ 0) : (mkRat x d).num.natAbs ≤ x.natAbs ∧ (mkRat x d).den ≤ d := by
 rw [Rat.num_mkRat, Rat.den_mkRat, if_neg h, if_neg h]
 constructor
 · rw [Int.natAbs_ediv_of_dvd]
   · exact Nat.div_le_self _ _
   · exact Int.ofNat_dvd_left.2 (Nat.gcd_dvd_right _ _)
 · exact Nat.div_le_self _ _
theorem Sm.mk {L : Nat} {x : Int} {d : Nat} (h : d ≠ 0) (h1 : (words x.natAbs).length ≤ L) (h2 : (words d).length ≤ L) : Sm L (mkRat x d) :=
 ⟨Nat.le_trans (len_mono (mkRat_le x d h).1) h1, Nat.le_trans (len_mono (mkRat_le x d h).2) h2⟩
theorem Sm.mul {L M : Nat} {x y : _root_.Rat} (h : Sm L x) (k : Sm M y) : Sm (L + M) (x * y) := by
 rw [Rat.mul_def, Rat.normalize_eq_mkRat]; refine Sm.mk (Nat.mul_ne_zero x.den_nz y.den_nz) ?_ ?_
 · rw [Int.natAbs_mul]; exact Nat.le_trans (mul_len _ _) (Nat.add_le_add h.1 k.1)
 · exact Nat.le_trans (mul_len _ _) (Nat.add_le_add h.2 k.2)
theorem Sm.add {L M : Nat} {x y : _root_.Rat} (h : Sm L x) (k : Sm M y) : Sm (2 * (L + M) + 1) (x + y) := by
 rw [Rat.add_def, Rat.normalize_eq_mkRat]; refine Sm.mk (Nat.mul_ne_zero x.den_nz y.den_nz) ?_ ?_
 · have h1 := Int.natAbs_add_le (x.num * (y.den : Int)) (y.num * (x.den : Int)); rw [Int.natAbs_mul, Int.natAbs_mul, Int.natAbs_natCast, Int.natAbs_natCast] at h1; have h2 := len_mono h1; have h3 := add_len (x.num.natAbs * y.den) (y.num.natAbs * x.den); have h4 := mul_len x.num.natAbs y.den; have h5 := mul_len y.num.natAbs x.den; have h6 := h.1; have h7 := h.2; have h8 := k.1; have h9 := k.2; omega
 · have h4 := mul_len x.den y.den; have h7 := h.2; have h9 := k.2; omega
theorem Sm.neg {L : Nat} {x : _root_.Rat} (h : Sm L x) : Sm L (-x) := ⟨by rw [Rat.neg_num, Int.natAbs_neg]; exact h.1, by rw [Rat.neg_den]; exact h.2⟩
theorem Sm.sub {L M : Nat} {x y : _root_.Rat} (h : Sm L x) (k : Sm M y) : Sm (2 * (L + M) + 1) (x - y) := by
 rw [Rat.sub_eq_add_neg]; exact h.add k.neg
theorem Sm.div {L M : Nat} {x y : _root_.Rat} (h : Sm L x) (k : Sm M y) (h0 : y.num ≠ 0) : Sm (L + M) (x / y) := by
 rw [← rat_div_mk x y h0]; refine Sm.mk (Nat.mul_ne_zero x.den_nz (by omega)) ?_ ?_
 · rw [sg_abs]; exact Nat.le_trans (mul_len _ _) (Nat.add_le_add h.1 k.2)
 · exact Nat.le_trans (mul_len _ _) (Nat.add_le_add h.2 k.1)
theorem Ra.lt {R : Nat} {w : World} {g : Nat} {x : _root_.Rat} (h : Ra R w g x) : g < w.heap.size := by
 obtain ⟨_, _, hb, -, -⟩ := h; exact hb.lt
class NotW (T : Nat) : Prop where
 out : T ≠ 190
instance notW31 : NotW 31 := ⟨by decide⟩
instance notW33 : NotW 33 := ⟨by decide⟩
instance notW80 : NotW 80 := ⟨by decide⟩
instance notW82 : NotW 82 := ⟨by decide⟩
instance notW86 : NotW 86 := ⟨by decide⟩
instance notW88 : NotW 88 := ⟨by decide⟩
instance notW92 : NotW 92 := ⟨by decide⟩
instance notW94 : NotW 94 := ⟨by decide⟩
instance notW123 : NotW 123 := ⟨by decide⟩
instance notW125 : NotW 125 := ⟨by decide⟩
instance notW174 : NotW 174 := ⟨by decide⟩
class Kp0 (W : outParam World) (w' : World) : Prop where
 out : Below W.heap.size W w'
class Kp1 (W : outParam World) (k : outParam Nat) (w' : World) : Prop where
 out : Keeps W.heap.size [k] W w'
class NeN (a b : Nat) : Prop where
 out : a ≠ b
instance neN_lt (a b : Nat) [h : LtN a b] : NeN a b := ⟨Nat.ne_of_lt h.lt⟩
instance neN_gt (a b : Nat) [h : LtN b a] : NeN a b := ⟨Ne.symm (Nat.ne_of_lt h.lt)⟩
instance (priority := 800) ltN_has (w : World) (b : Nat) [h : Has w b] : LtN b w.heap.size := ⟨h.lt⟩
instance has_kp0 (W w' : World) (n : Nat) [k : Kp0 W w'] [h : Has W n] : Has w' n := ⟨Nat.lt_of_lt_of_le h.lt k.out.size⟩
instance has_kp1 (W w' : World) (g n : Nat) [k : Kp1 W g w'] [h : Has W n] : Has w' n := ⟨Nat.lt_of_lt_of_le h.lt k.out.size⟩
def cq (w : World) (a : Addr) : Option Value := w.cell? a
def fq (w : World) (a : Addr) : Bool := w.frozen? a
@[go_sem] theorem cq_def (w : World) (a : Addr) : cq w a = w.cell? a := rfl
@[go_sem] theorem fq_def (w : World) (a : Addr) : fq w a = w.frozen? a := rfl
theorem frozen_of_heap {w w' : World} {n i : Nat} (h : w'.heap[n]? = w.heap[n]?) : w'.frozen? ⟨n, i, none⟩ = w.frozen? ⟨n, i, none⟩ := by simp only [World.frozen?, h]
section
variable (w' : World) {W : World} (n i : Nat)
@[go_sem] theorem cell_kp0 [k : Kp0 W w'] [h : Has W n] : w'.cell? ⟨n, i, none⟩ = cq W ⟨n, i, none⟩ := World.cell?_of_block (w := W) (k.out.block n h.lt)
@[go_sem] theorem cell_kp1 {g : Nat} [k : Kp1 W g w'] [h : Has W n] [e : NeN n g] : w'.cell? ⟨n, i, none⟩ = cq W ⟨n, i, none⟩ := World.cell?_of_block (w := W) (k.out.block n h.lt (by simpa using e.out))
@[go_sem] theorem frozen_kp0 [k : Kp0 W w'] [h : Has W n] : w'.frozen? ⟨n, i, none⟩ = fq W ⟨n, i, none⟩ := frozen_of_heap (k.out.block n h.lt)
@[go_sem] theorem frozen_kp1 {g : Nat} [k : Kp1 W g w'] [h : Has W n] [e : NeN n g] : w'.frozen? ⟨n, i, none⟩ = fq W ⟨n, i, none⟩ := frozen_of_heap (k.out.block n h.lt (by simpa using e.out))
end
class BkC (w : World) (g : Nat) (L : outParam (List Value)) (T : outParam Nat) : Prop where
 out : Bk w g L T
instance (priority := 1100) bkC_new (w : World) (s : Nat) (L : List Value) (T : Nat) [hs : HasSize w s] [hT : NotW T] : BkC (w.alloc (.cells L.toArray T)) s L T := ⟨⟨block_at w _ s, hT.out⟩⟩
instance bkC_alloc (w : World) (g : Nat) (L : List Value) (T : Nat) (o : Obj) [h : BkC w g L T] : BkC (w.alloc o) g L T := ⟨h.out.below ((Below.refl _ _).alloc (Nat.le_refl _) _)⟩
instance bkC_drew (w : World) (g : Nat) (L : List Value) (T : Nat) [h : BkC w g L T] : BkC w.drew g L T := ⟨h.out.below (Below.drew (Below.refl _ _))⟩
instance bkC_kp0 (W w' : World) (g : Nat) (L : List Value) (T : Nat) [k : Kp0 W w'] [h : BkC W g L T] : BkC w' g L T := ⟨h.out.below k.out⟩
instance bkC_kp1 (W w' : World) (g n : Nat) (L : List Value) (T : Nat) [k : Kp1 W n w'] [e : NeN g n] [h : BkC W g L T] : BkC w' g L T := ⟨h.out.keep k.out (Nat.le_refl _) (by simpa using e.out)⟩
class SetC (L : List Value) (i : Nat) (x : Value) (M : outParam (List Value)) : Prop where
 out : L.set i x = M
instance setC_0 (a : Value) (L : List Value) (x : Value) : SetC (a :: L) 0 x (x :: L) := ⟨rfl⟩
instance setC_s (a : Value) (L M : List Value) (i : Nat) (x : Value) [h : SetC L i x M] : SetC (a :: L) (i + 1) x (a :: M) := ⟨by rw [List.set_cons_succ, h.out]⟩
instance bkC_set (w : World) (g i : Nat) (x : Value) (L M : List Value) (T : Nat) [h : BkC w g L T] [k : SetC L i x M] : BkC (w.setCell ⟨g, i, none⟩ x) g M T := ⟨k.out ▸ h.out.set i x⟩
instance bkC_setN (w : World) (g n i : Nat) (x : Value) (L : List Value) (T : Nat) [e : NeN g n] [h : BkC w g L T] : BkC (w.setCell ⟨n, i, none⟩ x) g L T := ⟨⟨(block_ne _ _ _ _ _ e.out).trans h.out.1, h.out.2⟩⟩
class Blk (w : World) (g : Nat) : Prop where
 out : ∃ L T, Bk w g L T
instance blk_bk (w : World) (g : Nat) (L : List Value) (T : Nat) [h : BkC w g L T] : Blk w g := ⟨⟨_, _, h.out⟩⟩
class Fr (R : Nat) (W : World) (g : Nat) : Prop where
 out : Bk W g [.bool false, .slice none 0 0, .slice none 0 0] R
instance fr_bk (R : Nat) (W : World) (g : Nat) [h : BkC W g [.bool false, .slice none 0 0, .slice none 0 0] R] : Fr R W g := ⟨h.out⟩
class RaC (R : outParam Nat) (w : World) (g : Nat) (x : outParam _root_.Rat) : Prop where
 out : Ra R w g x
instance blk_ra (R : Nat) (w : World) (g : Nat) (x : _root_.Rat) [h : RaC R w g x] : Blk w g := ⟨by obtain ⟨_, _, hb, -, -⟩ := h.out; exact ⟨_, _, hb⟩⟩
instance raC_alloc (R : Nat) (w : World) (g : Nat) (x : _root_.Rat) (o : Obj) [h : RaC R w g x] : RaC R (w.alloc o) g x := ⟨h.out.below ((Below.refl _ _).alloc (Nat.le_refl _) _)⟩
instance raC_drew (R : Nat) (w : World) (g : Nat) (x : _root_.Rat) [h : RaC R w g x] : RaC R w.drew g x := ⟨h.out.below (Below.drew (Below.refl _ _))⟩
instance raC_kp0 (R : Nat) (W w' : World) (g : Nat) (x : _root_.Rat) [k : Kp0 W w'] [h : RaC R W g x] : RaC R w' g x := ⟨h.out.below k.out⟩
instance raC_kp1 (R : Nat) (W w' : World) (g n : Nat) (x : _root_.Rat) [k : Kp1 W n w'] [e : NeN g n] [b : Blk W n] [h : RaC R W g x] : RaC R w' g x := ⟨by
 obtain ⟨L, T, hb⟩ := b.out; exact h.out.keep hb k.out e.out⟩
instance raC_set (R : Nat) (w : World) (g n i : Nat) (v : Value) (x : _root_.Rat) [e : NeN g n] [b : Blk w n] [h : RaC R w g x] : RaC R (w.setCell ⟨n, i, none⟩ v) g x := ⟨by
 obtain ⟨L, T, hb⟩ := b.out; exact h.out.keep hb ((Keeps.refl _ _ _).set (Or.inl (List.mem_singleton.2 rfl)) i v) e.out⟩
class NeT (R T : Nat) : Prop where
 out : T ≠ R
instance neT_88_31 : NeT 88 31 := ⟨by decide⟩
instance neT_88_33 : NeT 88 33 := ⟨by decide⟩
instance neT_88_80 : NeT 88 80 := ⟨by decide⟩
instance neT_88_82 : NeT 88 82 := ⟨by decide⟩
instance neT_88_92 : NeT 88 92 := ⟨by decide⟩
instance neT_88_94 : NeT 88 94 := ⟨by decide⟩
instance neT_88_174 : NeT 88 174 := ⟨by decide⟩
instance neT_125_31 : NeT 125 31 := ⟨by decide⟩
instance neT_125_33 : NeT 125 33 := ⟨by decide⟩
instance neT_125_80 : NeT 125 80 := ⟨by decide⟩
instance neT_125_82 : NeT 125 82 := ⟨by decide⟩
instance neT_125_92 : NeT 125 92 := ⟨by decide⟩
instance neT_125_94 : NeT 125 94 := ⟨by decide⟩
instance neT_125_174 : NeT 125 174 := ⟨by decide⟩
instance neT_86_31 : NeT 86 31 := ⟨by decide⟩
instance neT_86_33 : NeT 86 33 := ⟨by decide⟩
instance neT_86_80 : NeT 86 80 := ⟨by decide⟩
instance neT_86_82 : NeT 86 82 := ⟨by decide⟩
instance neT_86_92 : NeT 86 92 := ⟨by decide⟩
instance neT_86_94 : NeT 86 94 := ⟨by decide⟩
instance neT_86_174 : NeT 86 174 := ⟨by decide⟩
instance neT_123_31 : NeT 123 31 := ⟨by decide⟩
instance neT_123_33 : NeT 123 33 := ⟨by decide⟩
instance neT_123_80 : NeT 123 80 := ⟨by decide⟩
instance neT_123_82 : NeT 123 82 := ⟨by decide⟩
instance neT_123_92 : NeT 123 92 := ⟨by decide⟩
instance neT_123_94 : NeT 123 94 := ⟨by decide⟩
instance neT_123_174 : NeT 123 174 := ⟨by decide⟩
instance (priority := 1100) raC_setT (R : Nat) (w : World) (g n i : Nat) (v : Value) (x : _root_.Rat) (L : List Value) (T : Nat) [h : RaC R w g x] [b : BkC w n L T] [t : NeT R T] : RaC R (w.setCell ⟨n, i, none⟩ v) g x := ⟨by
 obtain ⟨_, _, hb, -, -⟩ := h.out; exact h.out.keep b.out ((Keeps.refl _ _ _).set (Or.inl (List.mem_singleton.2 rfl)) i v) (hb.ne b.out (Ne.symm t.out))⟩
instance has_ra (R : Nat) (w : World) (g : Nat) (x : _root_.Rat) [h : RaC R w g x] : Has w g := ⟨h.out.lt⟩
class Up (B g : Nat) : Prop where
 out : B ≤ g
instance up_le (B g : Nat) [h : LeN B g] : Up B g := ⟨h.le⟩
instance (priority := 700) leN_size (v : World) (o : Obj) (s n : Nat) [h : HasSize (v.alloc o) s] [k : LeN s n] : LeN (v.alloc o).heap.size n := ⟨by rw [h.eq]; exact k.le⟩
class Gr (v : World) (W : World) : Prop where
 out : Below v.heap.size v W
instance gr_refl (v : World) : Gr v v := ⟨Below.refl _ _⟩
instance gr_alloc (v W : World) (o : Obj) [h : Gr v W] : Gr v (W.alloc o) := ⟨h.out.alloc h.out.size _⟩
instance gr_drew (v W : World) [h : Gr v W] : Gr v W.drew := ⟨Below.drew h.out⟩
instance gr_kp0 (v W w' : World) [k : Kp0 W w'] [h : Gr v W] : Gr v w' := ⟨Below.trans h.out (below_low k.out h.out.size)⟩
instance gr_kp1 (v W w' : World) (n : Nat) [k : Kp1 W n w'] [h : Gr v W] [u : Up v.heap.size n] : Gr v w' := ⟨below_keeps h.out k.out u.out h.out.size⟩
instance gr_set (v W : World) (n i : Nat) (x : Value) [h : Gr v W] [u : Up v.heap.size n] : Gr v (W.setCell ⟨n, i, none⟩ x) := ⟨below_store h.out u.out⟩
instance leN_gr (v W : World) [h : Gr v W] : LeN v.heap.size W.heap.size := ⟨h.out.size⟩
class UpW (w : outParam World) (j : Nat) : Prop where
 out : w.heap.size ≤ j
instance (priority := 900) ltN_upW (w : World) (b j : Nat) [u : UpW w j] [h : Has w b] : LtN b j := ⟨Nat.lt_of_lt_of_le h.lt u.out⟩
instance up_upW (v w : World) (j : Nat) [u : UpW w j] [g : Gr v w] : Up v.heap.size j := ⟨Nat.le_trans g.out.size u.out⟩
class VrB (w : outParam World) : Prop where
 out : Vr w
class VrC (w : World) : Prop where
 out : Vr w
instance vrC_gr (v W : World) [b : VrB v] [h : Gr v W] : VrC W := ⟨b.out.below h.out⟩
class SmC (x : _root_.Rat) (L : outParam Nat) : Prop where
 out : Sm L x
instance smC_mul (x y : _root_.Rat) (L M : Nat) [h : SmC x L] [k : SmC y M] : SmC (x * y) (L + M) := ⟨h.out.mul k.out⟩
instance smC_add (x y : _root_.Rat) (L M : Nat) [h : SmC x L] [k : SmC y M] : SmC (x + y) (2 * (L + M) + 1) := ⟨h.out.add k.out⟩
instance smC_sub (x y : _root_.Rat) (L M : Nat) [h : SmC x L] [k : SmC y M] : SmC (x - y) (2 * (L + M) + 1) := ⟨h.out.sub k.out⟩
instance smC_neg (x : _root_.Rat) (L : Nat) [h : SmC x L] : SmC (-x) L := ⟨h.out.neg⟩
theorem Fr.ra {R : Nat} {W : World} {g : Nat} (h : Fr R W g) : Ra R W g 0 := by
 have hw : ∀ w : World, Wd w (.slice none 0 0) [] := fun w => .inl ⟨rfl, rfl⟩
 refine ⟨.slice none 0 0, .slice none 0 0, h.out, ?_, .inl ⟨hw _, rfl⟩⟩
 rw [show (0 : _root_.Rat).num.natAbs = 0 from rfl, words_0]
 exact hw _
abbrev nuV (i j : Nat) : Value := .agg #[.pointer (some ⟨i, 0, none⟩), .pointer (some ⟨j, 0, none⟩)]
section
variable {P : Program} {fn : Func} {R : Ending → World → Prop} {a : Act} {w : World} {p u : Tmp} {ty : TypeId} {g : Nat} {L : List Value} {T : Nat} {d : TypeDesc}
theorem ret_cell (h : fn.results = #[.cell p ty]) (hd0 : a.defers = []) (hp : a.tmps.getD p undef = .pointer (some ⟨g, 0, none⟩)) [hb : BkC w g L T] (hu : P.underlying ty = some d) (hd : (match d with | .struct _ | .array _ _ => true | _ => false) = true) (hi : (P.info? ty).map (·.size) = some L.toArray.size)
 (hR : R (.returned (.agg L.toArray)) w) : bodyPost P fn R .ret a w :=
 bodyPost_ret (results_cell_row h _ _ g T L.toArray (0, 0) d hp hb.out.1 hu hd hi) hd0 hR
theorem ret_cell_tmp (h : fn.results = #[.cell p ty, .tmp u]) (hd0 : a.defers = []) (hp : a.tmps.getD p undef = .pointer (some ⟨g, 0, none⟩)) [hb : BkC w g L T] (hu : P.underlying ty = some d) (hd : (match d with | .struct _ | .array _ _ => true | _ => false) = true) (hi : (P.info? ty).map (·.size) = some L.toArray.size)
 (hR : R (.returned (.tuple #[.agg L.toArray, a.tmps.getD u undef])) w) : bodyPost P fn R .ret a w := by
 refine bodyPost_ret (v := .tuple #[.agg L.toArray, a.tmps.getD u undef]) ?_ hd0 hR
 rw [results_cell_tmp h, hp]; simp [asAddr, Result.andThen, run_loadVar_row w g T ty L.toArray (0, 0) d hb.out.1 hu hd hi]
end
class Blk' (R : Nat) (W : World) (g : Nat) : Prop where
 out : ∃ a b c, Bk W g [a, b, c] R
instance blkF (R : Nat) (W : World) (g : Nat) [h : Fr R W g] : Blk' R W g := ⟨⟨_, _, _, h.out⟩⟩
instance blkR (R : Nat) (W : World) (g : Nat) (x : _root_.Rat) [h : RaC R W g x] : Blk' R W g := ⟨by obtain ⟨_, _, hb, -, -⟩ := h.out; exact ⟨_, _, _, hb⟩⟩
theorem brMulC {W : World} {gz gx gy : Nat} {x y : _root_.Rat} {L M : Nat} [hz : Blk' 88 W gz] [hx : RaC 88 W gx x] [hy : RaC 88 W gy y] [sx : SmC x L] [sy : SmC y M] [nx : NeN gx gz] [ny : NeN gy gz] [vr : VrC W] (hL : L ≤ 34359738368) (hM : M ≤ 34359738368) :
 Calls Tryz.prog 106 #[.pointer (some ⟨gz, 0, none⟩), .pointer (some ⟨gx, 0, none⟩), .pointer (some ⟨gy, 0, none⟩)] W fun e w' => e = .returned (.pointer (some ⟨gz, 0, none⟩)) ∧ RaC 88 w' gz (x * y) ∧ Kp1 W gz w' := by
 obtain ⟨z0, z1, z2, bz⟩ := hz.out; refine (brmul gz gx gy _ _ _ x y _ bz hx.out hy.out (Nat.le_trans sx.out.1 hL) (Nat.le_trans sx.out.2 hL) (Nat.le_trans sy.out.1 hM) (Nat.le_trans sy.out.2 hM) vr.out nx.out ny.out).mono ?_
 rintro e w' ⟨rfl, h1, h2⟩; exact ⟨rfl, ⟨h1⟩, ⟨h2⟩⟩
theorem brQuoC {W : World} {gz gx gy : Nat} {x y : _root_.Rat} {L M : Nat} [hz : Blk' 88 W gz] [hx : RaC 88 W gx x] [hy : RaC 88 W gy y] [sx : SmC x L] [sy : SmC y M] [nx : NeN gx gz] [ny : NeN gy gz] [vr : VrC W] (hL : L ≤ 34359738368) (hM : M ≤ 34359738368) (hy0 : y.num ≠ 0) :
 Calls Tryz.prog 87 #[.pointer (some ⟨gz, 0, none⟩), .pointer (some ⟨gx, 0, none⟩), .pointer (some ⟨gy, 0, none⟩)] W fun e w' => e = .returned (.pointer (some ⟨gz, 0, none⟩)) ∧ RaC 88 w' gz (x / y) ∧ Kp1 W gz w' := by
 obtain ⟨z0, z1, z2, bz⟩ := hz.out; refine (brquo gz gx gy _ _ _ x y _ bz hx.out hy.out (Nat.le_trans sx.out.1 hL) (Nat.le_trans sx.out.2 hL) (Nat.le_trans sy.out.1 hM) (Nat.le_trans sy.out.2 hM) nx.out ny.out vr.out hy0).mono ?_
 rintro e w' ⟨rfl, h1, h2⟩; exact ⟨rfl, ⟨h1⟩, ⟨h2⟩⟩
theorem brAddC {W : World} {gz gx gy : Nat} {x y : _root_.Rat} {L M : Nat} [hz : Blk' 88 W gz] [hx : RaC 88 W gx x] [hy : RaC 88 W gy y] [sx : SmC x L] [sy : SmC y M] [vr : VrC W] (hL : L ≤ 17179869184) (hM : M ≤ 17179869184) :
 Calls Tryz.prog 108 #[.pointer (some ⟨gz, 0, none⟩), .pointer (some ⟨gx, 0, none⟩), .pointer (some ⟨gy, 0, none⟩)] W fun e w' => e = .returned (.pointer (some ⟨gz, 0, none⟩)) ∧ RaC 88 w' gz (x + y) ∧ Kp1 W gz w' := by
 obtain ⟨z0, z1, z2, bz⟩ := hz.out; refine (bradd gz gx gy _ _ _ x y _ bz hx.out hy.out (Nat.le_trans sx.out.1 hL) (Nat.le_trans sx.out.2 hL) (Nat.le_trans sy.out.1 hM) (Nat.le_trans sy.out.2 hM) vr.out).mono ?_
 rintro e w' ⟨rfl, h1, h2⟩; exact ⟨rfl, ⟨h1⟩, ⟨h2⟩⟩
theorem brSubC {W : World} {gz gx gy : Nat} {x y : _root_.Rat} {L M : Nat} [hz : Blk' 88 W gz] [hx : RaC 88 W gx x] [hy : RaC 88 W gy y] [sx : SmC x L] [sy : SmC y M] [vr : VrC W] (hL : L ≤ 17179869184) (hM : M ≤ 17179869184) :
 Calls Tryz.prog 107 #[.pointer (some ⟨gz, 0, none⟩), .pointer (some ⟨gx, 0, none⟩), .pointer (some ⟨gy, 0, none⟩)] W fun e w' => e = .returned (.pointer (some ⟨gz, 0, none⟩)) ∧ RaC 88 w' gz (x - y) ∧ Kp1 W gz w' := by
 obtain ⟨z0, z1, z2, bz⟩ := hz.out; refine (brsub gz gx gy _ _ _ x y _ bz hx.out hy.out (Nat.le_trans sx.out.1 hL) (Nat.le_trans sx.out.2 hL) (Nat.le_trans sy.out.1 hM) (Nat.le_trans sy.out.2 hM) vr.out).mono ?_
 rintro e w' ⟨rfl, h1, h2⟩; exact ⟨rfl, ⟨h1⟩, ⟨h2⟩⟩
theorem brNegC {W : World} {gz gx : Nat} {x : _root_.Rat} {L : Nat} [hz : Blk' 88 W gz] [hx : RaC 88 W gx x] [sx : SmC x L] (hL : L ≤ 1099511627776) :
 Calls Tryz.prog 134 #[.pointer (some ⟨gz, 0, none⟩), .pointer (some ⟨gx, 0, none⟩)] W fun e w' => e = .returned (.pointer (some ⟨gz, 0, none⟩)) ∧ RaC 88 w' gz (-x) ∧ Kp1 W gz w' := by
 obtain ⟨z0, z1, z2, bz⟩ := hz.out; refine (brneg gz gx _ _ _ x _ bz hx.out (Nat.le_trans sx.out.1 hL) (Nat.le_trans sx.out.2 hL)).mono ?_
 rintro e w' ⟨rfl, h1, h2⟩; exact ⟨rfl, ⟨h1⟩, ⟨h2⟩⟩
theorem bFloatC {W : World} {gz : Nat} {b : Nat} [hz : Blk' 88 W gz] [vr : VrC W] (hb : b < 18446744073709551616) (hf : fexp b ≠ 2047) :
 Calls Tryz.prog 105 #[.pointer (some ⟨gz, 0, none⟩), .float .f64 b] W fun e w' => e = .returned (.pointer (some ⟨gz, 0, none⟩)) ∧ RaC 88 w' gz (frat b) ∧ Kp1 W gz w' := by
 obtain ⟨z0, z1, z2, bz⟩ := hz.out; refine (bsetfloat gz _ _ _ _ _ bz hb hf vr.out).mono ?_
 rintro e w' ⟨rfl, h1, h2⟩; exact ⟨rfl, ⟨h1⟩, ⟨h2⟩⟩
theorem bInt64C {W : World} {gz : Nat} {x : Int} [hz : Blk' 88 W gz] (h1 : -9223372036854775808 ≤ x) (h2 : x < 9223372036854775808) :
 Calls Tryz.prog 80 #[.pointer (some ⟨gz, 0, none⟩), .int .i64 x] W fun e w' => e = .returned (.pointer (some ⟨gz, 0, none⟩)) ∧ RaC 88 w' gz ((x : _root_.Rat)) ∧ Kp1 W gz w' := by
 obtain ⟨z0, z1, z2, bz⟩ := hz.out; refine (brsetint64 gz _ _ _ _ _ bz h1 h2).mono ?_
 rintro e w' ⟨rfl, h1, h2⟩; exact ⟨rfl, ⟨h1⟩, ⟨h2⟩⟩
def strN (n : Int) : ByteArray := ⟨(itext n).toArray⟩
theorem padf1_0 : padf 1 0 = [48] := by unfold padf; rw [figs_0]; rfl
def longN (n : Int) : Bool := decide (16384 < (afterS (strN n)).size)
def toldE (x y : _root_.Rat) : Int := if longN x.num || longN x.den || longN y.num || longN y.den then 4 else 0
theorem check_zero {a b c d : ByteArray} (h : checkE a b c d = 0) : textE a false = 0 ∧ textE b true = 0 ∧ textE c false = 0 ∧ textE d true = 0 ∧ sameT a b = true ∧ sameT c d = true := by
 unfold checkE at h; by_cases h1 : textE a false = 0
 · rw [if_neg (by omega)] at h
   by_cases h2 : textE b true = 0
   · rw [if_neg (by omega)] at h
     by_cases h3 : textE c false = 0
     · rw [if_neg (by omega)] at h
       by_cases h4 : textE d true = 0
       · rw [if_neg (by omega)] at h
         by_cases h5 : sameT a b = true ∧ sameT c d = true
         · exact ⟨h1, h2, h3, h4, h5⟩
         · rw [if_neg h5] at h; cases h
       · rw [if_pos h4] at h; exact absurd h h4
     · rw [if_pos h3] at h; exact absurd h h3
   · rw [if_pos h2] at h; exact absurd h h2
 · rw [if_pos h1] at h; exact absurd h h1
theorem check_okT {a b c d : ByteArray} (h : checkE a b c d = 0) : okT a b ∧ okT c d := by
 obtain ⟨h1, h2, h3, h4, -, -⟩ := check_zero h; exact ⟨⟨h1, h2⟩, ⟨h3, h4⟩⟩
@[go_sem] theorem cell_setNN (w : World) (n k i j : Nat) (v : Value) [e : NeN n k] : (w.setCell ⟨k, i, none⟩ v).cell? ⟨n, j, none⟩ = w.cell? ⟨n, j, none⟩ := World.cell?_of_block (w := w) (block_ne _ _ _ _ _ e.out)
instance has_bk (w : World) (g : Nat) (L : List Value) (T : Nat) [h : BkC w g L T] : Has w g := ⟨h.out.lt⟩
theorem strN_size {n : Int} {L : Nat} (h : (words n.natAbs).length ≤ L) (hL : L ≤ 67108864) : (strN n).size ≤ maxLen := by
 have h1 : (padf 1 n.natAbs).length ≤ 32 * L + 1 := by
  by_cases h0 : n.natAbs = 0
  · rw [h0, padf1_0, List.length_singleton]; omega
  · rw [padf1 h0]; have h2 := words_lt n.natAbs
    have h3 : n.natAbs < 10 ^ (32 * L) := by
     refine Nat.lt_of_lt_of_le h2 ?_
     rw [show (4294967296 : Nat) = 2 ^ 32 from rfl, ← Nat.pow_mul]
     exact Nat.le_trans (Nat.pow_le_pow_right (by decide) (Nat.mul_le_mul_left 32 h)) (Nat.pow_le_pow_left (by decide) _)
    have := figs_len.1 h3; omega
 have h4 : (strN n).size = (itext n).length := bytes_len _ _ rfl; rw [h4]; unfold itext maxLen
 split
 · rw [List.length_cons]; omega
 · omega
def tS (x y : _root_.Rat) (s : ByteArray) : ByteArray := if toldE x y = 0 then s else ⟨#[]⟩
theorem btellC {W : World} {g : Nat} {r : _root_.Rat} {L : Nat} [h : RaC 88 W g r] [s : SmC r L] (hL : L ≤ 67108864) : Calls Tryz.prog 89 #[.pointer (some ⟨g, 0, none⟩)] W fun e w' => e = .returned (.agg #[.string (strN r.num), .string (strN r.den)]) ∧ Kp0 W w' := by
 refine (btellF g r W h.out (Nat.le_trans s.out.1 hL) (Nat.le_trans s.out.2 hL)).mono ?_
 rintro e w' ⟨rfl, hb⟩; exact ⟨rfl, ⟨hb⟩⟩
theorem toldE_4 {x y : _root_.Rat} (h : 16384 < (afterS (strN x.num)).size ∨ 16384 < (afterS (strN x.den)).size ∨ 16384 < (afterS (strN y.num)).size ∨ 16384 < (afterS (strN y.den)).size) : toldE x y = 4 := by
 unfold toldE longN; rw [if_pos]; simp only [Bool.or_eq_true, decide_eq_true_eq]; omega
theorem toldE_0 {x y : _root_.Rat} (h1 : ¬ 16384 < (afterS (strN x.num)).size) (h2 : ¬ 16384 < (afterS (strN x.den)).size) (h3 : ¬ 16384 < (afterS (strN y.num)).size) (h4 : ¬ 16384 < (afterS (strN y.den)).size) : toldE x y = 0 := by
 unfold toldE longN; rw [if_neg]; simp only [Bool.or_eq_true, decide_eq_true_eq]; omega
end Go.Proofs.YthjeejnggpjnjaaGreatDoor
