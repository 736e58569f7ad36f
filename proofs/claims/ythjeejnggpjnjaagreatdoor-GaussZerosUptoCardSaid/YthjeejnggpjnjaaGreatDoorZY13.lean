/- A part: AW, AX, AZ, BA, BB, AD. -/
import Derived.Test.YthjeejnggpjnjaaGreatDoorZY12
set_option linter.unusedSimpArgs false
set_option linter.unusedVariables false
set_option maxRecDepth 100000
set_option maxHeartbeats 16000000
set_option synthInstance.maxHeartbeats 2000000
set_option synthInstance.maxSize 100000
namespace Go.Proofs.YthjeejnggpjnjaaGreatDoor
open Go.RowKit
def ival (s : ByteArray) : Int := sg (minusB s) (dval (afterS s).data.toList)
def rval (n d : ByteArray) : _root_.Rat := mkRat (ival n) (dval (afterS d).data.toList)
def okT (n d : ByteArray) : Prop := textE n false = 0 ∧ textE d true = 0
theorem textE_ok {s : ByteArray} {b : Bool} (h : textE s b = 0) : (afterS s).size ≤ 16384 ∧ digB (afterS s).data.toList = true ∧ (b = true → minusB s = false ∧ (afterS s).data.toList ≠ [48]) := by
 unfold textE at h
 split at h
 · cases h
 · rename_i h1
   split at h
   · rename_i h2; rw [Bool.and_eq_true, Bool.and_eq_true] at h2; obtain ⟨⟨h3, h4⟩, h5⟩ := h2; refine ⟨by omega, h3, fun hb => ?_⟩
     subst hb
     constructor
     · simpa using h4
     · simpa using h5
   · cases h
theorem dval_ne0 {L : List UInt8} (h : digB L = true) (h2 : L ≠ [48]) : dval L ≠ 0 := by
 obtain ⟨h3, h4, h5⟩ := digB_isdig h; intro e; have h6 : L.head? ≠ some 48 := h5.resolve_right h2; have h7 := figs_dval h3 (fun c hc e => h6 (by rw [hc, e]))
 rw [e, figs_0] at h7; exact h4 h7.symm
theorem text_list {s : ByteArray} (h : minusB s = true) : s.data.toList = ([45] : List UInt8) ++ (afterS s).data.toList := by
 rw [after_list, if_pos h]; unfold minusB at h; cases hL : s.data.toList with
 | nil => rw [hL] at h; simp at h
 | cons c L => rw [hL] at h; simp at h; rw [h]; rfl
theorem dval_words {L : List UInt8} (h : isdig L) (hl : L.length ≤ 16384) : (words (dval L)).length ≤ 16384 := Nat.le_trans (dec_len (dval_lt h)) hl
theorem ival_abs (s : ByteArray) : (ival s).natAbs = dval (afterS s).data.toList := by
 unfold ival sg
 split <;> simp
theorem bsetstr (gz : Nat) (z0 z1 : Value) (s : ByteArray) (w : World) (hz : Bk w gz [z0, z1] 86) (hd : digB (afterS s).data.toList = true) (hle : (afterS s).size ≤ 16384) :
 Calls Tryz.prog 192 #[.pointer (some ⟨gz, 0, none⟩), .string s, .int .i64 10] w fun e w' => e = .returned (.tuple #[.pointer (some ⟨gz, 0, none⟩), .bool true]) ∧ In 86 w' gz (ival s) ∧ Keeps w.heap.size [gz] w w' := by
 obtain ⟨h1, h2, -⟩ := digB_isdig hd; have hl : (afterS s).data.toList.length ≤ 1073741824 := by rw [← bytes_len _ _ rfl]; omega
 unfold ival; cases hm : minusB s with
 | true => exact bsetstrN gz z0 z1 s _ w hz (text_list hm) h1 h2 hl
 | false =>
   have ha : s.data.toList = ([] : List UInt8) ++ (afterS s).data.toList := by
    rw [after_list, hm]; rfl
   exact bsetstrP gz z0 z1 s _ w hz ha h1 h2 hl
theorem bfraction (n d : ByteArray) (w : World) (hok : okT n d) (hvr : Vr w) :
 Calls Tryz.prog 140 #[.agg #[.string n, .string d]] w fun e w' => ∃ g, e = .returned (.pointer (some ⟨g, 0, none⟩)) ∧ w.heap.size ≤ g ∧ Ra 88 w' g (rval n d) ∧ Below w.heap.size w w' := by
 obtain ⟨h1, h2⟩ := hok; obtain ⟨l1, d1, -⟩ := textE_ok h1; obtain ⟨l2, d2, d3⟩ := textE_ok h2; obtain ⟨d4, d5⟩ := d3 rfl; have n0 := dval_ne0 d2 d5; have i1 := (digB_isdig d1).1; have i2 := (digB_isdig d2).1; have w1l := dval_words i1 (by rw [← bytes_len _ _ rfl]; exact l1)
 have w2l := dval_words i2 (by rw [← bytes_len _ _ rfl]; exact l2)
 have hid_ : ival d = (dval (afterS d).data.toList : Int) := by unfold ival; rw [d4]; rfl
 have al : ∀ (v : World) {o : Obj}, Below v.heap.size v (v.alloc o) := fun v o => (Below.refl _ _).alloc (Nat.le_refl _) _
 have HW : Hid (Below w.heap.size w ((w.alloc (.cells #[.string n, .string d] 31)).alloc (.cells #[.bool false, .slice none 0 0] 86))) := hid (((Below.refl _ _).alloc (Nat.le_refl _) _).alloc ((Below.refl w.heap.size w).alloc (Nat.le_refl _) (.cells #[.string n, .string d] 31)).size _); have BX : Hid (Bk ((w.alloc (.cells #[.string n, .string d] 31)).alloc (.cells #[.bool false, .slice none 0 0] 86)) w.heap.size [.string n, .string d] 31) := hid ((show Bk (w.alloc (.cells #[.string n, .string d] 31)) w.heap.size [.string n, .string d] 31 from ⟨by rw [block_at], by decide⟩).below ((Below.refl _ _).alloc (Nat.le_refl _) _))
 have S1 := hid (bsetstr (w.heap.size + 1) (.bool false) (.slice none 0 0) n ((w.alloc (.cells #[.string n, .string d] 31)).alloc (.cells #[.bool false, .slice none 0 0] 86)) ⟨by rw [block_at], by decide⟩ d1 l1)
 have S2 := hid (fun (w1 : World) => bsetstr w1.heap.size (.bool false) (.slice none 0 0) d (w1.alloc (.cells #[.bool false, .slice none 0 0] 86)) ⟨by rw [block_at], by decide⟩ d2 l2)
 have HV := hid hvr; have SF := hid (fun (w2 : World) (g1 g2 : Nat) (a : In 86 w2 g1 (ival n)) (c : In 86 w2 g2 (ival d)) (q : Below w.heap.size w w2) => bsetfrac w2.heap.size g1 g2 (.bool false) (.slice none 0 0) (.slice none 0 0) (ival n) (dval (afterS d).data.toList) (w2.alloc (.cells #[.bool false, .slice none 0 0, .slice none 0 0] 88)) ⟨by rw [block_at], by decide⟩ (a.ia.below (al w2)) (hid_ ▸ (c.ia.below (al w2))) (by rw [ival_abs]; omega) (by omega) n0 (HV.out.below (Below.trans q (below_low (al w2) q.size))))
 obtain ⟨R, hR⟩ : ∃ R, R = rval n d := ⟨_, rfl⟩; have hR2 : mkRat (ival n) (dval (afterS d).data.toList) = R := hR.symm; rw [hR2] at SF; rw [← hR]; generalize ival n = x at *; generalize ival d = y at *; clear hR hR2 h1 h2 l1 d1 l2 d2 d3 d4 d5 n0 i1 i2 w1l w2l hid_ hvr; have AL := hid (@al); clear al; go_enter Tryz.func140, Tryz.ntmps140; go_wp2_with (first | (go_at_call 192; (with_reducible refine S1.out.mono ?_); rintro e w1 ⟨rfl, hI1, hk1⟩; have hb1 := below_keeps HW.out hk1 (Nat.le_add_right _ 1) HW.out.size; have hB1 : Bk w1 w.heap.size [.string n, .string d] 31 := BX.out.keep hk1 (Nat.le_refl _) (by simp); have x1 := hB1.cell (i := 1) rfl; haveI : Has w1 w.heap.size := ⟨hB1.lt⟩; have HI1 := hid hI1; have HB1 := hid hb1; clear hI1 hk1 hb1 hB1) | (go_at_call 192; (with_reducible refine (S2.out w1).mono ?_); rintro e w2 ⟨rfl, hI2, hk2⟩; have hb2 := below_keeps (AL.out w1) hk2 (Nat.le_refl _) (AL.out w1).size; have HI2 := hid hI2; have HB2 := hid hb2; have HI12 := hid (HI1.out.below HB2.out); have HC2 := hid (Below.trans HB1.out (below_low HB2.out HB1.out.size)); clear hI2 hk2 hb2 x1) | (go_at_call 193; (with_reducible refine (SF.out w2 _ _ HI12.out HI2.out HC2.out).mono ?_); rintro e w3 ⟨rfl, hR3, hk3⟩; have hb3 := below_keeps (AL.out w2) hk3 (Nat.le_refl _) (AL.out w2).size; have HR3 := hid hR3; have HB3 := hid hb3; clear hR3 hk3 hb3))
 go_ret
 exact ⟨_, rfl, Nat.le_trans HC2.out.size (Nat.le_refl _), HR3.out, Below.trans HC2.out (below_low HB3.out HC2.out.size)⟩
theorem btellF (gx : Nat) (r : _root_.Rat) (w : World) (hx : Ra 88 w gx r) (ln : (words r.num.natAbs).length ≤ 67108864) (ld : (words r.den).length ≤ 67108864) :
 Calls Tryz.prog 89 #[.pointer (some ⟨gx, 0, none⟩)] w fun e w' => e = .returned (.agg #[.string ⟨(itext r.num).toArray⟩, .string ⟨(itext r.den).toArray⟩]) ∧ Below w.heap.size w w' := by
 have hb0 : Below w.heap.size w (w.alloc (.cells #[.string ⟨#[]⟩, .string ⟨#[]⟩] 31)) := (Below.refl _ _).alloc (Nat.le_refl _) _; have BX : Hid (Bk (w.alloc (.cells #[.string ⟨#[]⟩, .string ⟨#[]⟩] 31)) w.heap.size [.string ⟨#[]⟩, .string ⟨#[]⟩] 31) := hid ⟨by rw [block_at], by decide⟩
 have N1 := hid (bnum gx r (w.alloc (.cells #[.string ⟨#[]⟩, .string ⟨#[]⟩] 31)) (hx.below hb0) (by omega))
 have N2 := hid (fun (v : World) (q : Below (w.alloc (.cells #[.string ⟨#[]⟩, .string ⟨#[]⟩] 31)).heap.size (w.alloc (.cells #[.string ⟨#[]⟩, .string ⟨#[]⟩] 31)) v) => bdenom gx r v ((hx.below hb0).below q) (by omega))
 have ST := hid (fun (v : World) (g : Nat) (N : Int) (h : In 86 v g N) (l : (words N.natAbs).length ≤ 67108864) => bstring g N v h.ia l)
 have LN := hid ln; have LD : Hid ((words (r.den : Int).natAbs).length ≤ 67108864) := hid ld; have HB0 := hid hb0; have ES : Hid ((w.alloc (.cells #[.string ⟨#[]⟩, .string ⟨#[]⟩] 31)).heap.size = w.heap.size + 1) := hid (Array.size_push _); clear hx ln ld hb0; go_enter Tryz.func89, Tryz.ntmps89; go_wp2_with first | (go_at_call 135; (with_reducible refine (N1.out).mono ?_); rintro e w1 ⟨rfl, hI1, hb1⟩; have HI1 : Hid (In 86 w1 (w.heap.size + 1) r.num) := hid (by rw [← ES.out]; exact hI1); have HB1 := hid hb1; clear hI1 hb1) | (go_at_call 136; (with_reducible refine (ST.out w1 _ _ HI1.out LN.out).mono ?_); rintro e w2 ⟨rfl, hb2⟩; have HB2 := hid (Below.trans HB1.out (below_low hb2 HB1.out.size)); clear hb2) | (go_at_call 137; (with_reducible refine (N2.out w2 HB2.out).mono ?_); rintro e w3 ⟨rfl, hI3, hb3⟩; have HI3 := hid hI3; have HB3 := hid (Below.trans HB2.out (below_low hb3 HB2.out.size)); clear hI3 hb3) | (go_at_call 136; (with_reducible refine (ST.out w3 _ _ HI3.out LD.out).mono ?_); rintro e w4 ⟨rfl, hb4⟩; have HB4 := hid (Below.trans HB3.out (below_low hb4 HB3.out.size)); have hB4 : Bk w4 w.heap.size [.string ⟨#[]⟩, .string ⟨#[]⟩] 31 := BX.out.below HB4.out; have x0 := hB4.cell (i := 0) rfl; have x1 := hB4.cell (i := 1) rfl; have f0 := hB4.free 0; have f1 := hB4.free 1; haveI : Has w4 w.heap.size := ⟨hB4.lt⟩; clear hb4)
 have hB5 := (hB4.set 0 (.string ⟨(itext r.num).toArray⟩)).set 1 (.string ⟨(itext r.den).toArray⟩); refine bodyPost_ret (results_cell_row rfl _ _ w.heap.size 31 _ (0, 0) _ rfl hB5.1 (by rfl) (by rfl) (by rfl)) rfl ?_
 exact ⟨rfl, below_store (below_store (Below.trans HB0.out (below_low HB4.out HB0.out.size)) (Nat.le_refl _)) (Nat.le_refl _)⟩
def sameT (n d : ByteArray) : Bool := decide (n.data.toList = itext (rval n d).num) && decide (d.data.toList = itext (rval n d).den)
def checkE (a b c d : ByteArray) : Int :=
 if textE a false ≠ 0 then textE a false else if textE b true ≠ 0 then textE b true
 else if textE c false ≠ 0 then textE c false else if textE d true ≠ 0 then textE d true
 else if sameT a b = true ∧ sameT c d = true then 0 else 30
theorem mkRat_small (x : Int) (d : Nat) (h : d ≠ 0) : (mkRat x d).num.natAbs ≤ x.natAbs ∧ (mkRat x d).den ≤ d := by
 rw [Rat.num_mkRat, Rat.den_mkRat, if_neg h, if_neg h]
 constructor
 · rw [Int.natAbs_ediv_of_dvd]
   · exact Nat.div_le_self _ _
   · exact Int.ofNat_dvd_left.2 (Nat.gcd_dvd_right _ _)
 · exact Nat.div_le_self _ _
theorem rval_small {n d : ByteArray} (h : okT n d) : (words (rval n d).num.natAbs).length ≤ 16384 ∧ (words (rval n d).den).length ≤ 16384 := by
 obtain ⟨h1, h2⟩ := h; obtain ⟨l1, d1, -⟩ := textE_ok h1; obtain ⟨l2, d2, d3⟩ := textE_ok h2; obtain ⟨d4, d5⟩ := d3 rfl; have n0 := dval_ne0 d2 d5; have i1 := dval_lt (digB_isdig d1).1; have i2 := dval_lt (digB_isdig d2).1; rw [← bytes_len _ _ rfl] at i1 i2; have m := mkRat_small (ival n) _ n0; rw [ival_abs] at m; exact ⟨Nat.le_trans (dec_len (Nat.lt_of_le_of_lt m.1 i1)) l1, Nat.le_trans (dec_len (Nat.lt_of_le_of_lt m.2 i2)) l2⟩
theorem info80 : (Tryz.prog.info? 80).map (fun i => (i.zero, i.size, i.bytes)) = some (some (.pointer none), 1, 8) := by kernel_rfl
theorem und137 : Tryz.prog.underlying 137 = some (.slice 80) := by kernel_rfl
theorem make_two {ops : Array Oper} {rest : List Oper} {o : Oper} {a : Act} {Q : Exit → Act → World → Prop} (w : World) (hg : o.guard = none) (l c : Operand) (hop : o.op = Op.makeSlice 137 l c)
 (hl : a.eval l = .int .i64 2) (hc : a.eval c = .int .i64 2)
 (hK : ∀ w1, Bk w1 w.heap.size [.pointer none, .pointer none] 80 → Below w.heap.size w w1 → wpList Tryz.prog ops Q rest (a.put o.dst (.slice (some ⟨w.heap.size, 0, none⟩) 2 2)) w1) :
 wpList Tryz.prog ops Q (o :: rest) a w := by
 obtain ⟨ti, hti, htz, hts, htb⟩ := info_parts info80; refine wpList_make_full w hg l c 137 hop w.heap.size 80 ti _ 1 und137 hti htz hts .i64 .i64 2 2 2 hl hc rfl rfl (by rw [htb]; omega) (by unfold maxLen; omega) (Nat.le_refl _) (fun w1 hown hgrow => ?_)
 refine hK w1 ?_ (Keeps.below ⟨hgrow.os, hgrow.tape, hgrow.output, hgrow.size, fun k hk _ => hgrow.block k hk (by simp)⟩)
 rcases hown.2 with ⟨h0, -⟩ | ⟨k, cap, cur, he, hgk, hb, h1, h2, h3, h4⟩
 · cases h0
 · simp only [Value.slice.injEq, Option.some.injEq, Addr.mk.injEq] at he; obtain ⟨⟨rfl, -, -⟩, -, rfl⟩ := he; rw [show (Value.pointer none).cells = #[Value.pointer none] from rfl, toList_madeCells_one, List.take_of_length_le (by rw [Array.length_toList, h3]; exact Nat.le_refl _)] at h4
   refine ⟨?_, by decide⟩
   rw [hb]
   have e : cur = #[Value.pointer none, Value.pointer none] := by
    rw [← Array.toList_inj, h4]; rfl
   rw [e]
theorem str_ne {s t : ByteArray} (h : ¬ s = t) : (s.toList == t.toList) = false := by
 rw [ByteArray.toList_eq, ByteArray.toList_eq]; exact beq_eq_false_iff_ne.2 (fun e => h (ByteArray.ext (Array.toList_inj.1 e)))
theorem same_iff (n d : ByteArray) : sameT n d = true ↔ (⟨(itext (rval n d).num).toArray⟩ : ByteArray) = n ∧ (⟨(itext (rval n d).den).toArray⟩ : ByteArray) = d := by
 have h : ∀ (t : ByteArray) (L : List UInt8), t.data.toList = L ↔ (⟨L.toArray⟩ : ByteArray) = t := by
  intro t L
  constructor
  · intro e; subst e; rfl
  · intro e; subst e; rfl
 unfold sameT; rw [Bool.and_eq_true, decide_eq_true_iff, decide_eq_true_iff, h, h]
def ReadPost (a b c d : ByteArray) (w : World) (e : Ending) (w' : World) : Prop := Below w.heap.size w w' ∧
 ((checkE a b c d ≠ 0 ∧ e = .returned (.tuple #[.slice none 0 0, .int .i64 (checkE a b c d)])) ∨
  (checkE a b c d = 0 ∧ ∃ g x y, e = .returned (.tuple #[.slice (some ⟨g, 0, none⟩) 2 2, .int .i64 0]) ∧ w.heap.size ≤ g ∧ w.heap.size ≤ x ∧ w.heap.size ≤ y ∧
    Bk w' g [.pointer (some ⟨x, 0, none⟩), .pointer (some ⟨y, 0, none⟩)] 80 ∧ Ra 88 w' x (rval a b) ∧ Ra 88 w' y (rval c d)))
theorem bread2 (g T : Nat) (a b c d : ByteArray) (w : World) (hB : Bk w g [.string a, .string b, .string c, .string d] T) (ha : a.size ≤ maxLen) (hb : b.size ≤ maxLen) (hc : c.size ≤ maxLen) (hd : d.size ≤ maxLen) (hvr : Vr w) :
 Calls Tryz.prog 91 #[.slice (some ⟨g, 0, none⟩) 2 2] w (ReadPost a b c d w) := by
 have T1 := hid (btext139 a false ha); have T2 := hid (btext139 b true hb); have T3 := hid (btext139 c false hc); have T4 := hid (btext139 d true hd); obtain ⟨E1, h1⟩ : ∃ E, E = textE a false := ⟨_, rfl⟩; obtain ⟨E2, h2⟩ : ∃ E, E = textE b true := ⟨_, rfl⟩; obtain ⟨E3, h3⟩ : ∃ E, E = textE c false := ⟨_, rfl⟩; obtain ⟨E4, h4⟩ : ∃ E, E = textE d true := ⟨_, rfl⟩; rw [← h1] at T1; rw [← h2] at T2; rw [← h3] at T3; rw [← h4] at T4; have H1 := hid h1.symm; have H2 := hid h2.symm; have H3 := hid h3.symm; have H4 := hid h4.symm; have HV := hid hvr; have FR1 := hid (fun (ok : okT a b) (v : World) (q : Below w.heap.size w v) => bfraction a b v ok (hvr.below q))
 have TL1 := hid (fun (ok : okT a b) (x : Nat) (v : World) (q : Ra 88 v x (rval a b)) => btellF x (rval a b) v q (by have := rval_small ok; omega) (by have := rval_small ok; omega))
 have TL2 := hid (fun (ok : okT c d) (x : Nat) (v : World) (q : Ra 88 v x (rval c d)) => btellF x (rval c d) v q (by have := rval_small ok; omega) (by have := rval_small ok; omega))
 have FR2 := hid (fun (ok : okT c d) (v : World) (q : Below w.heap.size w v) => bfraction c d v ok (hvr.below q))
 obtain ⟨A1, hA1⟩ : ∃ A, A = (⟨(itext (rval a b).num).toArray⟩ : ByteArray) := ⟨_, rfl⟩; obtain ⟨A2, hA2⟩ : ∃ A, A = (⟨(itext (rval a b).den).toArray⟩ : ByteArray) := ⟨_, rfl⟩; obtain ⟨A3, hA3⟩ : ∃ A, A = (⟨(itext (rval c d).num).toArray⟩ : ByteArray) := ⟨_, rfl⟩; obtain ⟨A4, hA4⟩ : ∃ A, A = (⟨(itext (rval c d).den).toArray⟩ : ByteArray) := ⟨_, rfl⟩; rw [← hA1, ← hA2] at TL1; rw [← hA3, ← hA4] at TL2; have HA1 := hid hA1; have HA2 := hid hA2; have HA3 := hid hA3; have HA4 := hid hA4; clear hA1 hA2 hA3 hA4; clear h1 h2 h3 h4 hvr ha hb hc hd; haveI : Has w g := ⟨hB.lt⟩; have hB := hid hB; go_enter Tryz.func91, Tryz.ntmps91; go_wp2_with fail
 go_loopw [13] (fun s13 wr => ∃ j : Nat, s13 = .int .i64 j ∧ j ≤ 2 ∧ Below w.heap.size w wr ∧ Hid (1 ≤ j → E1 = 0 ∧ E2 = 0) ∧ Hid (2 ≤ j → E3 = 0 ∧ E4 = 0)) (fun s13 _ => 2 - (intOf s13).toNat)
 case atStart => exact ⟨0, rfl, by omega, Below.refl _ _, hid (fun h => absurd h (by decide)), hid (fun h => absurd h (by decide))⟩
 case round =>
  obtain ⟨j, rfl, hj, hb, hF1, hF2⟩ := hrel; have hBw := hB.out.below hb; have c0 := hBw.cell (i := 0) rfl; have c1 := hBw.cell (i := 1) rfl; have c2 := hBw.cell (i := 2) rfl; have c3 := hBw.cell (i := 3) rfl; haveI : Has wr g := ⟨hBw.lt⟩; clear hBw; by_cases j0 : j = 0
  · subst j0; by_cases e1 : E1 = 0
    · by_cases e2 : E2 = 0
      · have b1 : (E1 != 0) = false := by rw [e1]; rfl
        have b2 : (E2 != 0) = false := by rw [e2]; rfl
        have HG : Hid (E1 = 0 ∧ E2 = 0) := hid ⟨e1, e2⟩; have HB := hid (((hb.alloc hb.size (.cells #[.string a, .string b] 31)))); clear e1 e2; go_wp2_with first | (go_at_call 139; (with_reducible refine (T1.out _).mono ?_); rintro e w' ⟨rfl, hw⟩; obtain rfl := hw.symm) | (go_at_call 139; (with_reducible refine (T2.out _).mono ?_); rintro e w' ⟨rfl, hw⟩; obtain rfl := hw.symm)
        go_round
        case rel => exact ⟨1, by go_num, by omega, HB.out, hid (fun _ => HG.out), hid (fun h => absurd h (by decide))⟩
        case measure => simp [intOf]
      · have b1 : (E1 != 0) = false := by rw [e1]; rfl
        have b2 : (E2 != 0) = true := bne_iff_ne.2 e2; have HR : Hid (checkE a b c d = E2) := hid (by unfold checkE; rw [H1.out, H2.out, H3.out, H4.out]; simp only [e1, ne_eq, not_true_eq_false, if_false]; rw [if_pos e2])
        have HN := hid e2; have HB := hid (((hb.alloc hb.size (.cells #[.string a, .string b] 31)))); clear e1 e2; go_wp2_with first | (go_at_call 139; (with_reducible refine (T1.out _).mono ?_); rintro e w' ⟨rfl, hw⟩; obtain rfl := hw.symm) | (go_at_call 139; (with_reducible refine (T2.out _).mono ?_); rintro e w' ⟨rfl, hw⟩; obtain rfl := hw.symm)
        go_ret2
        exact ⟨HB.out, .inl ⟨by rw [HR.out]; exact HN.out, by rw [HR.out]; rfl⟩⟩
    · have b1 : (E1 != 0) = true := bne_iff_ne.2 e1; have HR : Hid (checkE a b c d = E1) := hid (by unfold checkE; rw [H1.out, H2.out, H3.out, H4.out]; rw [if_pos e1])
      have HN := hid e1; have HB := hid (((hb.alloc hb.size (.cells #[.string a, .string b] 31)))); clear e1; go_wp2_with first | (go_at_call 139; (with_reducible refine (T1.out _).mono ?_); rintro e w' ⟨rfl, hw⟩; obtain rfl := hw.symm) | (go_at_call 139; (with_reducible refine (T2.out _).mono ?_); rintro e w' ⟨rfl, hw⟩; obtain rfl := hw.symm)
      go_ret2
      exact ⟨HB.out, .inl ⟨by rw [HR.out]; exact HN.out, by rw [HR.out]; rfl⟩⟩
  by_cases j1 : j = 1
  · subst j1; by_cases e3 : E3 = 0
    · by_cases e4 : E4 = 0
      · have b1 : (E3 != 0) = false := by rw [e3]; rfl
        have b2 : (E4 != 0) = false := by rw [e4]; rfl
        have HG : Hid (E3 = 0 ∧ E4 = 0) := hid ⟨e3, e4⟩; have HB := hid (((hb.alloc hb.size (.cells #[.string c, .string d] 31)))); clear e3 e4; go_wp2_with first | (go_at_call 139; (with_reducible refine (T3.out _).mono ?_); rintro e w' ⟨rfl, hw⟩; obtain rfl := hw.symm) | (go_at_call 139; (with_reducible refine (T4.out _).mono ?_); rintro e w' ⟨rfl, hw⟩; obtain rfl := hw.symm)
        go_round
        case rel => exact ⟨2, by go_num, by omega, HB.out, hid (fun _ => hF1.out (by decide)), hid (fun _ => HG.out)⟩
        case measure => simp [intOf]
      · have b1 : (E3 != 0) = false := by rw [e3]; rfl
        have b2 : (E4 != 0) = true := bne_iff_ne.2 e4; have HR : Hid (checkE a b c d = E4) := hid (by unfold checkE; rw [H1.out, H2.out, H3.out, H4.out]; simp only [(hF1.out (by decide)).1, (hF1.out (by decide)).2, e3, ne_eq, not_true_eq_false, if_false]; rw [if_pos e4])
        have HN := hid e4; have HB := hid (((hb.alloc hb.size (.cells #[.string c, .string d] 31)))); clear e3 e4; go_wp2_with first | (go_at_call 139; (with_reducible refine (T3.out _).mono ?_); rintro e w' ⟨rfl, hw⟩; obtain rfl := hw.symm) | (go_at_call 139; (with_reducible refine (T4.out _).mono ?_); rintro e w' ⟨rfl, hw⟩; obtain rfl := hw.symm)
        go_ret2
        exact ⟨HB.out, .inl ⟨by rw [HR.out]; exact HN.out, by rw [HR.out]; rfl⟩⟩
    · have b1 : (E3 != 0) = true := bne_iff_ne.2 e3; have HR : Hid (checkE a b c d = E3) := hid (by unfold checkE; rw [H1.out, H2.out, H3.out, H4.out]; simp only [(hF1.out (by decide)).1, (hF1.out (by decide)).2, ne_eq, not_true_eq_false, if_false]; rw [if_pos e3])
      have HN := hid e3; have HB := hid (((hb.alloc hb.size (.cells #[.string c, .string d] 31)))); clear e3; go_wp2_with first | (go_at_call 139; (with_reducible refine (T3.out _).mono ?_); rintro e w' ⟨rfl, hw⟩; obtain rfl := hw.symm) | (go_at_call 139; (with_reducible refine (T4.out _).mono ?_); rintro e w' ⟨rfl, hw⟩; obtain rfl := hw.symm)
      go_ret2
      exact ⟨HB.out, .inl ⟨by rw [HR.out]; exact HN.out, by rw [HR.out]; rfl⟩⟩
  obtain rfl : j = 2 := by omega
  have HOK : Hid (okT a b ∧ okT c d) := hid ⟨⟨H1.out.trans (hF1.out (by decide)).1, H2.out.trans (hF1.out (by decide)).2⟩, ⟨H3.out.trans (hF2.out (by decide)).1, H4.out.trans (hF2.out (by decide)).2⟩⟩
  have Hb := hid hb; clear hb hF1 hF2 hj j0 j1; go_wp2_with (at_make; refine make_two _ (by rfl) _ _ (by rfl) (by rfl) (by rfl) ?_; intro wq hBq hbq)
  have Hq := hid (Below.trans Hb.out (below_low hbq Hb.out.size)); have HBq := hid hBq; have HG := hid Hb.out.size; clear hBq hbq; obtain ⟨G, hG⟩ : ∃ G, G = wr.heap.size := ⟨_, rfl⟩; have HGE := hid hG; rw [← hG] at HBq HG; rw [← hG]; clear hG; go_loopw [35] (fun s35 wx => ∃ (j : Nat) (p0 p1 : Value), s35 = .int .i64 j ∧ j ≤ 2 ∧ Bk wx G [p0, p1] 80 ∧ Below w.heap.size w wx ∧ Hid (1 ≤ j → ∃ x, p0 = .pointer (some ⟨x, 0, none⟩) ∧ w.heap.size ≤ x ∧ Ra 88 wx x (rval a b) ∧ sameT a b = true) ∧ Hid (2 ≤ j → ∃ x, p1 = .pointer (some ⟨x, 0, none⟩) ∧ w.heap.size ≤ x ∧ Ra 88 wx x (rval c d) ∧ sameT c d = true)) (fun s35 _ => 2 - (intOf s35).toNat)
  case atStart => exact ⟨0, _, _, rfl, by omega, HBq.out, Hq.out, hid (fun h => absurd h (by decide)), hid (fun h => absurd h (by decide))⟩
  case round =>
   obtain ⟨j, p0, p1, rfl, hj, hBx, hb, hF1, hF2⟩ := hrel; have hBw := hB.out.below hb; have c0 := hBw.cell (i := 0) rfl; have c1 := hBw.cell (i := 1) rfl; have c2 := hBw.cell (i := 2) rfl; have c3 := hBw.cell (i := 3) rfl; haveI : Has wr g := ⟨hBw.lt⟩; clear hBw; by_cases j0 : j = 0
   · subst j0; have Hb2 := hid (hb.alloc hb.size (.cells #[.string a, .string b] 31)); have HB2 : Hid (Bk (wr.alloc (.cells #[.string a, .string b] 31)) wr.heap.size [.string a, .string b] 31) := hid ⟨by rw [block_at], by decide⟩
     have HG2 := hid (hBx.below ((Below.refl wr.heap.size wr).alloc (Nat.le_refl _) (.cells #[.string a, .string b] 31))); clear hBx hb hF1 hF2; go_upto_region 16 with (go_at_call 140; (with_reducible refine (FR1.out HOK.out.1 _ Hb2.out).mono ?_); rintro e w3 ⟨x, rfl, hx3, hR3, hb3⟩; have HB3 := hid (HB2.out.below hb3); have hG3 := HG2.out.below hb3; have HG3 := hid hG3; have g0 := hG3.cell (i := 0) rfl; have f0 := hG3.free 0; haveI : Has w3 G := ⟨hG3.lt⟩; have HR3 := hid hR3; have Hb3 := hid (Below.trans Hb2.out (below_low hb3 Hb2.out.size)); have HX3 := hid (Nat.le_trans Hb2.out.size hx3); clear hx3 hR3 hb3 hG3)
     have K4 : Hid (Keeps w3.heap.size [G] w3 (w3.setCell ⟨G, 0, none⟩ (.pointer (some ⟨x, 0, none⟩)))) := hid ((Keeps.refl w3.heap.size [G] w3).set (Or.inl (by simp)) 0 (.pointer (some ⟨x, 0, none⟩)))
     have hxG : x ≠ G := by obtain ⟨v, d, hbv, -, -⟩ := HR3.out; exact hbv.ne HG3.out (by decide)
     have HR4 := hid (HR3.out.keep HG3.out K4.out hxG); have HG4 : Hid (Bk (w3.setCell ⟨G, 0, none⟩ (.pointer (some ⟨x, 0, none⟩))) G [.pointer (some ⟨x, 0, none⟩), p1] 80) := hid (HG3.out.set 0 (.pointer (some ⟨x, 0, none⟩))); have hng : wr.heap.size ≠ G := HB3.out.ne HG3.out (by decide)
     have HB4 := hid (HB3.out.keep K4.out (Nat.le_refl _) (by simpa using hng))
     have Hb4 : Hid (Below w.heap.size w (w3.setCell ⟨G, 0, none⟩ (.pointer (some ⟨x, 0, none⟩)))) := hid (below_store Hb3.out HG.out); clear HR3 HG3 HB3 Hb3 g0 f0 K4 hxG hng; generalize w3.setCell ⟨G, 0, none⟩ (.pointer (some ⟨x, 0, none⟩)) = w4 at *; have g0 := HG4.out.cell (i := 0) rfl; have d0 := HB4.out.cell (i := 0) rfl; have d1 := HB4.out.cell (i := 1) rfl; haveI : Has w4 G := ⟨HG4.out.lt⟩; haveI : Has w4 wr.heap.size := ⟨HB4.out.lt⟩; by_cases n1 : A1 = a
     · by_cases n2 : A2 = b
       · have HS : Hid (sameT a b = true) := hid ((same_iff a b).2 ⟨HA1.out.symm.trans n1, HA2.out.symm.trans n2⟩); rw [n1, n2] at TL1; clear n1 n2; go_region_held3 (fun W => W.cell? ⟨wr.heap.size, 0, none⟩ = some (.string a) ∧ W.cell? ⟨wr.heap.size, 1, none⟩ = some (.string b) ∧ W.cell? ⟨G, 0, none⟩ = some (.pointer (some ⟨x, 0, none⟩))) (refine ⟨?_, ?_, ?_⟩ <;> (first | assumption | (simp [go_sem, *]; done))) ((go_at_call 89; (with_reducible refine (TL1.out HOK.out.1 x _ (HR4.out.below (Below.drew (Below.refl _ _)))).mono ?_); rintro e w5 ⟨rfl, hb5⟩; have hq5 := Below.trans (Below.drew (Below.refl w4.heap.size w4)) hb5; have g5 := (HG4.out.below hq5).cell (i := 0) rfl; have d50 := (HB4.out.below hq5).cell (i := 0) rfl; have d51 := (HB4.out.below hq5).cell (i := 1) rfl; haveI : Has w5 G := ⟨(HG4.out.below hq5).lt⟩; haveI : Has w5 wr.heap.size := ⟨(HB4.out.below hq5).lt⟩; have HQ5 := hid hq5; clear hb5 hq5))
         go_wp2_with fail
         go_round
         case rel => exact ⟨1, _, _, by go_num, by omega, HG4.out.below HQ5.out, Below.trans Hb4.out (below_low HQ5.out Hb4.out.size), hid (fun _ => ⟨x, rfl, HX3.out, HR4.out.below HQ5.out, HS.out⟩), hid (fun h => absurd h (by decide))⟩
         case measure => simp [intOf]
       · have m1 := n1; clear n1; have n1 := n2; clear n2
         have HC : Hid (checkE a b c d = 30) := hid (by
          unfold checkE; have h := HOK.out; rw [h.1.1, h.1.2, h.2.1, h.2.2, if_neg (by decide), if_neg (by decide), if_neg (by decide), if_neg (by decide), if_neg]
          intro hh; have := (same_iff a b).1 hh.1; rw [← HA1.out, ← HA2.out] at this
          first
           | exact n1 this.1
           | exact n1 this.2)
         rw [m1] at TL1; clear m1; have n2 := str_ne n1; go_region_held3 (fun W => W.cell? ⟨wr.heap.size, 0, none⟩ = some (.string a) ∧ W.cell? ⟨wr.heap.size, 1, none⟩ = some (.string b) ∧ W.cell? ⟨G, 0, none⟩ = some (.pointer (some ⟨x, 0, none⟩))) (refine ⟨?_, ?_, ?_⟩ <;> (first | assumption | (simp [go_sem, *]; done))) ((go_at_call 89; (with_reducible refine (TL1.out HOK.out.1 x _ (HR4.out.below (Below.drew (Below.refl _ _)))).mono ?_); rintro e w5 ⟨rfl, hb5⟩; have hq5 := Below.trans (Below.drew (Below.refl w4.heap.size w4)) hb5; have g5 := (HG4.out.below hq5).cell (i := 0) rfl; have d50 := (HB4.out.below hq5).cell (i := 0) rfl; have d51 := (HB4.out.below hq5).cell (i := 1) rfl; haveI : Has w5 G := ⟨(HG4.out.below hq5).lt⟩; haveI : Has w5 wr.heap.size := ⟨(HB4.out.below hq5).lt⟩; have HQ5 := hid hq5; clear hb5 hq5))
         go_wp2_with fail
         go_ret2
         exact ⟨Below.trans Hb4.out (below_low HQ5.out Hb4.out.size), .inl ⟨by rw [HC.out]; decide, by rw [HC.out]; rfl⟩⟩
     · have HC : Hid (checkE a b c d = 30) := hid (by
        unfold checkE; have h := HOK.out; rw [h.1.1, h.1.2, h.2.1, h.2.2, if_neg (by decide), if_neg (by decide), if_neg (by decide), if_neg (by decide), if_neg]
        intro hh; have := (same_iff a b).1 hh.1; rw [← HA1.out, ← HA2.out] at this
        first
         | exact n1 this.1
         | exact n1 this.2)
       have n2 := str_ne n1; go_region_held3 (fun W => W.cell? ⟨wr.heap.size, 0, none⟩ = some (.string a) ∧ W.cell? ⟨wr.heap.size, 1, none⟩ = some (.string b) ∧ W.cell? ⟨G, 0, none⟩ = some (.pointer (some ⟨x, 0, none⟩))) (refine ⟨?_, ?_, ?_⟩ <;> (first | assumption | (simp [go_sem, *]; done))) ((go_at_call 89; (with_reducible refine (TL1.out HOK.out.1 x _ (HR4.out.below (Below.drew (Below.refl _ _)))).mono ?_); rintro e w5 ⟨rfl, hb5⟩; have hq5 := Below.trans (Below.drew (Below.refl w4.heap.size w4)) hb5; have g5 := (HG4.out.below hq5).cell (i := 0) rfl; have d50 := (HB4.out.below hq5).cell (i := 0) rfl; have d51 := (HB4.out.below hq5).cell (i := 1) rfl; haveI : Has w5 G := ⟨(HG4.out.below hq5).lt⟩; haveI : Has w5 wr.heap.size := ⟨(HB4.out.below hq5).lt⟩; have HQ5 := hid hq5; clear hb5 hq5))
       go_wp2_with fail
       go_ret2
       exact ⟨Below.trans Hb4.out (below_low HQ5.out Hb4.out.size), .inl ⟨by rw [HC.out]; decide, by rw [HC.out]; rfl⟩⟩
   by_cases j1 : j = 1
   · subst j1; have Hb2 := hid (hb.alloc hb.size (.cells #[.string c, .string d] 31)); have HB2 : Hid (Bk (wr.alloc (.cells #[.string c, .string d] 31)) wr.heap.size [.string c, .string d] 31) := hid ⟨by rw [block_at], by decide⟩
     have HG2 := hid (hBx.below ((Below.refl wr.heap.size wr).alloc (Nat.le_refl _) (.cells #[.string c, .string d] 31))); obtain ⟨x0, h01, h02, h03, h04⟩ := hF1.out (by decide)
     subst h01; have HF3 := hid (h03.below ((Below.refl wr.heap.size wr).alloc (Nat.le_refl _) (.cells #[.string c, .string d] 31))); have H02 := hid h02; have H04 := hid h04; clear h02 h03 h04; clear hBx hb hF1 hF2; go_upto_region 16 with (go_at_call 140; (with_reducible refine (FR2.out HOK.out.2 _ Hb2.out).mono ?_); rintro e w3 ⟨x, rfl, hx3, hR3, hb3⟩; have HB3 := hid (HB2.out.below hb3); have hG3 := HG2.out.below hb3; have HG3 := hid hG3; have g0 := hG3.cell (i := 1) rfl; have f0 := hG3.free 1; haveI : Has w3 G := ⟨hG3.lt⟩; have HR3 := hid hR3; have Hb3 := hid (Below.trans Hb2.out (below_low hb3 Hb2.out.size)); have HX3 := hid (Nat.le_trans Hb2.out.size hx3); have HF3b := hid (HF3.out.below hb3); clear hx3 hR3 hb3 hG3)
     have K4 : Hid (Keeps w3.heap.size [G] w3 (w3.setCell ⟨G, 1, none⟩ (.pointer (some ⟨x, 0, none⟩)))) := hid ((Keeps.refl w3.heap.size [G] w3).set (Or.inl (by simp)) 1 (.pointer (some ⟨x, 0, none⟩)))
     have hxG : x ≠ G := by obtain ⟨v, d, hbv, -, -⟩ := HR3.out; exact hbv.ne HG3.out (by decide)
     have HR4 := hid (HR3.out.keep HG3.out K4.out hxG); have HG4 : Hid (Bk (w3.setCell ⟨G, 1, none⟩ (.pointer (some ⟨x, 0, none⟩))) G [.pointer (some ⟨x0, 0, none⟩), .pointer (some ⟨x, 0, none⟩)] 80) := hid (HG3.out.set 1 (.pointer (some ⟨x, 0, none⟩))); have hng : wr.heap.size ≠ G := HB3.out.ne HG3.out (by decide)
     have HB4 := hid (HB3.out.keep K4.out (Nat.le_refl _) (by simpa using hng))
     have Hb4 : Hid (Below w.heap.size w (w3.setCell ⟨G, 1, none⟩ (.pointer (some ⟨x, 0, none⟩)))) := hid (below_store Hb3.out HG.out); have hx0G : x0 ≠ G := by obtain ⟨v, d, hbv, -, -⟩ := HF3b.out; exact hbv.ne HG3.out (by decide)
     have HF4 := hid (HF3b.out.keep HG3.out K4.out hx0G); clear hx0G HF3b; clear HR3 HG3 HB3 Hb3 g0 f0 K4 hxG hng; generalize w3.setCell ⟨G, 1, none⟩ (.pointer (some ⟨x, 0, none⟩)) = w4 at *; have g0 := HG4.out.cell (i := 1) rfl; have d0 := HB4.out.cell (i := 0) rfl; have d1 := HB4.out.cell (i := 1) rfl; haveI : Has w4 G := ⟨HG4.out.lt⟩; haveI : Has w4 wr.heap.size := ⟨HB4.out.lt⟩; by_cases n1 : A3 = c
     · by_cases n2 : A4 = d
       · have HS : Hid (sameT c d = true) := hid ((same_iff c d).2 ⟨HA3.out.symm.trans n1, HA4.out.symm.trans n2⟩); rw [n1, n2] at TL2; clear n1 n2; go_region_held3 (fun W => W.cell? ⟨wr.heap.size, 0, none⟩ = some (.string c) ∧ W.cell? ⟨wr.heap.size, 1, none⟩ = some (.string d) ∧ W.cell? ⟨G, 1, none⟩ = some (.pointer (some ⟨x, 0, none⟩))) (refine ⟨?_, ?_, ?_⟩ <;> (first | assumption | (simp [go_sem, *]; done))) ((go_at_call 89; (with_reducible refine (TL2.out HOK.out.2 x _ (HR4.out.below (Below.drew (Below.refl _ _)))).mono ?_); rintro e w5 ⟨rfl, hb5⟩; have hq5 := Below.trans (Below.drew (Below.refl w4.heap.size w4)) hb5; have g5 := (HG4.out.below hq5).cell (i := 1) rfl; have d50 := (HB4.out.below hq5).cell (i := 0) rfl; have d51 := (HB4.out.below hq5).cell (i := 1) rfl; haveI : Has w5 G := ⟨(HG4.out.below hq5).lt⟩; haveI : Has w5 wr.heap.size := ⟨(HB4.out.below hq5).lt⟩; have HQ5 := hid hq5; clear hb5 hq5))
         go_wp2_with fail
         go_round
         case rel => exact ⟨2, _, _, by go_num, by omega, HG4.out.below HQ5.out, Below.trans Hb4.out (below_low HQ5.out Hb4.out.size), hid (fun _ => ⟨x0, rfl, H02.out, HF4.out.below HQ5.out, H04.out⟩), hid (fun _ => ⟨x, rfl, HX3.out, HR4.out.below HQ5.out, HS.out⟩)⟩
         case measure => simp [intOf]
       · have m1 := n1; clear n1; have n1 := n2; clear n2
         have HC : Hid (checkE a b c d = 30) := hid (by
          unfold checkE; have h := HOK.out; rw [h.1.1, h.1.2, h.2.1, h.2.2, if_neg (by decide), if_neg (by decide), if_neg (by decide), if_neg (by decide), if_neg]
          intro hh; have := (same_iff c d).1 hh.2; rw [← HA3.out, ← HA4.out] at this
          first
           | exact n1 this.1
           | exact n1 this.2)
         rw [m1] at TL2; clear m1; have n2 := str_ne n1; go_region_held3 (fun W => W.cell? ⟨wr.heap.size, 0, none⟩ = some (.string c) ∧ W.cell? ⟨wr.heap.size, 1, none⟩ = some (.string d) ∧ W.cell? ⟨G, 1, none⟩ = some (.pointer (some ⟨x, 0, none⟩))) (refine ⟨?_, ?_, ?_⟩ <;> (first | assumption | (simp [go_sem, *]; done))) ((go_at_call 89; (with_reducible refine (TL2.out HOK.out.2 x _ (HR4.out.below (Below.drew (Below.refl _ _)))).mono ?_); rintro e w5 ⟨rfl, hb5⟩; have hq5 := Below.trans (Below.drew (Below.refl w4.heap.size w4)) hb5; have g5 := (HG4.out.below hq5).cell (i := 1) rfl; have d50 := (HB4.out.below hq5).cell (i := 0) rfl; have d51 := (HB4.out.below hq5).cell (i := 1) rfl; haveI : Has w5 G := ⟨(HG4.out.below hq5).lt⟩; haveI : Has w5 wr.heap.size := ⟨(HB4.out.below hq5).lt⟩; have HQ5 := hid hq5; clear hb5 hq5))
         go_wp2_with fail
         go_ret2
         exact ⟨Below.trans Hb4.out (below_low HQ5.out Hb4.out.size), .inl ⟨by rw [HC.out]; decide, by rw [HC.out]; rfl⟩⟩
     · have HC : Hid (checkE a b c d = 30) := hid (by
        unfold checkE; have h := HOK.out; rw [h.1.1, h.1.2, h.2.1, h.2.2, if_neg (by decide), if_neg (by decide), if_neg (by decide), if_neg (by decide), if_neg]
        intro hh; have := (same_iff c d).1 hh.2; rw [← HA3.out, ← HA4.out] at this
        first
         | exact n1 this.1
         | exact n1 this.2)
       have n2 := str_ne n1; go_region_held3 (fun W => W.cell? ⟨wr.heap.size, 0, none⟩ = some (.string c) ∧ W.cell? ⟨wr.heap.size, 1, none⟩ = some (.string d) ∧ W.cell? ⟨G, 1, none⟩ = some (.pointer (some ⟨x, 0, none⟩))) (refine ⟨?_, ?_, ?_⟩ <;> (first | assumption | (simp [go_sem, *]; done))) ((go_at_call 89; (with_reducible refine (TL2.out HOK.out.2 x _ (HR4.out.below (Below.drew (Below.refl _ _)))).mono ?_); rintro e w5 ⟨rfl, hb5⟩; have hq5 := Below.trans (Below.drew (Below.refl w4.heap.size w4)) hb5; have g5 := (HG4.out.below hq5).cell (i := 1) rfl; have d50 := (HB4.out.below hq5).cell (i := 0) rfl; have d51 := (HB4.out.below hq5).cell (i := 1) rfl; haveI : Has w5 G := ⟨(HG4.out.below hq5).lt⟩; haveI : Has w5 wr.heap.size := ⟨(HB4.out.below hq5).lt⟩; have HQ5 := hid hq5; clear hb5 hq5))
       go_wp2_with fail
       go_ret2
       exact ⟨Below.trans Hb4.out (below_low HQ5.out Hb4.out.size), .inl ⟨by rw [HC.out]; decide, by rw [HC.out]; rfl⟩⟩
   obtain rfl : j = 2 := by omega
   obtain ⟨x0, h01, h02, h03, h04⟩ := hF1.out (by decide)
   obtain ⟨y0, h11, h12, h13, h14⟩ := hF2.out (by decide)
   subst h01; subst h11
   have HC : Hid (checkE a b c d = 0) := hid (by
    unfold checkE; have h := HOK.out; rw [h.1.1, h.1.2, h.2.1, h.2.2, if_neg (by decide), if_neg (by decide), if_neg (by decide), if_neg (by decide), if_pos ⟨h04, h14⟩])
   have HZ : Hid (ReadPost a b c d w (.returned (.tuple #[.slice (some ⟨G, 0, none⟩) 2 2, .int .i64 0])) wr) := hid ⟨hb, .inr ⟨HC.out, G, x0, y0, rfl, HG.out, h02, h12, hBx, h03, h13⟩⟩; clear h02 h03 h04 h12 h13 h14 hBx hb hF1 hF2 hj j0 j1; go_wp2_with fail
   go_ret2
   exact HZ.out
abbrev exV (a b c d : ByteArray) : Value := .agg #[.string a, .string b, .string c, .string d]
theorem results_row_tmp {P : Program} {fn : Func} {p u : Tmp} {ty : TypeId} (h : fn.results = #[.cell p ty, .tmp u]) (tmps : Array Value) (w : World) (g : Nat) (t : TypeId) (cs : Array Value) (fr : Nat × Nat) (d : TypeDesc)
 (hp : tmps.getD p undef = .pointer (some ⟨g, 0, none⟩)) (hg : w.heap[g]? = some (.cells cs t fr))
 (hu : P.underlying ty = some d) (hd : (match d with | .struct _ | .array _ _ => true | _ => false) = true) (hi : (P.info? ty).map (·.size) = some cs.size) :
 (results fn tmps).run P w = .ok (.tuple #[.agg cs, tmps.getD u undef]) w := by
 rw [results_cell_tmp h, hp]; simp [asAddr, Result.andThen, run_loadVar_row w g t ty cs fr d hg hu hd hi]
def Nu (R B : Nat) (w : World) (v : Value) (x y : _root_.Rat) : Prop := ∃ g k, v = .agg #[.pointer (some ⟨g, 0, none⟩), .pointer (some ⟨k, 0, none⟩)] ∧ B ≤ g ∧ B ≤ k ∧ Ra R w g x ∧ Ra R w k y
theorem boneX (a b c d : ByteArray) (w : World) (ha : a.size ≤ maxLen) (hb : b.size ≤ maxLen) (hc : c.size ≤ maxLen) (hd : d.size ≤ maxLen) (hvr : Vr w) :
 Calls Tryz.prog 75 #[exV a b c d] w fun e w' => Below w.heap.size w w' ∧ ∃ v, e = .returned (.tuple #[v, .int .i64 (checkE a b c d)]) ∧ (checkE a b c d ≠ 0 → v = .agg #[.pointer none, .pointer none]) ∧ (checkE a b c d = 0 → Nu 88 w.heap.size w' v (rval a b) (rval c d)) := by
 have HW : Hid (Below w.heap.size w (((w.alloc (.cells #[.string a, .string b, .string c, .string d] 33)).alloc (.cells #[.pointer none, .pointer none] 82)).alloc (.cells #[.string a, .string b, .string c, .string d] 31))) := hid ((((Below.refl _ _).alloc (Nat.le_refl _) _).alloc ((Below.refl w.heap.size w).alloc (Nat.le_refl _) (.cells #[.string a, .string b, .string c, .string d] 33)).size _).alloc ((((Below.refl w.heap.size w).alloc (Nat.le_refl _) (.cells #[.string a, .string b, .string c, .string d] 33)).alloc ((Below.refl w.heap.size w).alloc (Nat.le_refl _) (.cells #[.string a, .string b, .string c, .string d] 33)).size (.cells #[.pointer none, .pointer none] 82)).size) _); have HZ : Hid (Bk (((w.alloc (.cells #[.string a, .string b, .string c, .string d] 33)).alloc (.cells #[.pointer none, .pointer none] 82)).alloc (.cells #[.string a, .string b, .string c, .string d] 31)) (w.heap.size + 1) [.pointer none, .pointer none] 82) := hid ((show Bk ((w.alloc (.cells #[.string a, .string b, .string c, .string d] 33)).alloc (.cells #[.pointer none, .pointer none] 82)) (w.heap.size + 1) [.pointer none, .pointer none] 82 from ⟨by rw [block_at], by decide⟩).below ((Below.refl _ _).alloc (Nat.le_refl _) _))
 have CK := hid (fun (g T : Nat) (v : World) (q : Below w.heap.size w v) (h : Bk v g [.string a, .string b, .string c, .string d] T) => bread2 g T a b c d v h ha hb hc hd (hvr.below q))
 clear ha hb hc hd hvr; go_enter Tryz.func75, Tryz.ntmps75; go_upto_region 2 with (go_at_call 91; (with_reducible refine (CK.out _ 31 _ HW.out ?_).mono ?_); (focus (exact ⟨by rw [block_at], by decide⟩)); rintro e w1 ⟨hb1, hpost⟩; have HB1 := hid (Below.trans HW.out (below_low hb1 HW.out.size)); have hBZ := HZ.out.below hb1; have z0 := hBZ.cell (i := 0) rfl; have z1 := hBZ.cell (i := 1) rfl; have f0 := hBZ.free 0; have f1 := hBZ.free 1; haveI : Has w1 (w.heap.size + 1) := ⟨hBZ.lt⟩; rcases hpost with ⟨hn, rfl⟩ | ⟨hz, g, x, y, rfl, hg, hx, hy, hB, hRx, hRy⟩)
 · have b1 : (checkE a b c d != 0) = true := bne_iff_ne.2 hn; have HN := hid hn; clear hn hb1; go_wp2_with fail
   have hB5 := (hBZ.set 0 (.pointer none)).set 1 (.pointer none); refine bodyPost_ret (results_row_tmp rfl _ _ (w.heap.size + 1) 82 _ (0, 0) _ rfl hB5.1 (by rfl) (by rfl) (by rfl)) rfl ?_
   exact ⟨below_store (below_store HB1.out (Nat.le_add_right _ 1)) (Nat.le_add_right _ 1), _, rfl, fun _ => rfl, fun h => absurd h HN.out⟩
 · have g0 := hB.cell (i := 0) rfl; have g1 := hB.cell (i := 1) rfl; haveI : Has w1 g := ⟨hB.lt⟩; have hgn : g ≠ w.heap.size + 1 := hB.ne hBZ (by decide)
   have hgn2 : w.heap.size + 1 ≠ g := Ne.symm hgn; have HBZ := hid hBZ; have HRX := hid hRx; have HRY := hid hRy; have HX := hid (Nat.le_trans HW.out.size hx); have HY := hid (Nat.le_trans HW.out.size hy); have HBG := hid hB; have HZ0 := hid hz; clear hz hb1 hBZ hRx hRy hx hy hB hg; go_upto_region 4 with fail
   go_region_held3 (fun W => W.cell? ⟨g, 0, none⟩ = some (.pointer (some ⟨x, 0, none⟩)) ∧ W.cell? ⟨g, 1, none⟩ = some (.pointer (some ⟨y, 0, none⟩))) (refine ⟨?_, ?_⟩ <;> (first | assumption | (simp [go_sem, *]; done))) (fail)
   go_wp2_with fail
   have hB5 := (HBZ.out.set 0 (.pointer (some ⟨x, 0, none⟩))).set 1 (.pointer (some ⟨y, 0, none⟩)); have KP := ((Keeps.refl w1.heap.size [w.heap.size + 1] w1).set (Or.inl (List.mem_singleton.2 rfl)) 0 (.pointer (some ⟨x, 0, none⟩))).set (Or.inl (List.mem_singleton.2 rfl)) 1 (.pointer (some ⟨y, 0, none⟩)); have nx : x ≠ w.heap.size + 1 := by obtain ⟨v, d, hbv, -, -⟩ := HRX.out; exact hbv.ne HBZ.out (by decide)
   have ny : y ≠ w.heap.size + 1 := by obtain ⟨v, d, hbv, -, -⟩ := HRY.out; exact hbv.ne HBZ.out (by decide)
   refine bodyPost_ret (results_row_tmp rfl _ _ (w.heap.size + 1) 82 _ (0, 0) _ rfl hB5.1 (by rfl) (by rfl) (by rfl)) rfl ?_
   rw [HZ0.out]; exact ⟨Below.drew (below_store (below_store HB1.out (Nat.le_add_right _ 1)) (Nat.le_add_right _ 1)), _, rfl, fun h => absurd rfl h, fun _ => ⟨x, y, rfl, HX.out, HY.out, HRX.out.keep HBZ.out KP.drew nx, HRY.out.keep HBZ.out KP.drew ny⟩⟩
theorem results_row2_tmp {P : Program} {fn : Func} {p q u : Tmp} {ty : TypeId} (h : fn.results = #[.cell p ty, .cell q ty, .tmp u]) (tmps : Array Value) (w : World) (g k : Nat) (t t' : TypeId) (cs cs' : Array Value) (fr fr' : Nat × Nat) (d : TypeDesc)
 (hp : tmps.getD p undef = .pointer (some ⟨g, 0, none⟩)) (hg : w.heap[g]? = some (.cells cs t fr)) (hq : tmps.getD q undef = .pointer (some ⟨k, 0, none⟩)) (hk : w.heap[k]? = some (.cells cs' t' fr'))
 (hu : P.underlying ty = some d) (hd : (match d with | .struct _ | .array _ _ => true | _ => false) = true) (hi : (P.info? ty).map (·.size) = some cs.size) (hi' : (P.info? ty).map (·.size) = some cs'.size) :
 (results fn tmps).run P w = .ok (.tuple #[.agg cs, .agg cs', tmps.getD u undef]) w := by
 simp only [results, h]; have hp' : tmps[p]?.getD undef = .pointer (some ⟨g, 0, none⟩) := by simpa using hp
 have hq' : tmps[q]?.getD undef = .pointer (some ⟨k, 0, none⟩) := by simpa using hq
 simp [Sem.run_bind, Result.andThen, hp', hq', asAddr, run_loadVar_row w g t ty cs fr d hg hu hd hi, run_loadVar_row w k t' ty cs' fr' d hk hu hd hi']
theorem erquo (gz gx gy : Nat) (z0 z1 z2 : Value) (x y : _root_.Rat) (w : World) (hz : Bk w gz [z0, z1, z2] 125) (hx : Ra 125 w gx x) (hy : Ra 125 w gy y) (lx : (words x.num.natAbs).length ≤ 34359738368) (mx : (words x.den).length ≤ 34359738368) (ly : (words y.num.natAbs).length ≤ 34359738368) (my : (words y.den).length ≤ 34359738368) (hy0 : y.num ≠ 0) :
 Calls Tryz.prog 99 #[.pointer (some ⟨gz, 0, none⟩), .pointer (some ⟨gx, 0, none⟩), .pointer (some ⟨gy, 0, none⟩)] w fun e w' => e = .returned (.pointer (some ⟨gz, 0, none⟩)) ∧ Ra 125 w' gz (x / y) ∧ Keeps w.heap.size [gz] w w' := by
 obtain ⟨vx, dx, bx, wx, ex⟩ := hx; obtain ⟨vy, dy, by_, wy, ey⟩ := hy; have B1 := hid (fun w' (h : Below w.heap.size w w') => ebelow gx _ vx dx x.den w' (bx.below h) (ex.below h) x.den_nz)
 have B2 := hid (fun w' (h : Below w.heap.size w w') => ebelow gy _ vy dy y.den w' (by_.below h) (ey.below h) y.den_nz)
 have lp := mul_len x.num.natAbs y.den; have lq := mul_len x.den y.num.natAbs; have M1 := hid (fun v w' (h : Below w.heap.size w w') (q : Wd w' v (words y.den)) => emulW vx v x.num.natAbs y.den w' (wx.below h) q (by omega))
 have M2 := hid (fun v w' (h : Below w.heap.size w w') (q : Wd w' v (words x.den)) => emulW v vy x.den y.num.natAbs w' q (wy.below h) (by omega))
 have TI := hid (fun va vd w' (h : Below w.heap.size w w') (q1 : Wd w' va (words (x.num.natAbs * y.den))) (q2 : Wd w' vd (words (x.den * y.num.natAbs))) => erset gz z0 z1 z2 (!(decide (x.num < 0) == decide (y.num < 0))) va vd (x.num.natAbs * y.den) (x.den * y.num.natAbs) w' (hz.below h) q1 q2 (Nat.mul_ne_zero x.den_nz (by omega)) (by omega) (by omega))
 rw [rat_div_mk' x y hy0] at TI; clear lp lq; obtain ⟨ax, cx, rfl, -, -⟩ := wx.form; obtain ⟨ay, cy, rfl, -, -⟩ := wy.form; have BX := hid bx; have BY := hid by_; have BZ := hid hz
 skip
 obtain ⟨r, hr⟩ : ∃ r, r = x / y := ⟨_, rfl⟩; rw [← hr] at TI ⊢; clear hr lx ly mx my; generalize (words x.num.natAbs).length = kx at *; generalize (words y.num.natAbs).length = ky at *; generalize decide (x.num < 0) = nx at *; generalize decide (y.num < 0) = ny at *; have x0 := bx.cell (i := 0) rfl; have x1 := bx.cell (i := 1) rfl; have y0 := by_.cell (i := 0) rfl; have y1 := by_.cell (i := 1) rfl; haveI : Has w gx := ⟨bx.lt⟩; haveI : Has w gy := ⟨by_.lt⟩; clear bx by_ wx wy ex ey hz; go_enter Tryz.func99, Tryz.ntmps99; go_wp2_with fail
 refine wp_region_late (S := (fun W => W.cell? ⟨gx, 0, none⟩ = some (.bool nx) ∧ W.cell? ⟨gx, 1, none⟩ = some (.slice ax kx cx) ∧ W.cell? ⟨gy, 0, none⟩ = some (.bool ny) ∧ W.cell? ⟨gy, 1, none⟩ = some (.slice ay ky cy))) 28 (by kernel_rfl) ?_ (fun hHeld => ?_)
 · (refine ⟨?_, ?_, ?_, ?_⟩ <;> (first | assumption | (simp [go_sem, *]; done)))
 refine wpAnyL_q 0 rfl ?_
 try simp only [Act.put, sA, sZ, sS]
 refine wpAnyL_q 1 rfl ?_
 try simp only [Act.put, sA, sZ, sS]
 refine wpAnyL_q 2 rfl ?_
 try simp only [Act.put, sA, sZ, sS]
 refine wpAnyL_q 3 rfl ?_
 try simp only [Act.put, sA, sZ, sS]
 refine wpAnyL_q 4 rfl ?_
 try simp only [Act.put, sA, sZ, sS]
 refine wpAnyL_q 6 rfl ?_
 try simp only [Act.put, sA, sZ, sS]
 refine wpAnyL_q 7 rfl ?_
 try simp only [Act.put, sA, sZ, sS]
 refine wpAnyL_q 8 rfl ?_
 try simp only [Act.put, sA, sZ, sS]
 refine wpAnyL_q 9 rfl ?_
 try simp only [Act.put, sA, sZ, sS]
 refine wpAnyL_q 12 rfl ?_
 try simp only [Act.put, sA, sZ, sS]
 refine wpAnyL_q 13 rfl ?_
 try simp only [Act.put, sA, sZ, sS]
 refine wpAnyL_q 14 rfl ?_
 try simp only [Act.put, sA, sZ, sS]
 refine wpAnyL_q 15 rfl ?_
 try simp only [Act.put, sA, sZ, sS]
 refine wpAnyL_q 17 rfl ?_
 try simp only [Act.put, sA, sZ, sS]
 refine wpAnyL_q 20 rfl ?_
 try simp only [Act.put, sA, sZ, sS]
 refine wpAnyL_q 22 rfl ?_
 try simp only [Act.put, sA, sZ, sS]
 refine wpAnyL_q 23 rfl ?_
 try simp only [Act.put, sA, sZ, sS]
 refine wpAnyL_q 24 rfl ?_
 try simp only [Act.put, sA, sZ, sS]
 refine wpAnyL_q 25 rfl ?_
 try simp only [Act.put, sA, sZ, sS]
 refine wpAnyL_r 5 rfl ?_
 try simp only [Act.put, sA, sZ, sS]
 refine wpAnyL_r 10 rfl ?_
 try simp only [Act.put, sA, sZ, sS]
 refine wpAnyL_q 11 rfl ?_
 try simp only [Act.put, sA, sZ, sS]
 refine wpAnyL_r 16 rfl ?_
 try simp only [Act.put, sA, sZ, sS]
 refine wpAnyL_r 26 rfl ?_
 try simp only [Act.put, sA, sZ, sS]
 refine wpAnyL_ready (rs := [18]) (by kernel_rfl) (by simp) ?_
 refine AllReadyL.early rfl (fun K hK => ?_) AllReadyL.nil
 go_simp
 (go_at_call 148; (with_reducible refine (B2.out _ ?_).mono ?_); (focus (first | assumption | exact Below.drew (Below.refl _ _))); rintro e w1 ⟨v1, rfl, h1, hq1⟩; have hb1 := Below.trans (Below.drew (Below.refl w.heap.size w)) hq1; have x01 := (BX.out.below hb1).cell (i := 0) rfl; have x11 := (BX.out.below hb1).cell (i := 1) rfl; have y01 := (BY.out.below hb1).cell (i := 0) rfl; have y11 := (BY.out.below hb1).cell (i := 1) rfl)
 refine hK.out _ _ ?_ (fun hHeld => ?_)
 · (refine ⟨?_, ?_, ?_, ?_⟩ <;> (first | assumption | (simp [go_sem, *]; done)))
 clear hK K
 try simp only [Act.put, sA, sZ, sS]
 refine wpAnyL_ready (rs := [19]) (by kernel_rfl) (by simp) ?_
 refine AllReadyL.early rfl (fun K hK => ?_) AllReadyL.nil
 go_simp
 (go_at_call 147; (with_reducible refine (M1.out _ _ hb1 h1).mono ?_); rintro e w2 ⟨v2, rfl, h2, -, hq2⟩; have hb2 := Below.trans hb1 (below_low hq2 hb1.size); have x02 := (BX.out.below hb2).cell (i := 0) rfl; have x12 := (BX.out.below hb2).cell (i := 1) rfl; have y02 := (BY.out.below hb2).cell (i := 0) rfl; have y12 := (BY.out.below hb2).cell (i := 1) rfl)
 refine hK.out _ _ ?_ (fun hHeld => ?_)
 · (refine ⟨?_, ?_, ?_, ?_⟩ <;> (first | assumption | (simp [go_sem, *]; done)))
 clear hK K
 try simp only [Act.put, sA, sZ, sS]
 refine wpAnyL_ready (rs := [21]) (by kernel_rfl) (by simp) ?_
 refine AllReadyL.early rfl (fun K hK => ?_) AllReadyL.nil
 go_simp
 (go_at_call 148; (with_reducible refine (B1.out _ hb2).mono ?_); rintro e w3 ⟨v3, rfl, h3, hq3⟩; have h23 := h2.below hq3; have hb3 := Below.trans hb2 (below_low hq3 hb2.size); have x03 := (BX.out.below hb3).cell (i := 0) rfl; have x13 := (BX.out.below hb3).cell (i := 1) rfl; have y03 := (BY.out.below hb3).cell (i := 0) rfl; have y13 := (BY.out.below hb3).cell (i := 1) rfl)
 refine hK.out _ _ ?_ (fun hHeld => ?_)
 · (refine ⟨?_, ?_, ?_, ?_⟩ <;> (first | assumption | (simp [go_sem, *]; done)))
 clear hK K
 try simp only [Act.put, sA, sZ, sS]
 refine wpAnyL_ready (rs := [27]) (by kernel_rfl) (by simp) ?_
 refine AllReadyL.early rfl (fun K hK => ?_) AllReadyL.nil
 go_simp
 (go_at_call 147; (with_reducible refine (M2.out _ _ hb3 h3).mono ?_); rintro e w4 ⟨v4, rfl, h4, -, hq4⟩; have h24 := h23.below hq4; have hb4 := Below.trans hb3 (below_low hq4 hb3.size); have hbl := hb4; have x04 := (BX.out.below hb4).cell (i := 0) rfl; have x14 := (BX.out.below hb4).cell (i := 1) rfl; have y04 := (BY.out.below hb4).cell (i := 0) rfl; have y14 := (BY.out.below hb4).cell (i := 1) rfl)
 refine hK.out _ _ ?_ (fun hHeld => ?_)
 · (refine ⟨?_, ?_, ?_, ?_⟩ <;> (first | assumption | (simp [go_sem, *]; done)))
 clear hK K
 try simp only [Act.put, sA, sZ, sS]
 refine wpAnyL_ready (rs := [28]) (by kernel_rfl) (by simp) ?_
 refine AllReadyL.late rfl (by kernel_rfl) (fun K hK => ?_) AllReadyL.nil
 go_simp
 (go_at_call 146; (with_reducible refine (TI.out _ _ _ hb4 h24 h4).mono ?_); rintro e wz ⟨rfl, hrz, hkz⟩)
 refine hK.out _ _ ?_
 clear hK K
 try simp only [Act.put, sA, sZ, sS]
 refine wpAnyL_ready (rs := [29]) (by kernel_rfl) (by simp) ?_
 refine AllReadyL.late rfl (by kernel_rfl) (fun K hK => ?_) AllReadyL.nil
 go_simp
 refine hK.out _ _ ?_
 clear hK K
 try simp only [Act.put, sA, sZ, sS]
 refine wpAnyL_done (by kernel_rfl) ?_ _
 go_wp2_with fail
 go_ret
 exact ⟨rfl, hrz, (Keeps.of_below hbl).trans (hkz.mono hbl.size (fun _ _ h => h))⟩
end Go.Proofs.YthjeejnggpjnjaaGreatDoor
