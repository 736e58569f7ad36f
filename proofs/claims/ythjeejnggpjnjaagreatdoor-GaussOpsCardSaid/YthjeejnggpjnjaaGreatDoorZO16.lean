/- A part: AQ, AR. -/
import Derived.Test.YthjeejnggpjnjaaGreatDoorZO15
set_option linter.unusedSimpArgs false
set_option linter.unusedVariables false
set_option maxRecDepth 100000
set_option maxHeartbeats 16000000
set_option synthInstance.maxHeartbeats 2000000
set_option synthInstance.maxSize 100000
namespace Go.Proofs.YthjeejnggpjnjaaGreatDoor
open Go.RowKit
theorem etext (gx : Nat) (N : Int) (w : World) (hx : In 123 w gx N) (h0 : N ≠ 0) (hl : (words N.natAbs).length ≤ 17179869184) :
 Calls Tryz.prog 204 #[.pointer (some ⟨gx, 0, none⟩), .int .i64 10] w fun e w' => e = .returned (.string ⟨(if N < 0 then 45 :: figs N.natAbs else figs N.natAbs).toArray⟩) ∧ Below w.heap.size w w' := by
 obtain ⟨vx, bx, wx⟩ := hx; obtain ⟨M, hM⟩ : ∃ M, M = N.natAbs := ⟨_, rfl⟩; rw [← hM] at wx hl; have CP := hid (fun w' (h : Below w.heap.size w w') => ecopied vx (words M) w' (wx.below h) (by omega))
 obtain ⟨ax, cx, rfl, -, -⟩ := wx.form; have BX := hid bx; have x0 := bx.cell (i := 0) rfl; have x1 := bx.cell (i := 1) rfl; haveI : Has w gx := ⟨bx.lt⟩; have hlen : (words M).length ≠ 0 := fun e => h0 (by have := words_len0.1 e; omega)
 have e0 : (((words M).length : Int) == 0) = false := beq_eq_false_iff_ne.2 (by omega)
 have HLL := hid hlen; obtain ⟨RS, hRS⟩ : ∃ RS, RS = (if N < 0 then 45 :: figs N.natAbs else figs N.natAbs) := ⟨_, rfl⟩
 rw [← hRS]; rw [← hM] at hRS; have HRS := hid hRS; have HM := hid hM; clear bx wx hlen h0 hM hRS; go_enter Tryz.func204, Tryz.ntmps204; go_wp2_with fail
 go_loop [5, 6] (fun sb sp => ∃ p : Nat, sb = .int .u32 (10 ^ p : Nat) ∧ sp = .int .i64 p ∧ 1 ≤ p ∧ p ≤ 9) (fun _ sp => 9 - (intOf sp).toNat)
 case atStart => exact ⟨1, rfl, rfl, by omega, by omega⟩
 case round =>
  obtain ⟨p, rfl, rfl, hp1, hp2⟩ := hrel; by_cases hp : p < 9
  · have h1 : 10 ^ p ≤ 10 ^ 8 := Nat.pow_le_pow_right (by decide) (by omega)
    have h2 : ((10 ^ (p + 1) : Nat) : Int) = ((10 ^ p : Nat) : Int) * 10 := by rw [Nat.pow_succ, Int.natCast_mul]; rfl
    rw [show (10 : Nat) ^ 8 = 100000000 from rfl] at h1
    have H2 := hid h2; clear h2; obtain ⟨B, hB⟩ : ∃ B, B = 10 ^ p := ⟨_, rfl⟩; rw [← hB] at h1 H2 ⊢; clear hB; go_wp2_with fail
    go_round
    case rel => exact ⟨p + 1, by rw [H2.out], by go_num, by omega, by omega⟩
    case measure => simp [intOf]; omega
  · obtain rfl : p = 9 := by omega
    rw [show ((10 ^ 9 : Nat) : Int) = 1000000000 from rfl, show ((9 : Nat) : Int) = 9 from rfl]
    clear hp hp1 hp2; go_wp2_with (go_at_call 199; (with_reducible refine (CP.out _ (Below.refl _ _)).mono ?_); rintro e w1 ⟨g, rfl, hR1, hgB, hb1⟩)
    go_loopw [7, 8] (fun vb vw wr => ∃ (n : Nat) (D : List UInt8), vw = .slice (some ⟨g, 0, none⟩) (words n).length (words M).length ∧ Hid (TellI w g (words M).length M n D vb wr)) (fun vb _ _ => 10 * (words M).length + 1 - lenV vb)
    case atStart => exact ⟨M, [], rfl, hid ⟨[], by rw [List.append_nil]; exact hR1, Nat.le_refl _, Ob.nil _ _, by simp, hb1, Nat.le_refl _⟩⟩
    case round =>
     obtain ⟨n, D, rfl, hT⟩ := hrel; obtain ⟨wo, rfl⟩ : ∃ wo : World, wo = wr := ⟨_, rfl⟩; by_cases hn : n = 0
     · subst hn; obtain ⟨Z, t1, t2, t3, t4, t5, t6⟩ := hT.out; rw [figs_0, List.nil_append] at t4; rw [show (words 0).length = 0 by rw [words_0]; rfl]
       have DM : D.length ≤ 171798691840 := by
        have h1 := congrArg List.length t4; have h2 := figs_words M; rw [List.length_reverse] at h1; omega
       have DL : 0 < D.length := by
        rcases Nat.eq_zero_or_pos D.length with h | h
        · exfalso
          have h1 := congrArg List.length t4; rw [List.length_reverse, h] at h1; have h2 := figs_len (n := M) (k := 0); have h3 := words_len0 (n := M); have h4 := HLL.out; omega
        · exact h
       obtain ⟨gb, cb, rfl, hgb, hcb, hgl, hce⟩ := t3.form DL; have xs0 := (BX.out.below t5).cell (i := 0) rfl; haveI : Has wo gx := ⟨(BX.out.below t5).lt⟩; have T4 := hid t4; have t5s := t5.size; clear hT t1 t2 t4 t6 x0 x1; by_cases hneg : N < 0
       focus
        rw [decide_eq_true hneg] at xs0; have HRS2 : Hid (RS = (D ++ [45]).reverse) := hid (by rw [HRS.out, if_pos hneg, T4.out, List.reverse_append]; rfl)
        have l1a : Hid (Ob (wo.alloc (.cells #[.int .u8 45] 5)) w.heap.size (.slice (some ⟨gb, 0, none⟩) D.length cb) D) := hid (t3.below ((Below.refl _ _).alloc (Nat.le_refl _) _)); obtain ⟨ti, hti, htz, hts, htb⟩ := info_parts info5; clear hneg t3 hce hgl; go_upto_region 27 with (at_builtin; refine list_app (by rfl) _ _ _ (by rfl) w.heap.size 5 ti _ 1 1 Tryz.underlying232 hti htz hts htb rfl (by omega) (.slice (some ⟨gb, 0, none⟩) D.length cb) D.length (u8s D) (by rfl) l1a.out [.int .u8 45] ⟨_, _, rfl, World.news_of_block (cs := #[.int .u8 45]) (t := 5) (fr := (0, 0)) (by simp only [block_at])⟩ (by rfl) (by simp [Value.oneCell']) (by unfold maxLen; omega) (by omega) (by simp; omega) ?_; intro ga ca wa hown hgrow hat hlt)
        have ob := Ob.of_own (D := D) (D' := []) (b := 45) (by simp) (by decide) hown
        rw [List.nil_append] at ob; have hbx : Below w.heap.size w wa := Below.trans (t5.alloc t5s _) (own_grow l1a.out (by simp; omega) hgrow)
        rw [show D.length + 1 = (D ++ [45]).length by simp] at ob ⊢
        rw [show UInt8.ofNat 45 = (45 : UInt8) from rfl] at ob
        obtain ⟨gb2, cb2, he2, -, hcb3, hgl, hce⟩ := ob.form (by simp)
        simp only [Value.slice.injEq, Option.some.injEq, Addr.mk.injEq] at he2; obtain ⟨⟨rfl, -, -⟩, -, rfl⟩ := he2; have hD2 : (D ++ [45]).length ≤ 1099511627776 := by simp; omega
        have DP : 0 < (D ++ [45]).length := by simp
        clear hown hgrow hat hlt ob l1a hgb hcb DL DM; generalize D ++ [45] = D2 at *; obtain ⟨gb, rfl⟩ : ∃ k, k = ga := ⟨_, rfl⟩; obtain ⟨cb, rfl⟩ : ∃ k, k = ca := ⟨_, rfl⟩; have hnz : D2.length ≤ 1099511627776 := hD2; go_wp2_with (at_make; refine make_bytes _ rfl _ _ rfl _ D2.length rfl rfl rfl (by omega) ?_; intro wm hro hbm hltm)
        have hbm2 : Below w.heap.size w wm := Below.trans hbx (below_low hbm hbx.size); have hgne : gb ≠ wa.heap.size := by omega
        have hce2 : ∀ (i : Nat) (c : UInt8), D2[i]? = some c → wm.cell? ⟨gb, i, none⟩ = some (.int .u8 c.toNat) := fun i c h => (hbm.cell (p := ⟨gb, i, none⟩) hgl).trans (hce i c h)
        obtain ⟨go, hgo⟩ : ∃ go, go = wa.heap.size := ⟨_, rfl⟩
       rotate_left
       focus
        rw [decide_eq_false hneg] at xs0; have HRS2 : Hid (RS = D.reverse) := hid (by rw [HRS.out, if_neg hneg, T4.out])
        have hbx := t5; have hD2 : D.length ≤ 1099511627776 := by omega
        clear hneg t3 T4 hgb; generalize D = D2 at *; have hnz : D2.length ≤ 1099511627776 := hD2; go_wp2_with (at_make; refine make_bytes _ rfl _ _ rfl _ D2.length rfl rfl rfl (by omega) ?_; intro wm hro hbm hltm)
        have hbm2 : Below w.heap.size w wm := Below.trans hbx (below_low hbm hbx.size); have hgne : gb ≠ wo.heap.size := by omega
        have hce2 : ∀ (i : Nat) (c : UInt8), D2[i]? = some c → wm.cell? ⟨gb, i, none⟩ = some (.int .u8 c.toNat) := fun i c h => (hbm.cell (p := ⟨gb, i, none⟩) hgl).trans (hce i c h)
        obtain ⟨go, hgo⟩ : ∃ go, go = wo.heap.size := ⟨_, rfl⟩
       rotate_left
       all_goals
        rw [← hgo] at hro hgne ⊢; have hgoB : w.heap.size ≤ go := by rw [hgo]; exact hbx.size
        have hgb2 : gb < wm.heap.size := Nat.lt_of_lt_of_le hgl hbm.size; have HCE := hid hce2; have NE := hid hgne; have HB2 := hid hbm2; clear hce hce2 hbm hbm2 hgo hgl hbx hgne; go_loopw [15] (fun s15 wy => ∃ j : Nat, s15 = .int .i64 j ∧ j ≤ D2.length ∧ Hid (Rb wy go (D2.reverse.take j ++ List.replicate (D2.length - j) 0) ∧ Below w.heap.size w wy ∧ (∀ (i : Nat) (c : UInt8), D2[i]? = some c → wy.cell? ⟨gb, i, none⟩ = some (.int .u8 c.toNat)) ∧ gb < wy.heap.size)) (fun s15 _ => D2.length - (intOf s15).toNat)
        case atStart => exact ⟨0, rfl, Nat.zero_le _, hid ⟨by rw [List.take_zero, List.nil_append, Nat.sub_zero]; exact hro.out, HB2.out, HCE.out, hgb2⟩⟩
        case round =>
         obtain ⟨j, rfl, hj, hJ⟩ := hrel; by_cases hjl : j < D2.length
         · obtain ⟨j1, j2, j3, j4⟩ := hJ.out; obtain ⟨ix, hix⟩ : ∃ ix, ix = D2.length - 1 - j := ⟨_, rfl⟩; have hixI : (D2.length : Int) - 1 - (j : Int) = (ix : Int) := by omega
           have hixl : ix < D2.length := by omega
           have hixl2 : (ix : Int) < (D2.length : Int) := by omega
           have hjI : (j : Int) < (D2.length : Int) := by omega
           obtain ⟨c, hc⟩ : ∃ c, c = D2[ix] := ⟨_, rfl⟩; have hcx : D2[ix]? = some c := by rw [hc]; exact List.getElem?_eq_getElem hixl
           have cb0 := j3 ix c hcx
           have hrv : D2.reverse[j]? = some c := by
            rw [List.getElem?_reverse hjl, ← hix]; exact hcx
           have hsz : (D2.reverse.take j).length = j := by rw [List.length_take, List.length_reverse]; omega
           have hrow : D2.reverse.take j ++ List.replicate (D2.length - j) 0 = D2.reverse.take j ++ 0 :: List.replicate (D2.length - (j + 1)) 0 := by
            rw [show D2.length - j = D2.length - (j + 1) + 1 by omega, List.replicate_succ]
           rw [hrow] at j1; have c1 := j1.cell (i := j) (c := 0) (by rw [List.getElem?_append_right (by omega), hsz, Nat.sub_self]; rfl)
           have f1 := j1.free j; haveI : Has wr go := ⟨j1.lt⟩; haveI : Has wr gb := ⟨j4⟩; have S1 := j1.set j c
           have hset : (D2.reverse.take j ++ 0 :: List.replicate (D2.length - (j + 1)) 0).set j c = D2.reverse.take (j + 1) ++ List.replicate (D2.length - (j + 1)) 0 := by
            rw [List.set_append_right _ _ (by omega), hsz, Nat.sub_self, List.set_cons_zero, List.take_add_one, hrv, List.append_assoc]
            rfl
           rw [hset] at S1
           have NX : Hid (Rb (wr.setCell ⟨go, j, none⟩ (.int .u8 (c.toNat : Int))) go (D2.reverse.take (j + 1) ++ List.replicate (D2.length - (j + 1)) 0) ∧ Below w.heap.size w (wr.setCell ⟨go, j, none⟩ (.int .u8 (c.toNat : Int))) ∧ (∀ (i : Nat) (c' : UInt8), D2[i]? = some c' → (wr.setCell ⟨go, j, none⟩ (.int .u8 (c.toNat : Int))).cell? ⟨gb, i, none⟩ = some (.int .u8 c'.toNat)) ∧ gb < (wr.setCell ⟨go, j, none⟩ (.int .u8 (c.toNat : Int))).heap.size) := hid ⟨S1, ((Keeps.of_below (S := []) j2).set (Or.inr hgoB) _ _).below, fun i c' h => by
            rw [World.cell?_setCell_other _ _ _ _ (fun e => NE.out (congrArg Addr.block e).symm)]
            exact j3 i c' h, by rw [World.size_setCell]; exact j4⟩
           obtain ⟨cn, hcn⟩ : ∃ cn : Nat, cn = c.toNat := ⟨_, rfl⟩; rw [← hcn] at cb0 NX; have hcb2 : ix < cb := by omega
           clear j1 j2 j3 j4 S1 hset hrow hrv hcx hc hix hJ hsz hcn; go_wp2_with fail
           go_roundw
           case rel => exact ⟨j + 1, by go_num, by omega, NX⟩
           case measure => simp [intOf]; omega
         · obtain rfl : j = D2.length := by omega
           obtain ⟨j1, j2, -, -⟩ := hJ.out; rw [Nat.sub_self, List.replicate_zero, List.append_nil, ← List.length_reverse, List.take_length] at j1; have hcv := bytes_str wr go D2.length D2.reverse j1; rw [List.length_reverse] at hcv; have J2 := hid j2; clear j1 j2 hJ; go_wp2_with fail
           go_ret
           exact ⟨by rw [← HRS2.out]; rfl, J2.out⟩
     · obtain ⟨Z, IZ⟩ : ∃ Z, Hid (Ro wo g (words n ++ Z) ∧ (words n).length ≤ (words M).length ∧ Ob wo w.heap.size _ D ∧ figs M = figs n ++ D.reverse ∧ Below w.heap.size w wo ∧ n ≤ M) := ⟨_, hid hT.out.choose_spec⟩; have hcap : (words n).length ≤ (words M).length := IZ.out.2.1
       have hnl : (0 : Int) < ((words n).length : Int) := by
        have : (words n).length ≠ 0 := fun e => hn (words_len0.1 e)
        omega
       go_wp2_with fail
       go_loopw [9, 10] (fun sr si wx => ∃ (j r : Nat) (Q : List Nat), sr = .int .u64 r ∧ si = .int .i64 ((j : Int) - 1) ∧ j ≤ (words n).length ∧ Hid (DivI w g n Z D u7 j r Q wx)) (fun _ si _ => (intOf si + 1).toNat)
       case atStart => exact ⟨(words n).length, 0, [], rfl, by go_num, Nat.le_refl _, hid ⟨by simp, Wok.nil, by decide, by simp [val], by rw [List.take_length]; exact IZ.out.1, IZ.out.2.2.1, IZ.out.2.2.2.2.1⟩⟩
       case round =>
        obtain ⟨j, r, Q, rfl, rfl, hj, hI⟩ := hrel; rcases j with _ | j
        · skip
          obtain ⟨i1, i2, i3, i4, i5, i6, i7⟩ := id hI.out; rw [List.drop_zero, val_words] at i4; rw [List.take_zero, List.nil_append] at i5; obtain ⟨Z1, hZ1⟩ := wok_split i2; obtain ⟨q, hq⟩ : ∃ q, q = val Q := ⟨_, rfl⟩; have TR := etrimR g (words M).length Q Z wr i5 i2 (by omega) (by omega)
          rw [← hq, show Q.length = (words n).length by omega] at TR
          rw [← hq] at i4 hZ1; obtain ⟨Z2, hZ2⟩ : ∃ Z2, Z2 = Z1 ++ Z := ⟨_, rfl⟩; have hRq : Ro wr g (words q ++ Z2) := by rw [hZ2, ← List.append_assoc, ← hZ1]; exact i5
          have hq1 : q = n / 1000000000 := by omega
          have hq2 : r = n % 1000000000 := by omega
          have hqn : q < n := by omega
          have HQ1 := hid hq1; have HQ2 := hid hq2; have r10 : r < 10 ^ 9 := i3; have i3' : r < 1000000000 := i3; have QLE : Hid ((words q).length ≤ (words M).length) := hid (Nat.le_trans (len_mono (Nat.le_of_lt hqn)) hcap)
          have DLB : D.length ≤ 171798691840 := by
           have h1 := congrArg List.length IZ.out.2.2.2.1; have h2 := figs_words M; rw [List.length_append, List.length_reverse] at h1; omega
          have h2r : q = 0 → r ≠ 0 := fun h => by omega
          clear hq hq1 hq2 hZ1 hZ2 i1 i2 i3 i4 i5 hI; obtain ⟨lq, hlq⟩ : ∃ lq, lq = (words q).length := ⟨_, rfl⟩; rw [← hlq] at TR; have HLQ := hid hlq; by_cases hq0 : q = 0
          · have h2r := h2r hq0; have HQ0 := hid hq0; have w0 : lq = 0 := by rw [hlq, hq0, words_0]; rfl
            subst w0; clear hq0 hlq; go_wp2_with (go_at_call 200; (with_reducible refine TR.mono ?_); rintro e w' ⟨rfl, hw⟩; obtain rfl := hw.symm)
            go_loopw [7, 12, 13] (fun vd vr vi wx => ∃ (k r' : Nat) (D' : List UInt8), vr = .int .u32 r' ∧ vi = .int .i64 k ∧ k ≤ 9 ∧ r' < 10 ^ (9 - k) ∧ D'.length = k ∧ Hid (Ob wx w.heap.size vd (D ++ D') ∧ figs r = figs r' ++ D'.reverse ∧ Ro wx g (words q ++ Z2) ∧ Below w.heap.size w wx)) (fun _ _ vi _ => 9 - (intOf vi).toNat)
            case atStart => exact ⟨0, r, [], rfl, rfl, by omega, by omega, rfl, hid ⟨by rw [List.append_nil]; exact i6, by simp, hRq, i7⟩⟩
            case round =>
             obtain ⟨k, r', D', rfl, rfl, hk, hr', hDk, hL⟩ := hrel; obtain ⟨l1, l2, l3, l4⟩ := id hL.out; by_cases hk9 : r' ≠ 0
             · have hk99 : k < 9 := (by rcases Nat.lt_or_eq_of_le hk with h | h; exact h; subst h; exfalso; apply hk9; simpa using hr')
               have hk8 : (k : Int) < 9 := by omega
               have hrp : decide ((0 : Int) < (r' : Int)) = true := decide_eq_true (by omega)
               have hrp2 : (0 : Int) < (r' : Int) := by omega
               have hrp3 : 0 < r' := by omega
               obtain ⟨dg, hdg⟩ : ∃ dg, dg = r' % 10 := ⟨_, rfl⟩; have hdg9 : dg < 10 := by omega
               have m1 : (r' : Int) % 10 = (dg : Int) := by omega
               obtain ⟨rn, hrn⟩ : ∃ rn, rn = r' / 10 := ⟨_, rfl⟩; have m2 : (r' : Int) / 10 = (rn : Int) := by omega
               have hidx := fun w => idx_fig dg hdg9 w
               obtain ⟨by_, hby⟩ : ∃ b : Nat, b = 48 + dg := ⟨_, rfl⟩; rw [← hby] at hidx; have HDG := hid hdg; have HRN := hid hrn; have HBY := hid hby; have l1a : Hid (Ob (wr.alloc (.cells #[.int .u8 (by_ : Int)] 5)) w.heap.size u7 (D ++ D')) := hid (l1.below ((Below.refl _ _).alloc (Nat.le_refl _) _)); have hDl : (D ++ D').length ≤ 1099511627776 := by rw [List.length_append]; omega
               have hrnB : rn < 4294967296 := by have : (10 : Nat) ^ (9 - k) ≤ 10 ^ 9 := Nat.pow_le_pow_right (by decide) (by omega); rw [show (10 : Nat) ^ 9 = 1000000000 from rfl] at this; omega
               have hr'H := hid hr'; have l4s := l4.size; have hDk := hDk; generalize hDD : D ++ D' = DD at *; have HDD := hid hDD; obtain ⟨ti, hti, htz, hts, htb⟩ := info_parts info5; clear hdg hrn hby hDD; go_wp2_with (at_builtin; refine list_app (by rfl) _ _ _ (by rfl) w.heap.size 5 ti _ 1 1 Tryz.underlying232 hti htz hts htb rfl (by omega) u7 DD.length (u8s DD) (by rfl) l1a.out [.int .u8 (by_ : Int)] ⟨_, _, rfl, World.news_of_block (cs := #[.int .u8 (by_ : Int)]) (t := 5) (fr := (0, 0)) (by simp only [block_at])⟩ (by rfl) (by simp [Value.oneCell']) (by unfold maxLen; omega) (by omega) (by simp; omega) ?_; intro gb cp wa hown hgrow hat hlt)
               go_roundw
               case rel =>
                have hdg := HDG.out; have hrn := HRN.out; have hby := HBY.out; have hr2 := hr'H.out; have B3 : Below w.heap.size w wa := Below.trans (l4.alloc l4s _) (own_grow l1a.out (by simp; omega) hgrow)
                have R3 : Ro wa g (words q ++ Z2) := (l3.keep ((Below.refl _ _).alloc (Nat.le_refl _) _)).grown hgrow (l1a.out.apart (l3.keep ((Below.refl _ _).alloc (Nat.le_refl _) _))); refine ⟨k + 1, rn, D' ++ [UInt8.ofNat by_], by rfl, by go_num, by omega, ?_, by rw [List.length_append, List.length_singleton]; omega, hid ⟨Ob.of_own HDD.out (by omega) hown, ?_, R3, B3⟩⟩
                · rw [hrn, Nat.div_lt_iff_lt_mul (by decide)]
                  rw [show 9 - k = 9 - (k + 1) + 1 by omega, Nat.pow_succ] at hr2
                  exact hr2
                · rw [l2, figs_pos hk9, List.reverse_append, List.append_assoc, hrn, hby, hdg]; rfl
               case measure => simp [intOf]; omega
             · obtain rfl : r' = 0 := by omega
               have hDp : 0 < D'.length := (by rcases Nat.eq_zero_or_pos D'.length with h | h; (exfalso; rw [List.length_eq_zero_iff.1 h, figs_0] at l2; have h3 := congrArg List.length l2; have h4 : (figs r).length ≠ 0 := (fun h5 => h2r (by have := figs_len (n := r) (k := 0); omega)); exact h4 (by rw [h3]; rfl)); exact h)
               have LE := l1.lenV; rw [List.length_append] at LE; have FG : Hid (figs M = figs q ++ (D ++ D').reverse) := hid (by rw [IZ.out.2.2.2.1, tell_last HQ1.out HQ2.out HQ0.out, l2, HQ0.out, figs_0, List.nil_append, List.nil_append, List.reverse_append])
               have DB : (D ++ D').length ≤ 10 * (words M).length := by
                have h1 := congrArg List.length FG.out; have h2 := figs_words M; rw [List.length_append, List.length_reverse] at h1; omega
               rw [List.length_append] at DB; have NXT : Hid (TellI w g (words M).length M q (D ++ D') _ wr) := hid ⟨Z2, l3, QLE.out, l1, FG.out, l4, by have := IZ.out.2.2.2.2.2; omega⟩
               have LV := IZ.out.2.2.1.lenV; clear l2; go_wp2_with fail
               all_goals
                go_roundw
                case rel => exact ⟨q, D ++ D', by rw [← HLQ.out], NXT⟩
                case measure =>
                 show 10 * (words M).length + 1 - lenV _ < 10 * (words M).length + 1 - lenV _
                 rw [LE, LV]; omega
          · have hql : (0 : Int) < (lq : Int) := by
             have : (words q).length ≠ 0 := fun e => hq0 (words_len0.1 e)
             omega
            clear hlq; go_wp2_with (go_at_call 200; (with_reducible refine TR.mono ?_); rintro e w' ⟨rfl, hw⟩; obtain rfl := hw.symm)
            go_loopw [7, 12, 13] (fun vd vr vi wx => ∃ (k r' : Nat) (D' : List UInt8), vr = .int .u32 r' ∧ vi = .int .i64 k ∧ k ≤ 9 ∧ r' < 10 ^ (9 - k) ∧ D'.length = k ∧ Hid (Ob wx w.heap.size vd (D ++ D') ∧ padf 9 r = padf (9 - k) r' ++ D'.reverse ∧ Ro wx g (words q ++ Z2) ∧ Below w.heap.size w wx)) (fun _ _ vi _ => 9 - (intOf vi).toNat)
            case atStart => exact ⟨0, r, [], rfl, rfl, by omega, by omega, rfl, hid ⟨by rw [List.append_nil]; exact i6, by simp, hRq, i7⟩⟩
            case round =>
             obtain ⟨k, r', D', rfl, rfl, hk, hr', hDk, hL⟩ := hrel; obtain ⟨l1, l2, l3, l4⟩ := id hL.out; by_cases hk9 : k < 9
             · skip
               have hk8 : (k : Int) < 9 := by omega
               skip
               skip
               skip
               obtain ⟨dg, hdg⟩ : ∃ dg, dg = r' % 10 := ⟨_, rfl⟩; have hdg9 : dg < 10 := by omega
               have m1 : (r' : Int) % 10 = (dg : Int) := by omega
               obtain ⟨rn, hrn⟩ : ∃ rn, rn = r' / 10 := ⟨_, rfl⟩; have m2 : (r' : Int) / 10 = (rn : Int) := by omega
               have hidx := fun w => idx_fig dg hdg9 w
               obtain ⟨by_, hby⟩ : ∃ b : Nat, b = 48 + dg := ⟨_, rfl⟩; rw [← hby] at hidx; have HDG := hid hdg; have HRN := hid hrn; have HBY := hid hby; have l1a : Hid (Ob (wr.alloc (.cells #[.int .u8 (by_ : Int)] 5)) w.heap.size u7 (D ++ D')) := hid (l1.below ((Below.refl _ _).alloc (Nat.le_refl _) _)); have hDl : (D ++ D').length ≤ 1099511627776 := by rw [List.length_append]; omega
               have hrnB : rn < 4294967296 := by have : (10 : Nat) ^ (9 - k) ≤ 10 ^ 9 := Nat.pow_le_pow_right (by decide) (by omega); rw [show (10 : Nat) ^ 9 = 1000000000 from rfl] at this; omega
               have hr'H := hid hr'; have l4s := l4.size; have hDk := hDk; generalize hDD : D ++ D' = DD at *; have HDD := hid hDD; obtain ⟨ti, hti, htz, hts, htb⟩ := info_parts info5; clear hdg hrn hby hDD; go_wp2_with (at_builtin; refine list_app (by rfl) _ _ _ (by rfl) w.heap.size 5 ti _ 1 1 Tryz.underlying232 hti htz hts htb rfl (by omega) u7 DD.length (u8s DD) (by rfl) l1a.out [.int .u8 (by_ : Int)] ⟨_, _, rfl, World.news_of_block (cs := #[.int .u8 (by_ : Int)]) (t := 5) (fr := (0, 0)) (by simp only [block_at])⟩ (by rfl) (by simp [Value.oneCell']) (by unfold maxLen; omega) (by omega) (by simp; omega) ?_; intro gb cp wa hown hgrow hat hlt)
               go_roundw
               case rel =>
                have hdg := HDG.out; have hrn := HRN.out; have hby := HBY.out; have hr2 := hr'H.out; have B3 : Below w.heap.size w wa := Below.trans (l4.alloc l4s _) (own_grow l1a.out (by simp; omega) hgrow)
                have R3 : Ro wa g (words q ++ Z2) := (l3.keep ((Below.refl _ _).alloc (Nat.le_refl _) _)).grown hgrow (l1a.out.apart (l3.keep ((Below.refl _ _).alloc (Nat.le_refl _) _))); refine ⟨k + 1, rn, D' ++ [UInt8.ofNat by_], by rfl, by go_num, by omega, ?_, by rw [List.length_append, List.length_singleton]; omega, hid ⟨Ob.of_own HDD.out (by omega) hown, ?_, R3, B3⟩⟩
                · rw [hrn, Nat.div_lt_iff_lt_mul (by decide)]
                  rw [show 9 - k = 9 - (k + 1) + 1 by omega, Nat.pow_succ] at hr2
                  exact hr2
                · rw [l2, show 9 - k = 9 - (k + 1) + 1 by omega, padf_succ, List.reverse_append, List.append_assoc, hrn, hby, hdg]
                  rfl
               case measure => simp [intOf]; omega
             · obtain rfl : k = 9 := by omega
               obtain rfl : r' = 0 := by simpa using hr'
               have hDp : 0 < D'.length := by omega
               have LE := l1.lenV; rw [List.length_append] at LE; have FG : Hid (figs M = figs q ++ (D ++ D').reverse) := hid (by rw [IZ.out.2.2.2.1, tell_more HQ1.out HQ2.out hq0, l2, show (9 : Nat) - 9 = 0 from rfl, padf_zero, figs_0, List.nil_append, List.reverse_append, List.append_assoc])
               have DB : (D ++ D').length ≤ 10 * (words M).length := by
                have h1 := congrArg List.length FG.out; have h2 := figs_words M; rw [List.length_append, List.length_reverse] at h1; omega
               rw [List.length_append] at DB; have NXT : Hid (TellI w g (words M).length M q (D ++ D') _ wr) := hid ⟨Z2, l3, QLE.out, l1, FG.out, l4, by have := IZ.out.2.2.2.2.2; omega⟩
               have LV := IZ.out.2.2.1.lenV; clear l2; go_wp2_with fail
               all_goals
                go_roundw
                case rel => exact ⟨q, D ++ D', by rw [← HLQ.out], NXT⟩
                case measure =>
                 show 10 * (words M).length + 1 - lenV _ < 10 * (words M).length + 1 - lenV _
                 rw [LE, LV]; omega
        · obtain ⟨i1, i2, i3, i4, i5, i6, i7⟩ := id hI.out; have hx : (words n)[j]? = some (words n)[j] := List.getElem?_eq_getElem (by omega)
          obtain ⟨x, hxx⟩ : ∃ x, x = (words n)[j] := ⟨_, rfl⟩; rw [← hxx] at hx; have hxB := (words_ok n).get hx; have c0 := i5.cell (i := j) (x := x) (by rw [List.getElem?_append_left (by rw [List.length_take]; omega), List.getElem?_take_of_lt (by omega)]; exact hx)
          have f0 := i5.free j; have hgw := i5.lt; haveI : Has wr g := ⟨hgw⟩; obtain ⟨t, ht⟩ : ∃ t, t = r * 4294967296 + x := ⟨_, rfl⟩; obtain ⟨qd, hqd⟩ : ∃ qd, qd = t / 1000000000 := ⟨_, rfl⟩; obtain ⟨r2, hr2⟩ : ∃ r2, r2 = t % 1000000000 := ⟨_, rfl⟩; have hqB : qd < 4294967296 := by omega
          have hrB : r2 < 1000000000 := by omega
          have o1 := or64 (r * 4294967296) x (by omega) (by omega)
          rw [or_high x r hxB, ← ht, Int.natCast_mul] at o1; have o1 : bits BinOp.or IntKind.u64 ((r : Int) * 4294967296) (x : Int) = (t : Int) := o1; have e1 : (t : Int) / 1000000000 = (qd : Int) := by omega
          have e2 : (t : Int) % 1000000000 = (r2 : Int) := by omega
          have tB : t < 4294967296000000000 := by omega
          have hjc : j < (words M).length := by omega
          have hr9 : r < 1000000000 := i3; have hjl : (j : Int) < ((words n).length : Int) := by omega
          have NX : Hid (DivI w g n Z D u7 j r2 (qd :: Q) (wr.setCell ⟨g, j, none⟩ (.int .u32 qd))) := hid (by
           refine ⟨by simp; omega, Wok.cons hqB i2, hrB, ?_, ?_, ?_, ?_⟩
           · rw [val_drop hx, i4, val, hqd, hr2, ht]; have := Nat.div_add_mod (r * 4294967296 + x) 1000000000; omega
           · have h1 := i5.set j qd; have h2 : (words n).take (j + 1) = (words n).take j ++ [x] := by rw [List.take_add_one, hx]; rfl
             have h3 : ((words n).take j).length = j := by rw [List.length_take]; omega
             rw [h2, List.append_assoc, List.singleton_append] at h1; have h4 := set_row ((words n).take j) (Q ++ Z) x qd; rw [h3] at h4; rw [h4, List.append_assoc] at h1; exact h1
           · exact i6.keep ((Keeps.refl wr.heap.size [g] wr).set (Or.inl (by simp)) _ _) (Nat.le_refl _) (i6.apart i5)
           · exact ((Keeps.of_below (S := []) i7).set (Or.inr hgB) _ _).below)
          rw [show ((j + 1 : Nat) : Int) - 1 = (j : Int) by omega] at *
          clear hx hxx i1 i2 i3 i4 i5 i6 i7 ht hqd hr2 hI; go_wp2_with fail
          go_roundw
          case rel => exact ⟨j, r2, _, (by first | rfl | exact congrArg (Value.int .u64) e2), by go_num, by omega, NX⟩
          case measure => simp [intOf]
theorem Ob.formA {w : World} {B : Nat} {v : Value} {L : List UInt8} (h : Ob w B v L) : ∃ a cap, v = .slice a L.length cap ∧ L.length ≤ cap := by
 rcases h.2 with ⟨rfl, h0⟩ | ⟨g, cap, cur, h1, h2, hb, h3, -⟩
 · exact ⟨none, 0, by rw [h0], by omega⟩
 · exact ⟨_, cap, h1, h3⟩
theorem Ob.capA {w : World} {B n cap : Nat} {a : Option Addr} {L : List UInt8} (h : Ob w B (.slice a n cap) L) : L.length ≤ cap := by
 obtain ⟨a', c', h1, h2⟩ := h.formA; simp only [Value.slice.injEq] at h1; omega
theorem Rb.ob {w : World} {g B : Nat} {L : List UInt8} (h : Rb w g L) (hB : B ≤ g) (hm : L.length ≤ 1099511627776) : Ob w B (.slice (some ⟨g, 0, none⟩) L.length L.length) L := by
 refine ⟨by rw [u8s_len]; omega, .inr ⟨g, L.length, (u8s L).toArray, rfl, hB, h, Nat.le_refl _, ?_, ?_, ?_⟩⟩
 · unfold maxLen; omega
 · simp [u8s_len]
 · simp only [Nat.mul_one]; rw [List.take_of_length_le (by rw [u8s_len]; exact Nat.le_refl _)]
theorem btell_short (M : Nat) (least : Int) (hl1 : -1099511627776 ≤ least) (hl2 : least ≤ 549755813888) (hor : M ≠ 0 ∨ 0 < least) (hl : (words M).length ≤ 40) (va : Value) (w : World) (wx : Wd w va (words M)) :
 Calls Tryz.prog 227 #[va, .int .i64 10, .int .i64 least] w fun e w' => ∃ v, e = .returned v ∧ Ob w' w.heap.size v (padf least.toNat M) ∧ Below w.heap.size w w' := by
 have CP := hid (fun w' (h : Below w.heap.size w w') => bcopied va (words M) w' (wx.below h) (by omega))
 obtain ⟨ax, cx, rfl, -, -⟩ := wx.form; have hl40 : ((words M).length : Int) ≤ 40 := by omega
 have HOR := hid hor; clear wx hor; go_enter Tryz.func227, Tryz.ntmps227; go_wp2_with fail
 go_loop [10, 11] (fun sb sp => ∃ p : Nat, sb = .int .u32 (10 ^ p : Nat) ∧ sp = .int .i64 p ∧ 1 ≤ p ∧ p ≤ 9) (fun _ sp => 9 - (intOf sp).toNat)
 case atStart => exact ⟨1, rfl, rfl, by omega, by omega⟩
 case round =>
  obtain ⟨p, rfl, rfl, hp1, hp2⟩ := hrel; by_cases hp : p < 9
  · have h1 : 10 ^ p ≤ 10 ^ 8 := Nat.pow_le_pow_right (by decide) (by omega)
    have h2 : ((10 ^ (p + 1) : Nat) : Int) = ((10 ^ p : Nat) : Int) * 10 := by rw [Nat.pow_succ, Int.natCast_mul]; rfl
    rw [show (10 : Nat) ^ 8 = 100000000 from rfl] at h1
    have H2 := hid h2; clear h2; obtain ⟨B, hB⟩ : ∃ B, B = 10 ^ p := ⟨_, rfl⟩; rw [← hB] at h1 H2 ⊢; clear hB; go_wp2_with fail
    go_round
    case rel => exact ⟨p + 1, by rw [H2.out], by go_num, by omega, by omega⟩
    case measure => simp [intOf]; omega
  · obtain rfl : p = 9 := by omega
    rw [show ((10 ^ 9 : Nat) : Int) = 1000000000 from rfl, show ((9 : Nat) : Int) = 9 from rfl]
    clear hp hp1 hp2; go_wp2_with (go_at_call 188; (with_reducible refine (CP.out _ (Below.refl _ _)).mono ?_); rintro e w1 ⟨g, rfl, hR1, hgB, hb1⟩)
    go_loopw [12, 0] (fun vb vw wr => ∃ (n : Nat) (D : List UInt8), vw = .slice (some ⟨g, 0, none⟩) (words n).length (words M).length ∧ Hid (TellI w g (words M).length M n D vb wr)) (fun vb _ _ => 10 * (words M).length + 1 - lenV vb)
    case atStart => exact ⟨M, [], rfl, hid ⟨[], by rw [List.append_nil]; exact hR1, Nat.le_refl _, Ob.nil _ _, by simp, hb1, Nat.le_refl _⟩⟩
    case round =>
     obtain ⟨n, D, rfl, hT⟩ := hrel; obtain ⟨wo, rfl⟩ : ∃ wo : World, wo = wr := ⟨_, rfl⟩; by_cases hn : n = 0
     · subst hn; obtain ⟨Z, t1, t2, t3, t4, t5, t6⟩ := hT.out; rw [figs_0, List.nil_append] at t4; rw [show (words 0).length = 0 by rw [words_0]; rfl]
       have DM : D.length ≤ 400 := by
        have h1 := congrArg List.length t4; have h2 := figs_words M; rw [List.length_reverse] at h1; omega
       have T4 := hid t4; have T3 := hid t3; have T5 := hid t5; obtain ⟨aD, cD, rfl, hcD⟩ := t3.formA; clear hT t1 t2 t3 t4 t5 t6; go_wp2_with fail
       go_loopw [12] (fun vb wx => ∃ (j : Nat) (ad : Option Addr) (cb : Nat), vb = .slice ad (D.length + j) cb ∧ (j = 0 ∨ ((D.length + j : Nat) : Int) ≤ least) ∧ D.length + j ≤ cb ∧ Hid (Ob wx w.heap.size vb (D ++ List.replicate j 48) ∧ Below w.heap.size w wx)) (fun vb _ => (least - (lenV vb : Int)).toNat)
       case atStart => exact ⟨0, aD, cD, rfl, .inl rfl, hcD, hid ⟨by rw [List.replicate_zero, List.append_nil]; exact T3.out, T5.out⟩⟩
       case round =>
        obtain ⟨j, ad, cb, rfl, hj, hjc, hO⟩ := hrel; obtain ⟨o1, o2⟩ := id hO.out; obtain ⟨DJ, hDJ⟩ : ∃ DJ, DJ = D ++ List.replicate j 48 := ⟨_, rfl⟩; have hDJl : DJ.length = D.length + j := by rw [hDJ, List.length_append, List.length_replicate]
        have HDJ := hid hDJ; rw [← hDJ] at o1; rw [← hDJl] at o1 hj hjc ⊢; have hDjb : DJ.length ≤ 1099511627776 := by rcases hj with h | h <;> omega
        have HJ := hid hj; have HJL := hid hDJl; clear hDJ hj hDJl hO; by_cases hle : (DJ.length : Int) < least
        · have l1a : Hid (Ob (wr.alloc (.cells #[.int .u8 48] 5)) w.heap.size (.slice ad DJ.length cb) DJ) := hid (o1.below ((Below.refl _ _).alloc (Nat.le_refl _) _)); obtain ⟨ti, hti, htz, hts, htb⟩ := info_parts info5; have o2s := o2.size; clear o1; go_wp2_with (at_builtin; refine list_app (by rfl) _ _ _ (by rfl) w.heap.size 5 ti _ 1 1 Tryz.underlying232 hti htz hts htb rfl (by omega) (.slice ad DJ.length cb) DJ.length (u8s DJ) (by rfl) l1a.out [.int .u8 48] ⟨_, _, rfl, World.news_of_block (cs := #[.int .u8 48]) (t := 5) (fr := (0, 0)) (by simp only [block_at])⟩ (by rfl) (by simp [Value.oneCell']) (by unfold maxLen; omega) (by omega) (by simp; omega) ?_; intro ga ca wa hown hgrow hat hlt)
          go_roundw
          case rel =>
           have ob := Ob.of_own (D := DJ) (D' := []) (b := 48) (by simp) (by decide) hown
           rw [List.nil_append, show UInt8.ofNat 48 = (48 : UInt8) from rfl] at ob
           have hcb3 := ob.capA; have e2 : DJ ++ [48] = D ++ List.replicate (j + 1) 48 := by rw [HDJ.out, List.append_assoc, List.replicate_succ']
           have hbx : Below w.heap.size w wa := Below.trans (o2.alloc o2s _) (own_grow l1a.out (by simp; omega) hgrow)
           have hJL := HJL.out; refine ⟨j + 1, some ⟨ga, 0, none⟩, ca, by rw [hJL]; rfl, .inr (by omega), ?_, hid ⟨by rw [← e2]; exact ob, hbx⟩⟩
           rw [List.length_append, List.length_singleton] at hcb3; omega
          case measure => simp only [lenV]; omega
        · have D2P : Hid (padf least.toNat M = DJ.reverse) := hid (by
           rw [HDJ.out, List.reverse_append, List.reverse_replicate]; unfold padf; rw [T4.out, List.length_reverse]
           congr 2
           have := HJL.out; rcases HJ.out with h | h <;> omega)
          have hDp : 0 < DJ.length := by
           rcases HOR.out with h | h
           · have h1 := congrArg List.length T4.out; rw [List.length_reverse] at h1; have h2 := figs_len (n := M) (k := 0); have := HJL.out; omega
           · omega
          obtain ⟨gb, cb2, he2, -, hcb3, hgl, hce⟩ := o1.form hDp; simp only [Value.slice.injEq] at he2; obtain ⟨rfl, -, rfl⟩ := he2; have hbx := o2; have hD2 := hDjb; have hleD : decide ((DJ.length : Int) < least) = false := decide_eq_false hle; clear o1 HJ HJL T3 T4 T5 HDJ hle; generalize DJ = D2 at *; obtain ⟨wq, rfl⟩ : ∃ wq : World, wq = wr := ⟨_, rfl⟩; have hnz : D2.length ≤ 1099511627776 := hD2; go_wp2_with (at_make; refine make_bytes _ rfl _ _ rfl _ D2.length rfl rfl rfl (by omega) ?_; intro wm hro hbm hltm)
          have hbm2 : Below w.heap.size w wm := Below.trans hbx (below_low hbm hbx.size); have hgne : gb ≠ wq.heap.size := by omega
          have hce2 : ∀ (i : Nat) (c : UInt8), D2[i]? = some c → wm.cell? ⟨gb, i, none⟩ = some (.int .u8 c.toNat) := fun i c h => (hbm.cell (p := ⟨gb, i, none⟩) hgl).trans (hce i c h)
          obtain ⟨go, hgo⟩ : ∃ go, go = wq.heap.size := ⟨_, rfl⟩; rw [← hgo] at hro hgne ⊢; have hgoB : w.heap.size ≤ go := by rw [hgo]; exact hbx.size
          have hgb2 : gb < wm.heap.size := Nat.lt_of_lt_of_le hgl hbm.size; have HCE := hid hce2; have NE := hid hgne; have HB2 := hid hbm2; clear hce hce2 hbm hbm2 hgo hgl hbx hgne; go_loopw [19] (fun s15 wy => ∃ j : Nat, s15 = .int .i64 j ∧ j ≤ D2.length ∧ Hid (Rb wy go (D2.reverse.take j ++ List.replicate (D2.length - j) 0) ∧ Below w.heap.size w wy ∧ (∀ (i : Nat) (c : UInt8), D2[i]? = some c → wy.cell? ⟨gb, i, none⟩ = some (.int .u8 c.toNat)) ∧ gb < wy.heap.size)) (fun s15 _ => D2.length - (intOf s15).toNat)
          case atStart => exact ⟨0, rfl, Nat.zero_le _, hid ⟨by rw [List.take_zero, List.nil_append, Nat.sub_zero]; exact hro.out, HB2.out, HCE.out, hgb2⟩⟩
          case round =>
           obtain ⟨j, rfl, hj, hJ⟩ := hrel; by_cases hjl : j < D2.length
           · obtain ⟨j1, j2, j3, j4⟩ := hJ.out; obtain ⟨ix, hix⟩ : ∃ ix, ix = D2.length - 1 - j := ⟨_, rfl⟩; have hixI : (D2.length : Int) - 1 - (j : Int) = (ix : Int) := by omega
             have hixl : ix < D2.length := by omega
             have hixl2 : (ix : Int) < (D2.length : Int) := by omega
             have hjI : (j : Int) < (D2.length : Int) := by omega
             obtain ⟨c, hc⟩ : ∃ c, c = D2[ix] := ⟨_, rfl⟩; have hcx : D2[ix]? = some c := by rw [hc]; exact List.getElem?_eq_getElem hixl
             have cb0 := j3 ix c hcx
             have hrv : D2.reverse[j]? = some c := by
              rw [List.getElem?_reverse hjl, ← hix]; exact hcx
             have hsz : (D2.reverse.take j).length = j := by rw [List.length_take, List.length_reverse]; omega
             have hrow : D2.reverse.take j ++ List.replicate (D2.length - j) 0 = D2.reverse.take j ++ 0 :: List.replicate (D2.length - (j + 1)) 0 := by
              rw [show D2.length - j = D2.length - (j + 1) + 1 by omega, List.replicate_succ]
             rw [hrow] at j1; have c1 := j1.cell (i := j) (c := 0) (by rw [List.getElem?_append_right (by omega), hsz, Nat.sub_self]; rfl)
             have f1 := j1.free j; haveI : Has wr go := ⟨j1.lt⟩; haveI : Has wr gb := ⟨j4⟩; have S1 := j1.set j c
             have hset : (D2.reverse.take j ++ 0 :: List.replicate (D2.length - (j + 1)) 0).set j c = D2.reverse.take (j + 1) ++ List.replicate (D2.length - (j + 1)) 0 := by
              rw [List.set_append_right _ _ (by omega), hsz, Nat.sub_self, List.set_cons_zero, List.take_add_one, hrv, List.append_assoc]
              rfl
             rw [hset] at S1
             have NX : Hid (Rb (wr.setCell ⟨go, j, none⟩ (.int .u8 (c.toNat : Int))) go (D2.reverse.take (j + 1) ++ List.replicate (D2.length - (j + 1)) 0) ∧ Below w.heap.size w (wr.setCell ⟨go, j, none⟩ (.int .u8 (c.toNat : Int))) ∧ (∀ (i : Nat) (c' : UInt8), D2[i]? = some c' → (wr.setCell ⟨go, j, none⟩ (.int .u8 (c.toNat : Int))).cell? ⟨gb, i, none⟩ = some (.int .u8 c'.toNat)) ∧ gb < (wr.setCell ⟨go, j, none⟩ (.int .u8 (c.toNat : Int))).heap.size) := hid ⟨S1, ((Keeps.of_below (S := []) j2).set (Or.inr hgoB) _ _).below, fun i c' h => by
              rw [World.cell?_setCell_other _ _ _ _ (fun e => NE.out (congrArg Addr.block e).symm)]
              exact j3 i c' h, by rw [World.size_setCell]; exact j4⟩
             obtain ⟨cn, hcn⟩ : ∃ cn : Nat, cn = c.toNat := ⟨_, rfl⟩; rw [← hcn] at cb0 NX; have hcb2 : ix < cb := by omega
             clear j1 j2 j3 j4 S1 hset hrow hrv hcx hc hix hJ hsz hcn; go_wp2_with fail
             go_roundw
             case rel => exact ⟨j + 1, by go_num, by omega, NX⟩
             case measure => simp [intOf]; omega
           · obtain rfl : j = D2.length := by omega
             obtain ⟨j1, j2, -, -⟩ := hJ.out; rw [Nat.sub_self, List.replicate_zero, List.append_nil, ← List.length_reverse, List.take_length] at j1; have hcv := j1.ob (B := w.heap.size) hgoB (by rw [List.length_reverse]; exact hnz)
             rw [List.length_reverse] at hcv; have J1 := hid hcv; have J2 := hid j2; clear j1 j2 hJ hcv; go_wp2_with fail
             go_ret
             exact ⟨_, rfl, by rw [D2P.out]; exact J1.out, J2.out⟩
     · obtain ⟨Z, IZ⟩ : ∃ Z, Hid (Ro wo g (words n ++ Z) ∧ (words n).length ≤ (words M).length ∧ Ob wo w.heap.size _ D ∧ figs M = figs n ++ D.reverse ∧ Below w.heap.size w wo ∧ n ≤ M) := ⟨_, hid hT.out.choose_spec⟩; have hcap : (words n).length ≤ (words M).length := IZ.out.2.1
       have hnl : (0 : Int) < ((words n).length : Int) := by
        have : (words n).length ≠ 0 := fun e => hn (words_len0.1 e)
        omega
       go_wp2_with fail
       go_loopw [13, 14] (fun sr si wx => ∃ (j r : Nat) (Q : List Nat), sr = .int .u64 r ∧ si = .int .i64 ((j : Int) - 1) ∧ j ≤ (words n).length ∧ Hid (DivI w g n Z D u12 j r Q wx)) (fun _ si _ => (intOf si + 1).toNat)
       case atStart => exact ⟨(words n).length, 0, [], rfl, by go_num, Nat.le_refl _, hid ⟨by simp, Wok.nil, by decide, by simp [val], by rw [List.take_length]; exact IZ.out.1, IZ.out.2.2.1, IZ.out.2.2.2.2.1⟩⟩
       case round =>
        obtain ⟨j, r, Q, rfl, rfl, hj, hI⟩ := hrel; rcases j with _ | j
        · skip
          obtain ⟨i1, i2, i3, i4, i5, i6, i7⟩ := id hI.out; rw [List.drop_zero, val_words] at i4; rw [List.take_zero, List.nil_append] at i5; obtain ⟨Z1, hZ1⟩ := wok_split i2; obtain ⟨q, hq⟩ : ∃ q, q = val Q := ⟨_, rfl⟩; have TR := btrimR g (words M).length Q Z wr i5 i2 (by omega) (by omega)
          rw [← hq, show Q.length = (words n).length by omega] at TR
          rw [← hq] at i4 hZ1; obtain ⟨Z2, hZ2⟩ : ∃ Z2, Z2 = Z1 ++ Z := ⟨_, rfl⟩; have hRq : Ro wr g (words q ++ Z2) := by rw [hZ2, ← List.append_assoc, ← hZ1]; exact i5
          have hq1 : q = n / 1000000000 := by omega
          have hq2 : r = n % 1000000000 := by omega
          have hqn : q < n := by omega
          have HQ1 := hid hq1; have HQ2 := hid hq2; have r10 : r < 10 ^ 9 := i3; have i3' : r < 1000000000 := i3; have QLE : Hid ((words q).length ≤ (words M).length) := hid (Nat.le_trans (len_mono (Nat.le_of_lt hqn)) hcap)
          have DLB : D.length ≤ 171798691840 := by
           have h1 := congrArg List.length IZ.out.2.2.2.1; have h2 := figs_words M; rw [List.length_append, List.length_reverse] at h1; omega
          have h2r : q = 0 → r ≠ 0 := fun h => by omega
          clear hq hq1 hq2 hZ1 hZ2 i1 i2 i3 i4 i5 hI; obtain ⟨lq, hlq⟩ : ∃ lq, lq = (words q).length := ⟨_, rfl⟩; rw [← hlq] at TR; have HLQ := hid hlq; by_cases hq0 : q = 0
          · have h2r := h2r hq0; have HQ0 := hid hq0; have w0 : lq = 0 := by rw [hlq, hq0, words_0]; rfl
            subst w0; clear hq0 hlq; go_wp2_with (go_at_call 196; (with_reducible refine TR.mono ?_); rintro e w' ⟨rfl, hw⟩; obtain rfl := hw.symm)
            go_loopw [12, 16, 17] (fun vd vr vi wx => ∃ (k r' : Nat) (D' : List UInt8), vr = .int .u32 r' ∧ vi = .int .i64 k ∧ k ≤ 9 ∧ r' < 10 ^ (9 - k) ∧ D'.length = k ∧ Hid (Ob wx w.heap.size vd (D ++ D') ∧ figs r = figs r' ++ D'.reverse ∧ Ro wx g (words q ++ Z2) ∧ Below w.heap.size w wx)) (fun _ _ vi _ => 9 - (intOf vi).toNat)
            case atStart => exact ⟨0, r, [], rfl, rfl, by omega, by omega, rfl, hid ⟨by rw [List.append_nil]; exact i6, by simp, hRq, i7⟩⟩
            case round =>
             obtain ⟨k, r', D', rfl, rfl, hk, hr', hDk, hL⟩ := hrel; obtain ⟨l1, l2, l3, l4⟩ := id hL.out; by_cases hk9 : r' ≠ 0
             · have hk99 : k < 9 := (by rcases Nat.lt_or_eq_of_le hk with h | h; exact h; subst h; exfalso; apply hk9; simpa using hr')
               have hk8 : (k : Int) < 9 := by omega
               have hrp : decide ((0 : Int) < (r' : Int)) = true := decide_eq_true (by omega)
               have hrp2 : (0 : Int) < (r' : Int) := by omega
               have hrp3 : 0 < r' := by omega
               obtain ⟨dg, hdg⟩ : ∃ dg, dg = r' % 10 := ⟨_, rfl⟩; have hdg9 : dg < 10 := by omega
               have m1 : (r' : Int) % 10 = (dg : Int) := by omega
               obtain ⟨rn, hrn⟩ : ∃ rn, rn = r' / 10 := ⟨_, rfl⟩; have m2 : (r' : Int) / 10 = (rn : Int) := by omega
               have hidx := fun w => idx_fig dg hdg9 w
               obtain ⟨by_, hby⟩ : ∃ b : Nat, b = 48 + dg := ⟨_, rfl⟩; rw [← hby] at hidx; have HDG := hid hdg; have HRN := hid hrn; have HBY := hid hby; have l1a : Hid (Ob (wr.alloc (.cells #[.int .u8 (by_ : Int)] 5)) w.heap.size u12 (D ++ D')) := hid (l1.below ((Below.refl _ _).alloc (Nat.le_refl _) _)); have hDl : (D ++ D').length ≤ 1099511627776 := by rw [List.length_append]; omega
               have hrnB : rn < 4294967296 := by have : (10 : Nat) ^ (9 - k) ≤ 10 ^ 9 := Nat.pow_le_pow_right (by decide) (by omega); rw [show (10 : Nat) ^ 9 = 1000000000 from rfl] at this; omega
               have hr'H := hid hr'; have l4s := l4.size; have hDk := hDk; generalize hDD : D ++ D' = DD at *; have HDD := hid hDD; obtain ⟨ti, hti, htz, hts, htb⟩ := info_parts info5; clear hdg hrn hby hDD; go_wp2_with (at_builtin; refine list_app (by rfl) _ _ _ (by rfl) w.heap.size 5 ti _ 1 1 Tryz.underlying232 hti htz hts htb rfl (by omega) u12 DD.length (u8s DD) (by rfl) l1a.out [.int .u8 (by_ : Int)] ⟨_, _, rfl, World.news_of_block (cs := #[.int .u8 (by_ : Int)]) (t := 5) (fr := (0, 0)) (by simp only [block_at])⟩ (by rfl) (by simp [Value.oneCell']) (by unfold maxLen; omega) (by omega) (by simp; omega) ?_; intro gb cp wa hown hgrow hat hlt)
               go_roundw
               case rel =>
                have hdg := HDG.out; have hrn := HRN.out; have hby := HBY.out; have hr2 := hr'H.out; have B3 : Below w.heap.size w wa := Below.trans (l4.alloc l4s _) (own_grow l1a.out (by simp; omega) hgrow)
                have R3 : Ro wa g (words q ++ Z2) := (l3.keep ((Below.refl _ _).alloc (Nat.le_refl _) _)).grown hgrow (l1a.out.apart (l3.keep ((Below.refl _ _).alloc (Nat.le_refl _) _))); refine ⟨k + 1, rn, D' ++ [UInt8.ofNat by_], by rfl, by go_num, by omega, ?_, by rw [List.length_append, List.length_singleton]; omega, hid ⟨Ob.of_own HDD.out (by omega) hown, ?_, R3, B3⟩⟩
                · rw [hrn, Nat.div_lt_iff_lt_mul (by decide)]
                  rw [show 9 - k = 9 - (k + 1) + 1 by omega, Nat.pow_succ] at hr2
                  exact hr2
                · rw [l2, figs_pos hk9, List.reverse_append, List.append_assoc, hrn, hby, hdg]; rfl
               case measure => simp [intOf]; omega
             · obtain rfl : r' = 0 := by omega
               have hDp : 0 < D'.length := (by rcases Nat.eq_zero_or_pos D'.length with h | h; (exfalso; rw [List.length_eq_zero_iff.1 h, figs_0] at l2; have h3 := congrArg List.length l2; have h4 : (figs r).length ≠ 0 := (fun h5 => h2r (by have := figs_len (n := r) (k := 0); omega)); exact h4 (by rw [h3]; rfl)); exact h)
               have LE := l1.lenV; rw [List.length_append] at LE; have FG : Hid (figs M = figs q ++ (D ++ D').reverse) := hid (by rw [IZ.out.2.2.2.1, tell_last HQ1.out HQ2.out HQ0.out, l2, HQ0.out, figs_0, List.nil_append, List.nil_append, List.reverse_append])
               have DB : (D ++ D').length ≤ 10 * (words M).length := by
                have h1 := congrArg List.length FG.out; have h2 := figs_words M; rw [List.length_append, List.length_reverse] at h1; omega
               rw [List.length_append] at DB; have NXT : Hid (TellI w g (words M).length M q (D ++ D') _ wr) := hid ⟨Z2, l3, QLE.out, l1, FG.out, l4, by have := IZ.out.2.2.2.2.2; omega⟩
               have LV := IZ.out.2.2.1.lenV; clear l2; go_wp2_with fail
               all_goals
                go_roundw
                case rel => exact ⟨q, D ++ D', by rw [← HLQ.out], NXT⟩
                case measure =>
                 show 10 * (words M).length + 1 - lenV _ < 10 * (words M).length + 1 - lenV _
                 rw [LE, LV]; omega
          · have hql : (0 : Int) < (lq : Int) := by
             have : (words q).length ≠ 0 := fun e => hq0 (words_len0.1 e)
             omega
            clear hlq; go_wp2_with (go_at_call 196; (with_reducible refine TR.mono ?_); rintro e w' ⟨rfl, hw⟩; obtain rfl := hw.symm)
            go_loopw [12, 16, 17] (fun vd vr vi wx => ∃ (k r' : Nat) (D' : List UInt8), vr = .int .u32 r' ∧ vi = .int .i64 k ∧ k ≤ 9 ∧ r' < 10 ^ (9 - k) ∧ D'.length = k ∧ Hid (Ob wx w.heap.size vd (D ++ D') ∧ padf 9 r = padf (9 - k) r' ++ D'.reverse ∧ Ro wx g (words q ++ Z2) ∧ Below w.heap.size w wx)) (fun _ _ vi _ => 9 - (intOf vi).toNat)
            case atStart => exact ⟨0, r, [], rfl, rfl, by omega, by omega, rfl, hid ⟨by rw [List.append_nil]; exact i6, by simp, hRq, i7⟩⟩
            case round =>
             obtain ⟨k, r', D', rfl, rfl, hk, hr', hDk, hL⟩ := hrel; obtain ⟨l1, l2, l3, l4⟩ := id hL.out; by_cases hk9 : k < 9
             · skip
               have hk8 : (k : Int) < 9 := by omega
               skip
               skip
               skip
               obtain ⟨dg, hdg⟩ : ∃ dg, dg = r' % 10 := ⟨_, rfl⟩; have hdg9 : dg < 10 := by omega
               have m1 : (r' : Int) % 10 = (dg : Int) := by omega
               obtain ⟨rn, hrn⟩ : ∃ rn, rn = r' / 10 := ⟨_, rfl⟩; have m2 : (r' : Int) / 10 = (rn : Int) := by omega
               have hidx := fun w => idx_fig dg hdg9 w
               obtain ⟨by_, hby⟩ : ∃ b : Nat, b = 48 + dg := ⟨_, rfl⟩; rw [← hby] at hidx; have HDG := hid hdg; have HRN := hid hrn; have HBY := hid hby; have l1a : Hid (Ob (wr.alloc (.cells #[.int .u8 (by_ : Int)] 5)) w.heap.size u12 (D ++ D')) := hid (l1.below ((Below.refl _ _).alloc (Nat.le_refl _) _)); have hDl : (D ++ D').length ≤ 1099511627776 := by rw [List.length_append]; omega
               have hrnB : rn < 4294967296 := by have : (10 : Nat) ^ (9 - k) ≤ 10 ^ 9 := Nat.pow_le_pow_right (by decide) (by omega); rw [show (10 : Nat) ^ 9 = 1000000000 from rfl] at this; omega
               have hr'H := hid hr'; have l4s := l4.size; have hDk := hDk; generalize hDD : D ++ D' = DD at *; have HDD := hid hDD; obtain ⟨ti, hti, htz, hts, htb⟩ := info_parts info5; clear hdg hrn hby hDD; go_wp2_with (at_builtin; refine list_app (by rfl) _ _ _ (by rfl) w.heap.size 5 ti _ 1 1 Tryz.underlying232 hti htz hts htb rfl (by omega) u12 DD.length (u8s DD) (by rfl) l1a.out [.int .u8 (by_ : Int)] ⟨_, _, rfl, World.news_of_block (cs := #[.int .u8 (by_ : Int)]) (t := 5) (fr := (0, 0)) (by simp only [block_at])⟩ (by rfl) (by simp [Value.oneCell']) (by unfold maxLen; omega) (by omega) (by simp; omega) ?_; intro gb cp wa hown hgrow hat hlt)
               go_roundw
               case rel =>
                have hdg := HDG.out; have hrn := HRN.out; have hby := HBY.out; have hr2 := hr'H.out; have B3 : Below w.heap.size w wa := Below.trans (l4.alloc l4s _) (own_grow l1a.out (by simp; omega) hgrow)
                have R3 : Ro wa g (words q ++ Z2) := (l3.keep ((Below.refl _ _).alloc (Nat.le_refl _) _)).grown hgrow (l1a.out.apart (l3.keep ((Below.refl _ _).alloc (Nat.le_refl _) _))); refine ⟨k + 1, rn, D' ++ [UInt8.ofNat by_], by rfl, by go_num, by omega, ?_, by rw [List.length_append, List.length_singleton]; omega, hid ⟨Ob.of_own HDD.out (by omega) hown, ?_, R3, B3⟩⟩
                · rw [hrn, Nat.div_lt_iff_lt_mul (by decide)]
                  rw [show 9 - k = 9 - (k + 1) + 1 by omega, Nat.pow_succ] at hr2
                  exact hr2
                · rw [l2, show 9 - k = 9 - (k + 1) + 1 by omega, padf_succ, List.reverse_append, List.append_assoc, hrn, hby, hdg]
                  rfl
               case measure => simp [intOf]; omega
             · obtain rfl : k = 9 := by omega
               obtain rfl : r' = 0 := by simpa using hr'
               have hDp : 0 < D'.length := by omega
               have LE := l1.lenV; rw [List.length_append] at LE; have FG : Hid (figs M = figs q ++ (D ++ D').reverse) := hid (by rw [IZ.out.2.2.2.1, tell_more HQ1.out HQ2.out hq0, l2, show (9 : Nat) - 9 = 0 from rfl, padf_zero, figs_0, List.nil_append, List.reverse_append, List.append_assoc])
               have DB : (D ++ D').length ≤ 10 * (words M).length := by
                have h1 := congrArg List.length FG.out; have h2 := figs_words M; rw [List.length_append, List.length_reverse] at h1; omega
               rw [List.length_append] at DB; have NXT : Hid (TellI w g (words M).length M q (D ++ D') _ wr) := hid ⟨Z2, l3, QLE.out, l1, FG.out, l4, by have := IZ.out.2.2.2.2.2; omega⟩
               have LV := IZ.out.2.2.1.lenV; clear l2; go_wp2_with fail
               all_goals
                go_roundw
                case rel => exact ⟨q, D ++ D', by rw [← HLQ.out], NXT⟩
                case measure =>
                 show 10 * (words M).length + 1 - lenV _ < 10 * (words M).length + 1 - lenV _
                 rw [LE, LV]; omega
        · obtain ⟨i1, i2, i3, i4, i5, i6, i7⟩ := id hI.out; have hx : (words n)[j]? = some (words n)[j] := List.getElem?_eq_getElem (by omega)
          obtain ⟨x, hxx⟩ : ∃ x, x = (words n)[j] := ⟨_, rfl⟩; rw [← hxx] at hx; have hxB := (words_ok n).get hx; have c0 := i5.cell (i := j) (x := x) (by rw [List.getElem?_append_left (by rw [List.length_take]; omega), List.getElem?_take_of_lt (by omega)]; exact hx)
          have f0 := i5.free j; have hgw := i5.lt; haveI : Has wr g := ⟨hgw⟩; obtain ⟨t, ht⟩ : ∃ t, t = r * 4294967296 + x := ⟨_, rfl⟩; obtain ⟨qd, hqd⟩ : ∃ qd, qd = t / 1000000000 := ⟨_, rfl⟩; obtain ⟨r2, hr2⟩ : ∃ r2, r2 = t % 1000000000 := ⟨_, rfl⟩; have hqB : qd < 4294967296 := by omega
          have hrB : r2 < 1000000000 := by omega
          have o1 := or64 (r * 4294967296) x (by omega) (by omega)
          rw [or_high x r hxB, ← ht, Int.natCast_mul] at o1; have o1 : bits BinOp.or IntKind.u64 ((r : Int) * 4294967296) (x : Int) = (t : Int) := o1; have e1 : (t : Int) / 1000000000 = (qd : Int) := by omega
          have e2 : (t : Int) % 1000000000 = (r2 : Int) := by omega
          have tB : t < 4294967296000000000 := by omega
          have hjc : j < (words M).length := by omega
          have hr9 : r < 1000000000 := i3; have hjl : (j : Int) < ((words n).length : Int) := by omega
          have NX : Hid (DivI w g n Z D u12 j r2 (qd :: Q) (wr.setCell ⟨g, j, none⟩ (.int .u32 qd))) := hid (by
           refine ⟨by simp; omega, Wok.cons hqB i2, hrB, ?_, ?_, ?_, ?_⟩
           · rw [val_drop hx, i4, val, hqd, hr2, ht]; have := Nat.div_add_mod (r * 4294967296 + x) 1000000000; omega
           · have h1 := i5.set j qd; have h2 : (words n).take (j + 1) = (words n).take j ++ [x] := by rw [List.take_add_one, hx]; rfl
             have h3 : ((words n).take j).length = j := by rw [List.length_take]; omega
             rw [h2, List.append_assoc, List.singleton_append] at h1; have h4 := set_row ((words n).take j) (Q ++ Z) x qd; rw [h3] at h4; rw [h4, List.append_assoc] at h1; exact h1
           · exact i6.keep ((Keeps.refl wr.heap.size [g] wr).set (Or.inl (by simp)) _ _) (Nat.le_refl _) (i6.apart i5)
           · exact ((Keeps.of_below (S := []) i7).set (Or.inr hgB) _ _).below)
          rw [show ((j + 1 : Nat) : Int) - 1 = (j : Int) by omega] at *
          clear hx hxx i1 i2 i3 i4 i5 i6 i7 ht hqd hr2 hI; go_wp2_with fail
          go_roundw
          case rel => exact ⟨j, r2, _, (by first | rfl | exact congrArg (Value.int .u64) e2), by go_num, by omega, NX⟩
          case measure => simp [intOf]
end Go.Proofs.YthjeejnggpjnjaaGreatDoor
