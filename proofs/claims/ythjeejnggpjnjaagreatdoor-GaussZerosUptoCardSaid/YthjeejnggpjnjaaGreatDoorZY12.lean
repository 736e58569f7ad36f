/- A part: AR, AS, AT, AU, AV. -/
import Derived.Test.YthjeejnggpjnjaaGreatDoorZY11
set_option linter.unusedSimpArgs false
set_option linter.unusedVariables false
set_option maxRecDepth 100000
set_option maxHeartbeats 16000000
set_option synthInstance.maxHeartbeats 2000000
set_option synthInstance.maxSize 100000
namespace Go.Proofs.YthjeejnggpjnjaaGreatDoor
open Go.RowKit
theorem Ob.formA {w : World} {B : Nat} {v : Value} {L : List UInt8} (h : Ob w B v L) : ∃ a cap, v = .slice a L.length cap ∧ L.length ≤ cap := by
 rcases h.2 with ⟨rfl, h0⟩ | ⟨g, cap, cur, h1, h2, hb, h3, -⟩
 · exact ⟨none, 0, by rw [h0], by omega⟩
 · exact ⟨_, cap, h1, h3⟩
theorem Ob.capA {w : World} {B n cap : Nat} {a : Option Addr} {L : List UInt8} (h : Ob w B (.slice a n cap) L) : L.length ≤ cap := by
 obtain ⟨a', c', h1, h2⟩ := h.formA; simp only [Value.slice.injEq] at h1; omega
theorem Rb.ob {w : World} {g B : Nat} {L : List UInt8} (h : Rb w g L) (hB : B ≤ g) (hm : L.length ≤ 1099511627776) : Ob w B (.slice (some ⟨g, 0, none⟩) L.length L.length) L := by
 refine ⟨by rw [u8s_len]; omega, .inr ⟨g, L.length, (u8s L).toArray, rfl, hB, h, Nat.le_refl _, ?_, ?_, ?_⟩⟩
 · unfold maxLen; omega
 · simp [u8s_len]
 · simp only [Nat.mul_one]; rw [List.take_of_length_le (by rw [u8s_len]; exact Nat.le_refl _)]
theorem btell_short (M : Nat) (least : Int) (hl1 : -1099511627776 ≤ least) (hl2 : least ≤ 549755813888) (hor : M ≠ 0 ∨ 0 < least) (hl : (words M).length ≤ 40) (va : Value) (w : World) (wx : Wd w va (words M)) :
 Calls Tryz.prog 227 #[va, .int .i64 10, .int .i64 least] w fun e w' => ∃ v, e = .returned v ∧ Ob w' w.heap.size v (padf least.toNat M) ∧ Below w.heap.size w w' := by
 have CP := hid (fun w' (h : Below w.heap.size w w') => bcopied va (words M) w' (wx.below h) (by omega))
 obtain ⟨ax, cx, rfl, -, -⟩ := wx.form; have hl40 : ((words M).length : Int) ≤ 40 := by omega
 have HOR := hid hor; clear wx hor; go_enter Tryz.func227, Tryz.ntmps227; go_wp2_with fail
 go_loop [10, 11] (fun sb sp => ∃ p : Nat, sb = .int .u32 (10 ^ p : Nat) ∧ sp = .int .i64 p ∧ 1 ≤ p ∧ p ≤ 9) (fun _ sp => 9 - (intOf sp).toNat)
 case atStart => exact ⟨1, rfl, rfl, by omega, by omega⟩
 case round =>
  obtain ⟨p, rfl, rfl, hp1, hp2⟩ := hrel; by_cases hp : p < 9
  · have h1 : 10 ^ p ≤ 10 ^ 8 := Nat.pow_le_pow_right (by decide) (by omega)
    have h2 : ((10 ^ (p + 1) : Nat) : Int) = ((10 ^ p : Nat) : Int) * 10 := by rw [Nat.pow_succ, Int.natCast_mul]; rfl
    rw [show (10 : Nat) ^ 8 = 100000000 from rfl] at h1
    have H2 := hid h2; clear h2; obtain ⟨B, hB⟩ : ∃ B, B = 10 ^ p := ⟨_, rfl⟩; rw [← hB] at h1 H2 ⊢; clear hB; go_wp2_with fail
    go_round
    case rel => exact ⟨p + 1, by rw [H2.out], by go_num, by omega, by omega⟩
    case measure => simp [intOf]; omega
  · obtain rfl : p = 9 := by omega
    rw [show ((10 ^ 9 : Nat) : Int) = 1000000000 from rfl, show ((9 : Nat) : Int) = 9 from rfl]
    clear hp hp1 hp2; go_wp2_with (go_at_call 188; (with_reducible refine (CP.out _ (Below.refl _ _)).mono ?_); rintro e w1 ⟨g, rfl, hR1, hgB, hb1⟩)
    go_loopw [12, 0] (fun vb vw wr => ∃ (n : Nat) (D : List UInt8), vw = .slice (some ⟨g, 0, none⟩) (words n).length (words M).length ∧ Hid (TellI w g (words M).length M n D vb wr)) (fun vb _ _ => 10 * (words M).length + 1 - lenV vb)
    case atStart => exact ⟨M, [], rfl, hid ⟨[], by rw [List.append_nil]; exact hR1, Nat.le_refl _, Ob.nil _ _, by simp, hb1, Nat.le_refl _⟩⟩
    case round =>
     obtain ⟨n, D, rfl, hT⟩ := hrel; obtain ⟨wo, rfl⟩ : ∃ wo : World, wo = wr := ⟨_, rfl⟩; by_cases hn : n = 0
     · subst hn; obtain ⟨Z, t1, t2, t3, t4, t5, t6⟩ := hT.out; rw [figs_0, List.nil_append] at t4; rw [show (words 0).length = 0 by rw [words_0]; rfl]
       have DM : D.length ≤ 400 := by
        have h1 := congrArg List.length t4; have h2 := figs_words M; rw [List.length_reverse] at h1; omega
       have T4 := hid t4; have T3 := hid t3; have T5 := hid t5; obtain ⟨aD, cD, rfl, hcD⟩ := t3.formA; clear hT t1 t2 t3 t4 t5 t6; go_wp2_with fail
       go_loopw [12] (fun vb wx => ∃ (j : Nat) (ad : Option Addr) (cb : Nat), vb = .slice ad (D.length + j) cb ∧ (j = 0 ∨ ((D.length + j : Nat) : Int) ≤ least) ∧ D.length + j ≤ cb ∧ Hid (Ob wx w.heap.size vb (D ++ List.replicate j 48) ∧ Below w.heap.size w wx)) (fun vb _ => (least - (lenV vb : Int)).toNat)
       case atStart => exact ⟨0, aD, cD, rfl, .inl rfl, hcD, hid ⟨by rw [List.replicate_zero, List.append_nil]; exact T3.out, T5.out⟩⟩
       case round =>
        obtain ⟨j, ad, cb, rfl, hj, hjc, hO⟩ := hrel; obtain ⟨o1, o2⟩ := id hO.out; obtain ⟨DJ, hDJ⟩ : ∃ DJ, DJ = D ++ List.replicate j 48 := ⟨_, rfl⟩; have hDJl : DJ.length = D.length + j := by rw [hDJ, List.length_append, List.length_replicate]
        have HDJ := hid hDJ; rw [← hDJ] at o1; rw [← hDJl] at o1 hj hjc ⊢; have hDjb : DJ.length ≤ 1099511627776 := by rcases hj with h | h <;> omega
        have HJ := hid hj; have HJL := hid hDJl; clear hDJ hj hDJl hO; by_cases hle : (DJ.length : Int) < least
        · have l1a : Hid (Ob (wr.alloc (.cells #[.int .u8 48] 5)) w.heap.size (.slice ad DJ.length cb) DJ) := hid (o1.below ((Below.refl _ _).alloc (Nat.le_refl _) _)); obtain ⟨ti, hti, htz, hts, htb⟩ := info_parts info5; have o2s := o2.size; clear o1; go_wp2_with (at_builtin; refine list_app (by rfl) _ _ _ (by rfl) w.heap.size 5 ti _ 1 1 Tryz.underlying232 hti htz hts htb rfl (by omega) (.slice ad DJ.length cb) DJ.length (u8s DJ) (by rfl) l1a.out [.int .u8 48] ⟨_, _, rfl, World.news_of_block (cs := #[.int .u8 48]) (t := 5) (fr := (0, 0)) (by simp only [block_at])⟩ (by rfl) (by simp [Value.oneCell']) (by unfold maxLen; omega) (by omega) (by simp; omega) ?_; intro ga ca wa hown hgrow hat hlt)
          go_roundw
          case rel =>
           have ob := Ob.of_own (D := DJ) (D' := []) (b := 48) (by simp) (by decide) hown
           rw [List.nil_append, show UInt8.ofNat 48 = (48 : UInt8) from rfl] at ob
           have hcb3 := ob.capA; have e2 : DJ ++ [48] = D ++ List.replicate (j + 1) 48 := by rw [HDJ.out, List.append_assoc, List.replicate_succ']
           have hbx : Below w.heap.size w wa := Below.trans (o2.alloc o2s _) (own_grow l1a.out (by simp; omega) hgrow)
           have hJL := HJL.out; refine ⟨j + 1, some ⟨ga, 0, none⟩, ca, by rw [hJL]; rfl, .inr (by omega), ?_, hid ⟨by rw [← e2]; exact ob, hbx⟩⟩
           rw [List.length_append, List.length_singleton] at hcb3; omega
          case measure => simp only [lenV]; omega
        · have D2P : Hid (padf least.toNat M = DJ.reverse) := hid (by
           rw [HDJ.out, List.reverse_append, List.reverse_replicate]; unfold padf; rw [T4.out, List.length_reverse]
           congr 2
           have := HJL.out; rcases HJ.out with h | h <;> omega)
          have hDp : 0 < DJ.length := by
           rcases HOR.out with h | h
           · have h1 := congrArg List.length T4.out; rw [List.length_reverse] at h1; have h2 := figs_len (n := M) (k := 0); have := HJL.out; omega
           · omega
          obtain ⟨gb, cb2, he2, -, hcb3, hgl, hce⟩ := o1.form hDp; simp only [Value.slice.injEq] at he2; obtain ⟨rfl, -, rfl⟩ := he2; have hbx := o2; have hD2 := hDjb; have hleD : decide ((DJ.length : Int) < least) = false := decide_eq_false hle; clear o1 HJ HJL T3 T4 T5 HDJ hle; generalize DJ = D2 at *; obtain ⟨wq, rfl⟩ : ∃ wq : World, wq = wr := ⟨_, rfl⟩; have hnz : D2.length ≤ 1099511627776 := hD2; go_wp2_with (at_make; refine make_bytes _ rfl _ _ rfl _ D2.length rfl rfl rfl (by omega) ?_; intro wm hro hbm hltm)
          have hbm2 : Below w.heap.size w wm := Below.trans hbx (below_low hbm hbx.size); have hgne : gb ≠ wq.heap.size := by omega
          have hce2 : ∀ (i : Nat) (c : UInt8), D2[i]? = some c → wm.cell? ⟨gb, i, none⟩ = some (.int .u8 c.toNat) := fun i c h => (hbm.cell (p := ⟨gb, i, none⟩) hgl).trans (hce i c h)
          obtain ⟨go, hgo⟩ : ∃ go, go = wq.heap.size := ⟨_, rfl⟩; rw [← hgo] at hro hgne ⊢; have hgoB : w.heap.size ≤ go := by rw [hgo]; exact hbx.size
          have hgb2 : gb < wm.heap.size := Nat.lt_of_lt_of_le hgl hbm.size; have HCE := hid hce2; have NE := hid hgne; have HB2 := hid hbm2; clear hce hce2 hbm hbm2 hgo hgl hbx hgne; go_loopw [19] (fun s15 wy => ∃ j : Nat, s15 = .int .i64 j ∧ j ≤ D2.length ∧ Hid (Rb wy go (D2.reverse.take j ++ List.replicate (D2.length - j) 0) ∧ Below w.heap.size w wy ∧ (∀ (i : Nat) (c : UInt8), D2[i]? = some c → wy.cell? ⟨gb, i, none⟩ = some (.int .u8 c.toNat)) ∧ gb < wy.heap.size)) (fun s15 _ => D2.length - (intOf s15).toNat)
          case atStart => exact ⟨0, rfl, Nat.zero_le _, hid ⟨by rw [List.take_zero, List.nil_append, Nat.sub_zero]; exact hro.out, HB2.out, HCE.out, hgb2⟩⟩
          case round =>
           obtain ⟨j, rfl, hj, hJ⟩ := hrel; by_cases hjl : j < D2.length
           · obtain ⟨j1, j2, j3, j4⟩ := hJ.out; obtain ⟨ix, hix⟩ : ∃ ix, ix = D2.length - 1 - j := ⟨_, rfl⟩; have hixI : (D2.length : Int) - 1 - (j : Int) = (ix : Int) := by omega
             have hixl : ix < D2.length := by omega
             have hixl2 : (ix : Int) < (D2.length : Int) := by omega
             have hjI : (j : Int) < (D2.length : Int) := by omega
             obtain ⟨c, hc⟩ : ∃ c, c = D2[ix] := ⟨_, rfl⟩; have hcx : D2[ix]? = some c := by rw [hc]; exact List.getElem?_eq_getElem hixl
             have cb0 := j3 ix c hcx
             have hrv : D2.reverse[j]? = some c := by
              rw [List.getElem?_reverse hjl, ← hix]; exact hcx
             have hsz : (D2.reverse.take j).length = j := by rw [List.length_take, List.length_reverse]; omega
             have hrow : D2.reverse.take j ++ List.replicate (D2.length - j) 0 = D2.reverse.take j ++ 0 :: List.replicate (D2.length - (j + 1)) 0 := by
              rw [show D2.length - j = D2.length - (j + 1) + 1 by omega, List.replicate_succ]
             rw [hrow] at j1; have c1 := j1.cell (i := j) (c := 0) (by rw [List.getElem?_append_right (by omega), hsz, Nat.sub_self]; rfl)
             have f1 := j1.free j; haveI : Has wr go := ⟨j1.lt⟩; haveI : Has wr gb := ⟨j4⟩; have S1 := j1.set j c
             have hset : (D2.reverse.take j ++ 0 :: List.replicate (D2.length - (j + 1)) 0).set j c = D2.reverse.take (j + 1) ++ List.replicate (D2.length - (j + 1)) 0 := by
              rw [List.set_append_right _ _ (by omega), hsz, Nat.sub_self, List.set_cons_zero, List.take_add_one, hrv, List.append_assoc]
              rfl
             rw [hset] at S1
             have NX : Hid (Rb (wr.setCell ⟨go, j, none⟩ (.int .u8 (c.toNat : Int))) go (D2.reverse.take (j + 1) ++ List.replicate (D2.length - (j + 1)) 0) ∧ Below w.heap.size w (wr.setCell ⟨go, j, none⟩ (.int .u8 (c.toNat : Int))) ∧ (∀ (i : Nat) (c' : UInt8), D2[i]? = some c' → (wr.setCell ⟨go, j, none⟩ (.int .u8 (c.toNat : Int))).cell? ⟨gb, i, none⟩ = some (.int .u8 c'.toNat)) ∧ gb < (wr.setCell ⟨go, j, none⟩ (.int .u8 (c.toNat : Int))).heap.size) := hid ⟨S1, ((Keeps.of_below (S := []) j2).set (Or.inr hgoB) _ _).below, fun i c' h => by
              rw [World.cell?_setCell_other _ _ _ _ (fun e => NE.out (congrArg Addr.block e).symm)]
              exact j3 i c' h, by rw [World.size_setCell]; exact j4⟩
             obtain ⟨cn, hcn⟩ : ∃ cn : Nat, cn = c.toNat := ⟨_, rfl⟩; rw [← hcn] at cb0 NX; have hcb2 : ix < cb := by omega
             clear j1 j2 j3 j4 S1 hset hrow hrv hcx hc hix hJ hsz hcn; go_wp2_with fail
             go_roundw
             case rel => exact ⟨j + 1, by go_num, by omega, NX⟩
             case measure => simp [intOf]; omega
           · obtain rfl : j = D2.length := by omega
             obtain ⟨j1, j2, -, -⟩ := hJ.out; rw [Nat.sub_self, List.replicate_zero, List.append_nil, ← List.length_reverse, List.take_length] at j1; have hcv := j1.ob (B := w.heap.size) hgoB (by rw [List.length_reverse]; exact hnz)
             rw [List.length_reverse] at hcv; have J1 := hid hcv; have J2 := hid j2; clear j1 j2 hJ hcv; go_wp2_with fail
             go_ret
             exact ⟨_, rfl, by rw [D2P.out]; exact J1.out, J2.out⟩
     · obtain ⟨Z, IZ⟩ : ∃ Z, Hid (Ro wo g (words n ++ Z) ∧ (words n).length ≤ (words M).length ∧ Ob wo w.heap.size _ D ∧ figs M = figs n ++ D.reverse ∧ Below w.heap.size w wo ∧ n ≤ M) := ⟨_, hid hT.out.choose_spec⟩; have hcap : (words n).length ≤ (words M).length := IZ.out.2.1
       have hnl : (0 : Int) < ((words n).length : Int) := by
        have : (words n).length ≠ 0 := fun e => hn (words_len0.1 e)
        omega
       go_wp2_with fail
       go_loopw [13, 14] (fun sr si wx => ∃ (j r : Nat) (Q : List Nat), sr = .int .u64 r ∧ si = .int .i64 ((j : Int) - 1) ∧ j ≤ (words n).length ∧ Hid (DivI w g n Z D u12 j r Q wx)) (fun _ si _ => (intOf si + 1).toNat)
       case atStart => exact ⟨(words n).length, 0, [], rfl, by go_num, Nat.le_refl _, hid ⟨by simp, Wok.nil, by decide, by simp [val], by rw [List.take_length]; exact IZ.out.1, IZ.out.2.2.1, IZ.out.2.2.2.2.1⟩⟩
       case round =>
        obtain ⟨j, r, Q, rfl, rfl, hj, hI⟩ := hrel; rcases j with _ | j
        · skip
          obtain ⟨i1, i2, i3, i4, i5, i6, i7⟩ := id hI.out; rw [List.drop_zero, val_words] at i4; rw [List.take_zero, List.nil_append] at i5; obtain ⟨Z1, hZ1⟩ := wok_split i2; obtain ⟨q, hq⟩ : ∃ q, q = val Q := ⟨_, rfl⟩; have TR := btrimR g (words M).length Q Z wr i5 i2 (by omega) (by omega)
          rw [← hq, show Q.length = (words n).length by omega] at TR
          rw [← hq] at i4 hZ1; obtain ⟨Z2, hZ2⟩ : ∃ Z2, Z2 = Z1 ++ Z := ⟨_, rfl⟩; have hRq : Ro wr g (words q ++ Z2) := by rw [hZ2, ← List.append_assoc, ← hZ1]; exact i5
          have hq1 : q = n / 1000000000 := by omega
          have hq2 : r = n % 1000000000 := by omega
          have hqn : q < n := by omega
          have HQ1 := hid hq1; have HQ2 := hid hq2; have r10 : r < 10 ^ 9 := i3; have i3' : r < 1000000000 := i3; have QLE : Hid ((words q).length ≤ (words M).length) := hid (Nat.le_trans (len_mono (Nat.le_of_lt hqn)) hcap)
          have DLB : D.length ≤ 171798691840 := by
           have h1 := congrArg List.length IZ.out.2.2.2.1; have h2 := figs_words M; rw [List.length_append, List.length_reverse] at h1; omega
          have h2r : q = 0 → r ≠ 0 := fun h => by omega
          clear hq hq1 hq2 hZ1 hZ2 i1 i2 i3 i4 i5 hI; obtain ⟨lq, hlq⟩ : ∃ lq, lq = (words q).length := ⟨_, rfl⟩; rw [← hlq] at TR; have HLQ := hid hlq; by_cases hq0 : q = 0
          · have h2r := h2r hq0; have HQ0 := hid hq0; have w0 : lq = 0 := by rw [hlq, hq0, words_0]; rfl
            subst w0; clear hq0 hlq; go_wp2_with (go_at_call 196; (with_reducible refine TR.mono ?_); rintro e w' ⟨rfl, hw⟩; obtain rfl := hw.symm)
            go_loopw [12, 16, 17] (fun vd vr vi wx => ∃ (k r' : Nat) (D' : List UInt8), vr = .int .u32 r' ∧ vi = .int .i64 k ∧ k ≤ 9 ∧ r' < 10 ^ (9 - k) ∧ D'.length = k ∧ Hid (Ob wx w.heap.size vd (D ++ D') ∧ figs r = figs r' ++ D'.reverse ∧ Ro wx g (words q ++ Z2) ∧ Below w.heap.size w wx)) (fun _ _ vi _ => 9 - (intOf vi).toNat)
            case atStart => exact ⟨0, r, [], rfl, rfl, by omega, by omega, rfl, hid ⟨by rw [List.append_nil]; exact i6, by simp, hRq, i7⟩⟩
            case round =>
             obtain ⟨k, r', D', rfl, rfl, hk, hr', hDk, hL⟩ := hrel; obtain ⟨l1, l2, l3, l4⟩ := id hL.out; by_cases hk9 : r' ≠ 0
             · have hk99 : k < 9 := (by rcases Nat.lt_or_eq_of_le hk with h | h; exact h; subst h; exfalso; apply hk9; simpa using hr')
               have hk8 : (k : Int) < 9 := by omega
               have hrp : decide ((0 : Int) < (r' : Int)) = true := decide_eq_true (by omega)
               have hrp2 : (0 : Int) < (r' : Int) := by omega
               have hrp3 : 0 < r' := by omega
               obtain ⟨dg, hdg⟩ : ∃ dg, dg = r' % 10 := ⟨_, rfl⟩; have hdg9 : dg < 10 := by omega
               have m1 : (r' : Int) % 10 = (dg : Int) := by omega
               obtain ⟨rn, hrn⟩ : ∃ rn, rn = r' / 10 := ⟨_, rfl⟩; have m2 : (r' : Int) / 10 = (rn : Int) := by omega
               have hidx := fun w => idx_fig dg hdg9 w
               obtain ⟨by_, hby⟩ : ∃ b : Nat, b = 48 + dg := ⟨_, rfl⟩; rw [← hby] at hidx; have HDG := hid hdg; have HRN := hid hrn; have HBY := hid hby; have l1a : Hid (Ob (wr.alloc (.cells #[.int .u8 (by_ : Int)] 5)) w.heap.size u12 (D ++ D')) := hid (l1.below ((Below.refl _ _).alloc (Nat.le_refl _) _)); have hDl : (D ++ D').length ≤ 1099511627776 := by rw [List.length_append]; omega
               have hrnB : rn < 4294967296 := by have : (10 : Nat) ^ (9 - k) ≤ 10 ^ 9 := Nat.pow_le_pow_right (by decide) (by omega); rw [show (10 : Nat) ^ 9 = 1000000000 from rfl] at this; omega
               have hr'H := hid hr'; have l4s := l4.size; have hDk := hDk; generalize hDD : D ++ D' = DD at *; have HDD := hid hDD; obtain ⟨ti, hti, htz, hts, htb⟩ := info_parts info5; clear hdg hrn hby hDD; go_wp2_with (at_builtin; refine list_app (by rfl) _ _ _ (by rfl) w.heap.size 5 ti _ 1 1 Tryz.underlying232 hti htz hts htb rfl (by omega) u12 DD.length (u8s DD) (by rfl) l1a.out [.int .u8 (by_ : Int)] ⟨_, _, rfl, World.news_of_block (cs := #[.int .u8 (by_ : Int)]) (t := 5) (fr := (0, 0)) (by simp only [block_at])⟩ (by rfl) (by simp [Value.oneCell']) (by unfold maxLen; omega) (by omega) (by simp; omega) ?_; intro gb cp wa hown hgrow hat hlt)
               go_roundw
               case rel =>
                have hdg := HDG.out; have hrn := HRN.out; have hby := HBY.out; have hr2 := hr'H.out; have B3 : Below w.heap.size w wa := Below.trans (l4.alloc l4s _) (own_grow l1a.out (by simp; omega) hgrow)
                have R3 : Ro wa g (words q ++ Z2) := (l3.keep ((Below.refl _ _).alloc (Nat.le_refl _) _)).grown hgrow (l1a.out.apart (l3.keep ((Below.refl _ _).alloc (Nat.le_refl _) _))); refine ⟨k + 1, rn, D' ++ [UInt8.ofNat by_], by rfl, by go_num, by omega, ?_, by rw [List.length_append, List.length_singleton]; omega, hid ⟨Ob.of_own HDD.out (by omega) hown, ?_, R3, B3⟩⟩
                · rw [hrn, Nat.div_lt_iff_lt_mul (by decide)]
                  rw [show 9 - k = 9 - (k + 1) + 1 by omega, Nat.pow_succ] at hr2
                  exact hr2
                · rw [l2, figs_pos hk9, List.reverse_append, List.append_assoc, hrn, hby, hdg]; rfl
               case measure => simp [intOf]; omega
             · obtain rfl : r' = 0 := by omega
               have hDp : 0 < D'.length := (by rcases Nat.eq_zero_or_pos D'.length with h | h; (exfalso; rw [List.length_eq_zero_iff.1 h, figs_0] at l2; have h3 := congrArg List.length l2; have h4 : (figs r).length ≠ 0 := (fun h5 => h2r (by have := figs_len (n := r) (k := 0); omega)); exact h4 (by rw [h3]; rfl)); exact h)
               have LE := l1.lenV; rw [List.length_append] at LE; have FG : Hid (figs M = figs q ++ (D ++ D').reverse) := hid (by rw [IZ.out.2.2.2.1, tell_last HQ1.out HQ2.out HQ0.out, l2, HQ0.out, figs_0, List.nil_append, List.nil_append, List.reverse_append])
               have DB : (D ++ D').length ≤ 10 * (words M).length := by
                have h1 := congrArg List.length FG.out; have h2 := figs_words M; rw [List.length_append, List.length_reverse] at h1; omega
               rw [List.length_append] at DB; have NXT : Hid (TellI w g (words M).length M q (D ++ D') _ wr) := hid ⟨Z2, l3, QLE.out, l1, FG.out, l4, by have := IZ.out.2.2.2.2.2; omega⟩
               have LV := IZ.out.2.2.1.lenV; clear l2; go_wp2_with fail
               all_goals
                go_roundw
                case rel => exact ⟨q, D ++ D', by rw [← HLQ.out], NXT⟩
                case measure =>
                 show 10 * (words M).length + 1 - lenV _ < 10 * (words M).length + 1 - lenV _
                 rw [LE, LV]; omega
          · have hql : (0 : Int) < (lq : Int) := by
             have : (words q).length ≠ 0 := fun e => hq0 (words_len0.1 e)
             omega
            clear hlq; go_wp2_with (go_at_call 196; (with_reducible refine TR.mono ?_); rintro e w' ⟨rfl, hw⟩; obtain rfl := hw.symm)
            go_loopw [12, 16, 17] (fun vd vr vi wx => ∃ (k r' : Nat) (D' : List UInt8), vr = .int .u32 r' ∧ vi = .int .i64 k ∧ k ≤ 9 ∧ r' < 10 ^ (9 - k) ∧ D'.length = k ∧ Hid (Ob wx w.heap.size vd (D ++ D') ∧ padf 9 r = padf (9 - k) r' ++ D'.reverse ∧ Ro wx g (words q ++ Z2) ∧ Below w.heap.size w wx)) (fun _ _ vi _ => 9 - (intOf vi).toNat)
            case atStart => exact ⟨0, r, [], rfl, rfl, by omega, by omega, rfl, hid ⟨by rw [List.append_nil]; exact i6, by simp, hRq, i7⟩⟩
            case round =>
             obtain ⟨k, r', D', rfl, rfl, hk, hr', hDk, hL⟩ := hrel; obtain ⟨l1, l2, l3, l4⟩ := id hL.out; by_cases hk9 : k < 9
             · skip
               have hk8 : (k : Int) < 9 := by omega
               skip
               skip
               skip
               obtain ⟨dg, hdg⟩ : ∃ dg, dg = r' % 10 := ⟨_, rfl⟩; have hdg9 : dg < 10 := by omega
               have m1 : (r' : Int) % 10 = (dg : Int) := by omega
               obtain ⟨rn, hrn⟩ : ∃ rn, rn = r' / 10 := ⟨_, rfl⟩; have m2 : (r' : Int) / 10 = (rn : Int) := by omega
               have hidx := fun w => idx_fig dg hdg9 w
               obtain ⟨by_, hby⟩ : ∃ b : Nat, b = 48 + dg := ⟨_, rfl⟩; rw [← hby] at hidx; have HDG := hid hdg; have HRN := hid hrn; have HBY := hid hby; have l1a : Hid (Ob (wr.alloc (.cells #[.int .u8 (by_ : Int)] 5)) w.heap.size u12 (D ++ D')) := hid (l1.below ((Below.refl _ _).alloc (Nat.le_refl _) _)); have hDl : (D ++ D').length ≤ 1099511627776 := by rw [List.length_append]; omega
               have hrnB : rn < 4294967296 := by have : (10 : Nat) ^ (9 - k) ≤ 10 ^ 9 := Nat.pow_le_pow_right (by decide) (by omega); rw [show (10 : Nat) ^ 9 = 1000000000 from rfl] at this; omega
               have hr'H := hid hr'; have l4s := l4.size; have hDk := hDk; generalize hDD : D ++ D' = DD at *; have HDD := hid hDD; obtain ⟨ti, hti, htz, hts, htb⟩ := info_parts info5; clear hdg hrn hby hDD; go_wp2_with (at_builtin; refine list_app (by rfl) _ _ _ (by rfl) w.heap.size 5 ti _ 1 1 Tryz.underlying232 hti htz hts htb rfl (by omega) u12 DD.length (u8s DD) (by rfl) l1a.out [.int .u8 (by_ : Int)] ⟨_, _, rfl, World.news_of_block (cs := #[.int .u8 (by_ : Int)]) (t := 5) (fr := (0, 0)) (by simp only [block_at])⟩ (by rfl) (by simp [Value.oneCell']) (by unfold maxLen; omega) (by omega) (by simp; omega) ?_; intro gb cp wa hown hgrow hat hlt)
               go_roundw
               case rel =>
                have hdg := HDG.out; have hrn := HRN.out; have hby := HBY.out; have hr2 := hr'H.out; have B3 : Below w.heap.size w wa := Below.trans (l4.alloc l4s _) (own_grow l1a.out (by simp; omega) hgrow)
                have R3 : Ro wa g (words q ++ Z2) := (l3.keep ((Below.refl _ _).alloc (Nat.le_refl _) _)).grown hgrow (l1a.out.apart (l3.keep ((Below.refl _ _).alloc (Nat.le_refl _) _))); refine ⟨k + 1, rn, D' ++ [UInt8.ofNat by_], by rfl, by go_num, by omega, ?_, by rw [List.length_append, List.length_singleton]; omega, hid ⟨Ob.of_own HDD.out (by omega) hown, ?_, R3, B3⟩⟩
                · rw [hrn, Nat.div_lt_iff_lt_mul (by decide)]
                  rw [show 9 - k = 9 - (k + 1) + 1 by omega, Nat.pow_succ] at hr2
                  exact hr2
                · rw [l2, show 9 - k = 9 - (k + 1) + 1 by omega, padf_succ, List.reverse_append, List.append_assoc, hrn, hby, hdg]
                  rfl
               case measure => simp [intOf]; omega
             · obtain rfl : k = 9 := by omega
               obtain rfl : r' = 0 := by simpa using hr'
               have hDp : 0 < D'.length := by omega
               have LE := l1.lenV; rw [List.length_append] at LE; have FG : Hid (figs M = figs q ++ (D ++ D').reverse) := hid (by rw [IZ.out.2.2.2.1, tell_more HQ1.out HQ2.out hq0, l2, show (9 : Nat) - 9 = 0 from rfl, padf_zero, figs_0, List.nil_append, List.reverse_append, List.append_assoc])
               have DB : (D ++ D').length ≤ 10 * (words M).length := by
                have h1 := congrArg List.length FG.out; have h2 := figs_words M; rw [List.length_append, List.length_reverse] at h1; omega
               rw [List.length_append] at DB; have NXT : Hid (TellI w g (words M).length M q (D ++ D') _ wr) := hid ⟨Z2, l3, QLE.out, l1, FG.out, l4, by have := IZ.out.2.2.2.2.2; omega⟩
               have LV := IZ.out.2.2.1.lenV; clear l2; go_wp2_with fail
               all_goals
                go_roundw
                case rel => exact ⟨q, D ++ D', by rw [← HLQ.out], NXT⟩
                case measure =>
                 show 10 * (words M).length + 1 - lenV _ < 10 * (words M).length + 1 - lenV _
                 rw [LE, LV]; omega
        · obtain ⟨i1, i2, i3, i4, i5, i6, i7⟩ := id hI.out; have hx : (words n)[j]? = some (words n)[j] := List.getElem?_eq_getElem (by omega)
          obtain ⟨x, hxx⟩ : ∃ x, x = (words n)[j] := ⟨_, rfl⟩; rw [← hxx] at hx; have hxB := (words_ok n).get hx; have c0 := i5.cell (i := j) (x := x) (by rw [List.getElem?_append_left (by rw [List.length_take]; omega), List.getElem?_take_of_lt (by omega)]; exact hx)
          have f0 := i5.free j; have hgw := i5.lt; haveI : Has wr g := ⟨hgw⟩; obtain ⟨t, ht⟩ : ∃ t, t = r * 4294967296 + x := ⟨_, rfl⟩; obtain ⟨qd, hqd⟩ : ∃ qd, qd = t / 1000000000 := ⟨_, rfl⟩; obtain ⟨r2, hr2⟩ : ∃ r2, r2 = t % 1000000000 := ⟨_, rfl⟩; have hqB : qd < 4294967296 := by omega
          have hrB : r2 < 1000000000 := by omega
          have o1 := or64 (r * 4294967296) x (by omega) (by omega)
          rw [or_high x r hxB, ← ht, Int.natCast_mul] at o1; have o1 : bits BinOp.or IntKind.u64 ((r : Int) * 4294967296) (x : Int) = (t : Int) := o1; have e1 : (t : Int) / 1000000000 = (qd : Int) := by omega
          have e2 : (t : Int) % 1000000000 = (r2 : Int) := by omega
          have tB : t < 4294967296000000000 := by omega
          have hjc : j < (words M).length := by omega
          have hr9 : r < 1000000000 := i3; have hjl : (j : Int) < ((words n).length : Int) := by omega
          have NX : Hid (DivI w g n Z D u12 j r2 (qd :: Q) (wr.setCell ⟨g, j, none⟩ (.int .u32 qd))) := hid (by
           refine ⟨by simp; omega, Wok.cons hqB i2, hrB, ?_, ?_, ?_, ?_⟩
           · rw [val_drop hx, i4, val, hqd, hr2, ht]; have := Nat.div_add_mod (r * 4294967296 + x) 1000000000; omega
           · have h1 := i5.set j qd; have h2 : (words n).take (j + 1) = (words n).take j ++ [x] := by rw [List.take_add_one, hx]; rfl
             have h3 : ((words n).take j).length = j := by rw [List.length_take]; omega
             rw [h2, List.append_assoc, List.singleton_append] at h1; have h4 := set_row ((words n).take j) (Q ++ Z) x qd; rw [h3] at h4; rw [h4, List.append_assoc] at h1; exact h1
           · exact i6.keep ((Keeps.refl wr.heap.size [g] wr).set (Or.inl (by simp)) _ _) (Nat.le_refl _) (i6.apart i5)
           · exact ((Keeps.of_below (S := []) i7).set (Or.inr hgB) _ _).below)
          rw [show ((j + 1 : Nat) : Int) - 1 = (j : Int) by omega] at *
          clear hx hxx i1 i2 i3 i4 i5 i6 i7 ht hqd hr2 hI; go_wp2_with fail
          go_roundw
          case rel => exact ⟨j, r2, _, (by first | rfl | exact congrArg (Value.int .u64) e2), by go_num, by omega, NX⟩
          case measure => simp [intOf]
def TellC (M : Nat) : Prop := ∀ (least : Int) (va : Value) (w : World), -1099511627776 ≤ least - (bl M : Int) → least ≤ 549755813888 → (M ≠ 0 ∨ 0 < least) → Wd w va (words M) →
 Calls Tryz.prog 227 #[va, .int .i64 10, .int .i64 least] w fun e w' => ∃ v, e = .returned v ∧ Ob w' w.heap.size v (padf least.toNat M) ∧ Below w.heap.size w w'
theorem bl_div {M k : Nat} (h : M / 10 ^ k ≠ 0) : bl (M / 10 ^ k) + k ≤ bl M := by
 have h1 := bl_le h; have h2 := bl_lt M; have h3 : M / 10 ^ k * 10 ^ k ≤ M := Nat.div_mul_le_self _ _; have h4 : 2 ^ k ≤ 10 ^ k := Nat.pow_le_pow_left (by decide) _
 have h5 : 2 ^ (bl (M / 10 ^ k) - 1) * 2 ^ k ≤ M / 10 ^ k * 10 ^ k := Nat.mul_le_mul h1 h4; rw [← Nat.pow_add] at h5; have h6 := (Nat.pow_lt_pow_iff_right (by decide : 1 < 2)).1 (Nat.lt_of_le_of_lt h5 (Nat.lt_of_le_of_lt h3 h2))
 have h7 : 0 < bl (M / 10 ^ k) := by
  rcases Nat.eq_zero_or_pos (bl (M / 10 ^ k)) with h8 | h8
  · have h9 := bl_lt (M / 10 ^ k); rw [h8, Nat.pow_zero] at h9; exact absurd (Nat.lt_one_iff.1 h9) h
  · exact h8
 omega
theorem half_pow {M k : Nat} (h40 : 40 < (words M).length) (hk : k = (words M).length / 2 * 8) : 10 ^ k ≤ M := by
 have h0 : M ≠ 0 := fun e => by rw [e, words_0] at h40; simp at h40
 have h1 := words_top h0; have h2 : 10 ^ k ≤ 16 ^ k := Nat.pow_le_pow_left (by decide) _
 rw [show (16 : Nat) = 2 ^ 4 from rfl, ← Nat.pow_mul] at h2
 rw [show (4294967296 : Nat) = 2 ^ 32 from rfl, ← Nat.pow_mul] at h1
 refine Nat.le_trans h2 (Nat.le_trans (Nat.pow_le_pow_right (by decide) ?_) h1)
 omega
theorem bl10 : bl 10 = 4 := by
 have := bl_of (x := 10) (k := 3) (by decide) (by decide)
 exact this
theorem Ob.low {w : World} {B B' : Nat} {v : Value} {L : List UInt8} (h : Ob w B v L) (hB : B' ≤ B) : Ob w B' v L := by
 rcases h.2 with h0 | ⟨q, cap, cur, he, hq, hb, h1⟩
 · exact ⟨h.1, .inl h0⟩
 · exact ⟨h.1, .inr ⟨q, cap, cur, he, by omega, hb, h1⟩⟩
theorem u8_news {w : World} {g : Nat} {L : List UInt8} (h : ∀ (i : Nat) (c : UInt8), L[i]? = some c → w.cell? ⟨g, i, none⟩ = some (.int .u8 c.toNat)) (j : Nat) (u : Value) (hu : (u8s L)[j]? = some u) : w.cell? ((⟨g, 0, none⟩ : Addr).add j) = some u := by
 have hadd : (⟨g, 0, none⟩ : Addr).add j = ⟨g, j, none⟩ := by unfold Addr.add; split <;> simp_all
 rw [hadd]; rw [u8s_get] at hu; cases hc : L[j]? with
 | none => rw [hc] at hu; cases hu
 | some c => rw [hc] at hu; rw [h j c hc]; exact hu
theorem btell_long (M : Nat) (h40 : 40 < (words M).length) (hl : (words M).length ≤ 67108864) (k : Nat) (hk : k = (words M).length / 2 * 8) (I1 : TellC (M / 10 ^ k)) (I2 : TellC (M % 10 ^ k)) : TellC M := by
 intro least va w hl1 hl2 hor ha; have hp := half_pow h40 hk; obtain ⟨hi, hhi⟩ : ∃ hi, hi = M / 10 ^ k := ⟨_, rfl⟩; obtain ⟨lo, hlo⟩ : ∃ lo, lo = M % 10 ^ k := ⟨_, rfl⟩
 have hi0 : M / 10 ^ k ≠ 0 := by
  have := Nat.div_pos hp (pow10_pos k); omega
 have hlt : M % 10 ^ k < 10 ^ k := Nat.mod_lt _ (pow10_pos k); have sp := padf_split least.toNat k M hi0; have bd := bl_div hi0; have pl := padf_len k _ hlt
 have blo : bl (M % 10 ^ k) ≤ 549755813888 := by
  have h1 := bl_lenW (M % 10 ^ k); have h2 := len_mono (Nat.mod_le M (10 ^ k)); omega
 have lp := pow10_len k; have DV := hid (fun v w' (h : Below w.heap.size w w') (h1 : Wd w' v (words (10 ^ k))) => bdiv va v M (10 ^ k) w' (ha.below h) h1 (by omega) (by omega) (by have := pow10_pos k; omega))
 have ph : (padf (least - (k : Int)).toNat (M / 10 ^ k)).length ≤ 1099511627776 := by
  unfold padf; have h1 := figs_words (M / 10 ^ k); have h2 := len_mono (Nat.div_le_self M (10 ^ k)); rw [List.length_append, List.length_replicate]; omega
 rw [← hhi] at I1 sp bd DV hi0 ph; rw [← hlo] at I2 sp pl blo DV; have I1' := hid (fun va' w' (h : Below w.heap.size w w') (q : Wd w' va' (words hi)) => I1 (least - (k : Int)) va' w' (by omega) (by omega) (.inl hi0) q)
 have I2' := hid (fun va' w' (h : Below w.heap.size w w') (q : Wd w' va' (words lo)) => I2 (k : Int) va' w' (by omega) (by omega) (.inr (by omega)) q)
 rw [Int.toNat_natCast] at I2'; obtain ⟨Lh, hLh⟩ : ∃ Lh, Lh = (least - (k : Int)).toNat := ⟨_, rfl⟩; rw [← hLh] at I1' ph; clear I1 I2; have I1 := I1'; have I2 := I2'; clear I1' I2'; have hp4 : 0 < (padf k lo).length := by omega
 have pl2 : (padf k lo).length ≤ 1099511627776 := by omega
 have hkB : k ≤ 1073741824 := by omega
 have LN0 := len32 10 (by decide)
 unfold Len32 at LN0; rw [bl10] at LN0; have LN : ∀ w, Calls Tryz.prog 214 #[.int .u32 10] w fun e w' => e = .returned (.int .i64 4) ∧ w = w' := LN0
 clear LN0
 have SP : Hid (padf least.toNat M = padf Lh hi ++ padf k lo) := hid (by
  rw [sp, hLh, show (least - (k : Int)).toNat = least.toNat - k by omega])
 clear hLh; obtain ⟨aa, ca, rfl, -, -⟩ := ha.form; obtain ⟨h2, hh2⟩ : ∃ h2, h2 = (words M).length / 2 := ⟨_, rfl⟩; have e1 : ((words M).length : Int) / 2 = (h2 : Int) := by omega
 have e2 : (h2 : Int) * 32 / 4 = (k : Int) := by omega
 have h40I : (40 : Int) < ((words M).length : Int) := by omega
 obtain ⟨ti, hti, htz, hts, htb⟩ := info_parts info5; have hlk : -1099511627776 ≤ least - (k : Int) := by omega
 have hlk2 : -1099511627776 ≤ least := by omega
 clear hhi hlo hi0 hlt sp bd pl blo lp hk hh2 hp ha hor hl1; go_enter Tryz.func227, Tryz.ntmps227; go_wp2_with (first | (go_at_call 214; (with_reducible refine (LN _).mono ?_); rintro e w' ⟨rfl, hw⟩; obtain rfl := hw) | (go_at_call 242; (with_reducible refine (bpower k hkB _).mono ?_); rintro e w1 ⟨v1, rfl, h1, hb1⟩) | (go_at_call 177; (with_reducible refine (DV.out _ _ hb1 h1).mono ?_); rintro e w2 ⟨vq, vr, rfl, hq2, hr2, -, -, hw2⟩; have hb2 := Below.trans hb1 (below_low hw2 hb1.size)) | (go_at_call 227; (with_reducible refine (I1.out _ _ hb2 hq2).mono ?_); rintro e w3 ⟨v3, rfl, ho3, hw3⟩; have hb3 := Below.trans hb2 (below_low hw3 hb2.size); have hr3 := hr2.below hw3) | (go_at_call 227; (with_reducible refine (I2.out _ _ hb3 hr3).mono ?_); rintro e w4 ⟨v4, rfl, ho4, hw4⟩; have hb4 := Below.trans hb3 (below_low hw4 hb3.size); obtain ⟨g4, c4, rfl, hg4, hc4, hl4, hcell4⟩ := ho4.form hp4; have O3 := hid ((ho3.low hb2.size).below hw4); have N4 : Hid (∀ (j : Nat) (u : Value), (u8s (padf k lo))[j]? = some u → w4.cell? ((⟨g4, 0, none⟩ : Addr).add j) = some u) := hid (u8_news hcell4)) | (at_builtin; refine wpList_append_lies _ (by rfl) _ _ _ (by rfl) w.heap.size 5 ti _ 1 1 Tryz.underlying232 hti htz hts htb rfl (by omega) v3 (padf Lh hi).length (u8s (padf Lh hi)) (by rfl) O3.out ⟨g4, 0, none⟩ (padf k lo).length c4 (u8s (padf k lo)) (by rfl) (by rw [u8s_len, Nat.mul_one]) N4.out (by intro u hu; unfold u8s at hu; obtain ⟨c, -, rfl⟩ := List.mem_map.1 hu; rfl) hp4 (by unfold maxLen; omega) (by omega) hb4.size _ rfl ?_; intro g5 c5 w5 hown hgrow hat hlt))
 go_ret
 refine ⟨.slice (some ⟨g5, 0, none⟩) ((padf Lh hi).length + (padf k lo).length) c5, rfl, ?_, Below.trans hb4 (own_grow O3.out hb4.size hgrow)⟩
 rw [SP.out]; unfold Ob; rw [List.length_append]; unfold u8s at hown ⊢; rw [List.map_append]; exact hown
theorem btell (M : Nat) (hl : (words M).length ≤ 67108864) : TellC M := by
 induction M using Nat.strongRecOn with
 | _ M ih =>
   by_cases h : (words M).length ≤ 40
   · intro least va w hl1 hl2 hor ha; exact btell_short M least (by omega) hl2 hor h va w ha
   · have h40 : 40 < (words M).length := by omega
     have hp := half_pow h40 rfl; have h1 : 1 < 10 ^ ((words M).length / 2 * 8) := Nat.one_lt_pow (by omega) (by decide)
     have hM : 0 < M := by omega
     refine btell_long M h40 (by omega) _ rfl (ih _ (Nat.div_lt_self hM h1) ?_) (ih _ (Nat.lt_of_lt_of_le (Nat.mod_lt _ (by omega)) hp) ?_)
     · exact Nat.le_trans (len_mono (Nat.div_le_self _ _)) hl
     · exact Nat.le_trans (len_mono (Nat.mod_le _ _)) hl
def itext (n : Int) : List UInt8 := if n < 0 then 45 :: padf 1 n.natAbs else padf 1 n.natAbs
theorem padf1 {n : Nat} (h : n ≠ 0) : padf 1 n = figs n := by
 have h1 : (figs n).length ≠ 0 := fun e => h (by have := figs_len (n := n) (k := 0); omega)
 unfold padf; rw [show 1 - (figs n).length = 0 by omega]
 rfl
theorem bytes_strO (w : World) (B n : Nat) (a : Option Addr) (cap : Nat) (L : List UInt8) (h : Ob w B (.slice a n cap) L) (h0 : 0 < L.length) :
 (convert 232 9 (.slice a n cap)).run Tryz.prog w = .ok (.string ⟨L.toArray⟩) w := by
 obtain ⟨g, c, he, -, -, -, hce⟩ := h.form h0; simp only [Value.slice.injEq] at he; obtain ⟨rfl, rfl, rfl⟩ := he; rw [run_convert_bytes_string w 232 9 5 _ L.length cap Tryz.underlying232 Tryz.underlying5 Tryz.underlying9]
 have hl := run_loadCells_list (P := Tryz.prog) (w := w) ⟨g, 0, none⟩ ((L.map fun c : UInt8 => (c.toNat : Int)).map (Value.int .u8)) (fun j v hv => by
  rw [List.map_map] at hv; exact u8_news hce j v hv)
 rw [List.length_map, List.length_map] at hl; rw [run_bytesToString w ⟨g, 0, none⟩ L.length cap (L.map fun c : UInt8 => (c.toNat : Int)) hl, push_bytes]
 simp
theorem str45a (L : List UInt8) : (({ data := #[45] } : ByteArray) ++ ⟨L.toArray⟩) = (⟨(45 :: L).toArray⟩ : ByteArray) := by
 apply ByteArray.ext
 simp
theorem str45 (L : List UInt8) : Ending.returned (.string (({ data := #[45] } : ByteArray) ++ ⟨L.toArray⟩)) = Ending.returned (.string ⟨(45 :: L).toArray⟩) := by rw [str45a]
theorem btext (gx : Nat) (N : Int) (w : World) (hx : Ia w gx N) (hl : (words N.natAbs).length ≤ 67108864) :
 Calls Tryz.prog 187 #[.pointer (some ⟨gx, 0, none⟩), .int .i64 10] w fun e w' => e = .returned (.string ⟨(itext N).toArray⟩) ∧ Below w.heap.size w w' := by
 obtain ⟨vx, R, T, bx, wx⟩ := hx; obtain ⟨ax, cx, rfl, -, -⟩ := wx.form; have hbl := bl_lenW N.natAbs; have TL := hid (fun w' (h : Below w.heap.size w w') => btell N.natAbs hl 1 _ w' (by omega) (by omega) (.inr (by decide)) (wx.below h))
 have PL : 0 < (padf (1 : Int).toNat N.natAbs).length := by
  show 0 < (padf 1 N.natAbs).length
  by_cases h : N.natAbs = 0
  · rw [h]; unfold padf; rw [figs_0]; simp
  · rw [padf1 h]; have := figs_len (n := N.natAbs) (k := 0); omega
 have PB : (padf (1 : Int).toNat N.natAbs).length ≤ 1099511627776 := by
  show (padf 1 N.natAbs).length ≤ _
  unfold padf; have := figs_words N.natAbs; rw [List.length_append, List.length_replicate]; omega
 have hadd := fun w => run_string_add_sum (P := Tryz.prog) (w := w) (⟨#[45]⟩ : ByteArray) ⟨(padf (1 : Int).toNat N.natAbs).toArray⟩ (by
  show 1 + (padf (1 : Int).toNat N.natAbs).toArray.size ≤ _
  rw [List.size_toArray]; omega)
 have BX := hid bx; have x0 := bx.cell (i := 0) rfl; have x1 := bx.cell (i := 1) rfl; haveI : Has w gx := ⟨bx.lt⟩; obtain ⟨R1, hR1⟩ : ∃ R1, R1 = itext N := ⟨_, rfl⟩; rw [← hR1]; by_cases hneg : N < 0
 · have RV : Hid (R1 = 45 :: padf (1 : Int).toNat N.natAbs) := hid (by rw [hR1, itext, if_pos hneg]; rfl)
   rw [decide_eq_true hneg] at x0 BX; generalize padf (1 : Int).toNat N.natAbs = L1 at *; clear hR1 hneg bx wx hbl; go_enter Tryz.func187, Tryz.ntmps187; go_wp2_with (go_at_call 227; (with_reducible refine (TL.out _ (Below.refl _ _)).mono ?_); rintro e w1 ⟨v1, rfl, ho1, hb1⟩; obtain ⟨a1, c1, rfl, -⟩ := ho1.formA; have hcv := bytes_strO w1 _ _ a1 c1 _ ho1 PL; have xs0 := (BX.out.below hb1).cell (i := 0) rfl; haveI : Has w1 gx := ⟨(BX.out.below hb1).lt⟩)
   go_ret
   exact ⟨by rw [RV.out]; exact str45 _, hb1⟩
 · have RV : Hid (R1 = padf (1 : Int).toNat N.natAbs) := hid (by rw [hR1, itext, if_neg hneg]; rfl)
   rw [decide_eq_false hneg] at x0 BX; generalize padf (1 : Int).toNat N.natAbs = L1 at *; clear hR1 hneg bx wx hbl; go_enter Tryz.func187, Tryz.ntmps187; go_wp2_with (go_at_call 227; (with_reducible refine (TL.out _ (Below.refl _ _)).mono ?_); rintro e w1 ⟨v1, rfl, ho1, hb1⟩; obtain ⟨a1, c1, rfl, -⟩ := ho1.formA; have hcv := bytes_strO w1 _ _ a1 c1 _ ho1 PL; have xs0 := (BX.out.below hb1).cell (i := 0) rfl; haveI : Has w1 gx := ⟨(BX.out.below hb1).lt⟩)
   go_ret
   exact ⟨by rw [RV.out]; rfl, hb1⟩
theorem bstring (gx : Nat) (N : Int) (w : World) (hx : Ia w gx N) (hl : (words N.natAbs).length ≤ 67108864) :
 Calls Tryz.prog 136 #[.pointer (some ⟨gx, 0, none⟩)] w fun e w' => e = .returned (.string ⟨(itext N).toArray⟩) ∧ Below w.heap.size w w' := by
 have TX := hid (btext gx N w hx hl); generalize itext N = R1 at *; clear hx hl; go_enter Tryz.func136, Tryz.ntmps136; go_wp2_with (go_at_call 187; (with_reducible refine TX.out.mono ?_); rintro e w1 ⟨rfl, hb1⟩)
 go_ret
 exact ⟨rfl, hb1⟩
def minusB (s : ByteArray) : Bool := decide (s.data.toList.head? = some 45)
def afterS (s : ByteArray) : ByteArray := if minusB s then s.extract 1 s.size else s
theorem extract_one (s : ByteArray) (c : UInt8) (L : List UInt8) (h : s.data.toList = c :: L) : s.extract 0 1 = ⟨#[c]⟩ := by
 apply ByteArray.ext
 rw [← Array.toList_inj, Lib.extract_data, h]; rfl
theorem after_list (s : ByteArray) : (afterS s).data.toList = if minusB s then s.data.toList.drop 1 else s.data.toList := by
 unfold afterS
 split
 · rw [Lib.extract_to_end]
 · rfl
theorem size_pos_of {s : ByteArray} {c : UInt8} {L : List UInt8} (h : s.data.toList = c :: L) : 0 < s.size := by rw [bytes_len s _ h]; simp
theorem bhas (s : ByteArray) (hs : s.size ≤ maxLen) (w : World) : Calls Tryz.prog 228 #[.string s, .string ⟨#[45]⟩] w fun e w' => e = .returned (.bool (minusB s)) ∧ w' = w := by
 unfold maxLen at hs; cases hL : s.data.toList with
 | nil =>
   have hz : s.size = 0 := by rw [bytes_len s _ hL]; rfl
   have hr : minusB s = false := by unfold minusB; rw [hL]; rfl
   rw [hr]; clear hr hL; go_enter Tryz.func228, Tryz.ntmps228; go_wp2_with fail
   go_ret
   exact ⟨rfl, rfl⟩
 | cons c L =>
   have hz := size_pos_of hL; have hx := extract_one s c L hL; have hr : minusB s = decide (c = 45) := by unfold minusB; rw [hL]; simp
   have hI : (1 : Int) ≤ (s.size : Int) := by omega
   rw [hr]; by_cases hc : c = 45
   · subst hc; have hq : ((s.extract 0 1).toList == [45]) = true := by rw [hx, ByteArray.toList_eq]; rfl
     clear hr hL hx; go_enter Tryz.func228, Tryz.ntmps228; go_wp2_with fail
     go_ret
     exact ⟨rfl, rfl⟩
   · have hq : ((s.extract 0 1).toList == [45]) = false := by
      rw [hx, ByteArray.toList_eq]; exact beq_eq_false_iff_ne.2 (fun e => hc (by simpa using e))
     rw [decide_eq_false hc]; clear hr hL hx hc; go_enter Tryz.func228, Tryz.ntmps228; go_wp2_with fail
     go_ret
     exact ⟨rfl, rfl⟩
def digB (L : List UInt8) : Bool := L.all (fun c => decide (48 ≤ c.toNat) && decide (c.toNat ≤ 57)) && (decide (L ≠ []) && (decide (L.head? ≠ some 48) || decide (L = [48])))
theorem digB_bad {L : List UInt8} {i : Nat} (hi : i < L.length) (h : ¬ (48 ≤ L[i].toNat ∧ L[i].toNat ≤ 57)) : digB L = false := by
 have : L.all (fun c => decide (48 ≤ c.toNat) && decide (c.toNat ≤ 57)) = false := by
  rw [List.all_eq_false]; exact ⟨L[i], List.getElem_mem hi, by simpa using h⟩
 unfold digB; rw [this]; rfl
theorem digB_good {L : List UInt8} (h : ∀ i (hi : i < L.length), 48 ≤ L[i].toNat ∧ L[i].toNat ≤ 57) : digB L = (decide (L ≠ []) && (decide (L.head? ≠ some 48) || decide (L = [48]))) := by
 have : L.all (fun c => decide (48 ≤ c.toNat) && decide (c.toNat ≤ 57)) = true := by
  rw [List.all_eq_true]; intro c hc; obtain ⟨i, hi, rfl⟩ := List.getElem_of_mem hc; have := h i hi; simp [this]
 unfold digB; rw [this, Bool.true_and]
theorem digB_isdig {L : List UInt8} (h : digB L = true) : isdig L ∧ L ≠ [] ∧ (L.head? ≠ some 48 ∨ L = [48]) := by
 unfold digB at h; rw [Bool.and_eq_true, Bool.and_eq_true, List.all_eq_true] at h; obtain ⟨h1, h2, h3⟩ := h; refine ⟨fun c hc => by have := h1 c hc; simpa using this, of_decide_eq_true h2, ?_⟩
 rw [Bool.or_eq_true] at h3; exact h3.imp of_decide_eq_true of_decide_eq_true
theorem byte0 (s : ByteArray) (L : List UInt8) (h : s.data.toList = L) (k : Nat) (hk : k < L.length) (hj : k < s.size) : s[k] = L[k] := by
 have := byte_at s [] L h k hk (by show 0 + k < _; omega)
 simpa using this
theorem btrim1 (s : ByteArray) (hs : s.size ≤ maxLen) (w : World) : Calls Tryz.prog 189 #[.string s, .string ⟨#[45]⟩] w fun e w' => e = .returned (.string (afterS s)) ∧ w' = w := by
 have hs2 := hs; unfold maxLen at hs2; by_cases hm : minusB s = true
 · have hz : 1 ≤ s.size := by
    unfold minusB at hm; have := of_decide_eq_true hm; cases hL : s.data.toList with
    | nil => rw [hL] at this; cases this
    | cons c L => exact size_pos_of hL
   have ha : afterS s = s.extract 1 s.size := by unfold afterS; rw [if_pos hm]
   have hzI : (1 : Int) ≤ (s.size : Int) := by omega
   rw [ha]
   try rw [hm]
   have HM := hid hm; clear ha hm; go_enter Tryz.func189, Tryz.ntmps189; go_wp2_with (go_at_call 228; (with_reducible refine (bhas s hs _).mono ?_); rintro e w' ⟨rfl, hw⟩; obtain rfl := hw.symm; rw [HM.out])
   go_ret
   exact ⟨rfl, rfl⟩
 · have hm : minusB s = false := by simpa using hm
   have ha : afterS s = s := by unfold afterS; rw [hm]; rfl
   rw [ha]
   try rw [hm]
   have HM := hid hm; clear ha hm; go_enter Tryz.func189, Tryz.ntmps189; go_wp2_with (go_at_call 228; (with_reducible refine (bhas s hs _).mono ?_); rintro e w' ⟨rfl, hw⟩; obtain rfl := hw.symm; rw [HM.out])
   go_ret
   exact ⟨rfl, rfl⟩
theorem bcut1 (s : ByteArray) (hs : s.size ≤ maxLen) (w : World) : Calls Tryz.prog 229 #[.string s, .string ⟨#[45]⟩] w fun e w' => e = .returned (.tuple #[.string (afterS s), .bool (minusB s)]) ∧ w' = w := by
 have hs2 := hs; unfold maxLen at hs2; by_cases hm : minusB s = true
 · have hz : 1 ≤ s.size := by
    unfold minusB at hm; have := of_decide_eq_true hm; cases hL : s.data.toList with
    | nil => rw [hL] at this; cases this
    | cons c L => exact size_pos_of hL
   have ha : afterS s = s.extract 1 s.size := by unfold afterS; rw [if_pos hm]
   have hzI : (1 : Int) ≤ (s.size : Int) := by omega
   rw [ha]
   try rw [hm]
   have HM := hid hm; clear ha hm; go_enter Tryz.func229, Tryz.ntmps229; go_wp2_with (go_at_call 228; (with_reducible refine (bhas s hs _).mono ?_); rintro e w' ⟨rfl, hw⟩; obtain rfl := hw.symm; rw [HM.out])
   go_ret2
   exact ⟨rfl, rfl⟩
 · have hm : minusB s = false := by simpa using hm
   have ha : afterS s = s := by unfold afterS; rw [hm]; rfl
   rw [ha]
   try rw [hm]
   have HM := hid hm; clear ha hm; go_enter Tryz.func229, Tryz.ntmps229; go_wp2_with (go_at_call 228; (with_reducible refine (bhas s hs _).mono ?_); rintro e w' ⟨rfl, hw⟩; obtain rfl := hw.symm; rw [HM.out])
   go_ret2
   exact ⟨rfl, rfl⟩
theorem btrim2 (s : ByteArray) (hs : s.size ≤ maxLen) (w : World) : Calls Tryz.prog 138 #[.string s, .string ⟨#[45]⟩] w fun e w' => e = .returned (.string (afterS s)) ∧ w' = w := by
 have A := hid (btrim1 s hs w); generalize afterS s = t at *; go_enter Tryz.func138, Tryz.ntmps138; go_wp2_with (go_at_call 189; (with_reducible refine A.out.mono ?_); rintro e w' ⟨rfl, hw⟩; obtain rfl := hw.symm)
 go_ret
 exact ⟨rfl, rfl⟩
theorem bcut2 (s : ByteArray) (hs : s.size ≤ maxLen) (w : World) : Calls Tryz.prog 190 #[.string s, .string ⟨#[45]⟩] w fun e w' => e = .returned (.tuple #[.string (afterS s), .bool (minusB s)]) ∧ w' = w := by
 have A := hid (bcut1 s hs w); generalize afterS s = t at *; generalize minusB s = m at *; go_enter Tryz.func190, Tryz.ntmps190; go_wp2_with (go_at_call 229; (with_reducible refine A.out.mono ?_); rintro e w' ⟨rfl, hw⟩; obtain rfl := hw.symm)
 go_ret2
 exact ⟨rfl, rfl⟩
theorem blong (s : ByteArray) (hs : s.size ≤ maxLen) (w : World) : Calls Tryz.prog 90 #[.string s] w fun e w' => e = .returned (.int .i64 (afterS s).size) ∧ w' = w := by
 have A := hid (btrim2 s hs w); generalize afterS s = t at *; go_enter Tryz.func90, Tryz.ntmps90; go_wp2_with (go_at_call 138; (with_reducible refine A.out.mono ?_); rintro e w' ⟨rfl, hw⟩; obtain rfl := hw.symm)
 go_ret
 exact ⟨rfl, rfl⟩
theorem bdigits (s : ByteArray) (hs : s.size ≤ maxLen) (w : World) : Calls Tryz.prog 191 #[.string s] w fun e w' => e = .returned (.bool (digB s.data.toList)) ∧ w' = w := by
 unfold maxLen at hs; obtain ⟨L, hL⟩ : ∃ L, L = s.data.toList := ⟨_, rfl⟩; rw [← hL]; have HS := hid hL.symm; have HSZ := hid (bytes_len s L hL.symm); obtain ⟨R, hR⟩ : ∃ R, R = digB L := ⟨_, rfl⟩; rw [← hR]; have HR := hid hR; clear hL hR; rcases hc : L with _ | ⟨c, T⟩
 · have he : s.size = 0 := by rw [HSZ.out, hc]; rfl
   have he2 : s.toList.isEmpty = true := by rw [ByteArray.toList_eq, HS.out, hc]; rfl
   have he3 : s.toList = [] := by rw [ByteArray.toList_eq, HS.out, hc]
   have hr : R = false := by rw [HR.out, hc]; rfl
   subst hr; clear HR HS HSZ hc; go_enter Tryz.func191, Tryz.ntmps191; go_wp2_with fail
   go_loop [6] (fun si => si = .int .i64 0) (fun _ => 0)
   case atStart => exact rfl
   case round =>
    obtain rfl := hrel; go_wp2_with fail
    go_ret
    exact ⟨rfl, rfl⟩
 · have h0 : 0 < s.size := by rw [HSZ.out, hc]; simp
   obtain ⟨n0, hn0⟩ : ∃ n0, n0 = (s[0]'h0).toNat := ⟨_, rfl⟩; have hn0c : n0 = c.toNat := by rw [hn0, byte0 s L HS.out 0 (by rw [hc]; simp) h0]; simp only [hc]; rfl
   have hcn0 := hn0.symm; have he2 : s.toList.isEmpty = false := by rw [ByteArray.toList_eq, HS.out, hc]; rfl
   have he3 : (s.toList == [48]) = decide (L = [48]) := by rw [ByteArray.toList_eq, HS.out, Bool.eq_iff_iff, beq_iff_eq, decide_eq_true_iff]
   have HV : Hid (digB L = (decide (L ≠ []) && (decide (L.head? ≠ some 48) || decide (L = [48]))) → R = (!decide (n0 = 48) || decide (L = [48]))) := hid (fun h => by
    rw [HR.out, h, hc, hn0c]
    have : decide (c.toNat = 48) = decide (c = 48) := by
     rw [Bool.eq_iff_iff, decide_eq_true_iff, decide_eq_true_iff]
     constructor
     · intro h2; rw [← UInt8.toNat_inj]; exact h2
     · intro h2; rw [h2]; rfl
    rw [this, show decide (c :: T ≠ []) = true from by simp, Bool.true_and]
    congr 1
    by_cases h48 : c = 48 <;> simp [h48])
   have HC := hid hc; have hsz1 : (0 : Int) < (s.size : Int) := by omega
   clear hc hn0 hn0c; go_enter Tryz.func191, Tryz.ntmps191; go_wp2_with fail
   go_loop [6] (fun si => ∃ j : Nat, si = .int .i64 j ∧ j ≤ s.size ∧ Hid (∀ i (hi : i < L.length), i < j → 48 ≤ L[i].toNat ∧ L[i].toNat ≤ 57)) (fun si => s.size - (intOf si).toNat)
   case atStart => exact ⟨0, rfl, Nat.zero_le _, hid (fun i hi h => by omega)⟩
   case round =>
    obtain ⟨j, rfl, hj, hG⟩ := hrel; by_cases hlt : j < s.size
    · have hkl : j < L.length := by rw [← HSZ.out]; exact hlt
      obtain ⟨n, hn⟩ : ∃ n, n = (s[j]'hlt).toNat := ⟨_, rfl⟩; have hnl : n = L[j].toNat := by rw [hn, byte0 s L HS.out j hkl hlt]
      have hcn := hn.symm; have hltI : (j : Int) < (s.size : Int) := by omega
      have HB := hid (fun (h : ¬ (48 ≤ n ∧ n ≤ 57)) => HR.out.trans (digB_bad hkl (by rw [← hnl]; exact h)))
      have HG2 : Hid (48 ≤ n ∧ n ≤ 57 → ∀ i (hi : i < L.length), i < j + 1 → 48 ≤ L[i].toNat ∧ L[i].toNat ≤ 57) := hid (fun h i hi hij => by
       rcases Nat.lt_or_eq_of_le (Nat.le_of_lt_succ hij) with h2 | rfl
       · exact hG.out i hi h2
       · rw [← hnl]; exact h)
      clear hn hnl hG; by_cases h1 : n < 48
      · have hr := HB.out (by omega)
        subst hr; have h1I : (n : Int) < 48 := by omega
        go_wp2_with fail
        go_ret
        exact ⟨rfl, rfl⟩
      · have h1I : (48 : Int) ≤ (n : Int) := by omega
        have h1D : decide ((n : Int) < 48) = false := decide_eq_false (by omega)
        by_cases h2 : 57 < n
        · have hr := HB.out (by omega)
          subst hr; have h2I : (57 : Int) < (n : Int) := by omega
          go_wp2_with fail
          go_ret
          exact ⟨rfl, rfl⟩
        · have h2I : (n : Int) ≤ 57 := by omega
          have h2D : decide ((57 : Int) < (n : Int)) = false := decide_eq_false (by omega)
          have NX := hid (HG2.out (by omega))
          go_wp2_with fail
          go_round
          case rel => exact ⟨j + 1, by go_num, by omega, NX⟩
          case measure => simp [intOf]; omega
    · obtain rfl : j = s.size := by omega
      have hr := HR.out.trans (digB_good (fun i hi => hG.out i hi (by rw [HSZ.out]; exact hi)))
      have hr2 := HV.out (HR.out.symm.trans hr); by_cases hz : n0 = 48
      · have hzI : ((n0 : Int) == 48) = true := beq_iff_eq.2 (by omega)
        have hr3 : R = decide (L = [48]) := by rw [hr2, hz]; rfl
        have HR3 := hid hr3; clear hr hr2 hr3 hG; go_wp2_with fail
        all_goals first
         | (exfalso; omega)
         | (go_ret; exact ⟨by rw [HR3.out]; rfl, rfl⟩)
      · have hzI : ((n0 : Int) == 48) = false := beq_eq_false_iff_ne.2 (by omega)
        have hzI2 : ((n0 : Int) != 48) = true := bne_iff_ne.2 (by omega)
        have hzI3 : ¬ ((n0 : Int) = 48) := by omega
        have hr3 : R = true := by rw [hr2, decide_eq_false hz]; rfl
        clear hr hr2 hG; subst hr3; go_wp2_with fail
        all_goals first
         | (exfalso; omega)
         | (go_ret; exact ⟨rfl, rfl⟩)
def textE (s : ByteArray) (den : Bool) : Int := if 16384 < (afterS s).size then 4 else if (digB (afterS s).data.toList && !(minusB s && (den || decide ((afterS s).data.toList = [48]))) && !(den && decide ((afterS s).data.toList = [48]))) = true then 0 else 30
theorem after_le (s : ByteArray) : (afterS s).size ≤ s.size := by
 have h := after_list s; rw [bytes_len _ _ rfl, h, bytes_len s _ rfl]
 split
 · rw [List.length_drop]; omega
 · exact Nat.le_refl _
theorem beq48 (t : ByteArray) : (t.toList == [48]) = decide (t.data.toList = [48]) := by
 rw [ByteArray.toList_eq, Bool.eq_iff_iff, beq_iff_eq, decide_eq_true_iff]
theorem btext139 (s : ByteArray) (den : Bool) (hs : s.size ≤ maxLen) (w : World) : Calls Tryz.prog 139 #[.string s, .bool den] w fun e w' => e = .returned (.int .i64 (textE s den)) ∧ w' = w := by
 have A := hid (bcut2 s hs w); have B := hid (bdigits (afterS s) (Nat.le_trans (after_le s) hs) w); have hsz := Nat.le_trans (after_le s) hs; unfold maxLen at hsz; unfold textE; have hZ := beq48 (afterS s); obtain ⟨Z, hZ2⟩ : ∃ Z, Z = decide ((afterS s).data.toList = [48]) := ⟨_, rfl⟩; rw [← hZ2] at hZ ⊢; clear hZ2; generalize digB (afterS s).data.toList = D at *; generalize afterS s = t at *; generalize minusB s = m at *; by_cases hb : 16384 < t.size
 · rw [if_pos hb]; have hbI : (16384 : Int) < (t.size : Int) := by omega
   clear hb hZ; go_enter Tryz.func139, Tryz.ntmps139; go_wp2_with first | (go_at_call 190; (with_reducible refine A.out.mono ?_); rintro e w' ⟨rfl, hw⟩; obtain rfl := hw.symm) | (go_at_call 191; (with_reducible refine B.out.mono ?_); rintro e w' ⟨rfl, hw⟩; obtain rfl := hw.symm)
   go_ret
   exact ⟨rfl, rfl⟩
 · rw [if_neg hb]; have hbI : (t.size : Int) ≤ 16384 := by omega
   have hbD : decide ((16384 : Int) < (t.size : Int)) = false := decide_eq_false (by omega)
   clear hb; cases D <;> cases m <;> cases den <;> cases Z <;>
   · go_enter Tryz.func139, Tryz.ntmps139; go_wp2_with first | (go_at_call 190; (with_reducible refine A.out.mono ?_); rintro e w' ⟨rfl, hw⟩; obtain rfl := hw.symm) | (go_at_call 191; (with_reducible refine B.out.mono ?_); rintro e w' ⟨rfl, hw⟩; obtain rfl := hw.symm)
     go_ret
     exact ⟨rfl, rfl⟩
end Go.Proofs.YthjeejnggpjnjaaGreatDoor
