/- A part: M. -/
import Derived.Test.YthjeejnggpjnjaaGreatDoorZY01
set_option linter.unusedSimpArgs false
set_option linter.unusedVariables false
set_option maxRecDepth 100000
set_option maxHeartbeats 16000000
set_option synthInstance.maxHeartbeats 2000000
set_option synthInstance.maxSize 100000
namespace Go.Proofs.YthjeejnggpjnjaaGreatDoor
open Go.RowKit
theorem split_last {l : List Nat} {j : Nat} (h : l.length = j + 1) : ∃ a z, l = a ++ [z] ∧ a.length = j := by
 have hne : l ≠ [] := fun e => by rw [e] at h; simp at h
 exact ⟨l.dropLast, l.getLast hne, (List.dropLast_concat_getLast hne).symm, by rw [List.length_dropLast]; omega⟩
theorem bdivCore (a : Option Addr) (ca gb ob cb la lb lq s V M QQ RR n1 n2 x y y0 : Nat) (cc : Int) (lM : List Nat) (w : World)
 (CM : Calls Tryz.prog 141 #[.slice a la ca, .slice (some ⟨gb, ob, none⟩) lb cb] w fun e w' => e = .returned (.int .i64 cc) ∧ Drawn w w') (hc2 : decide (cc < 0) = false)
 (LD : ∀ w, Calls Tryz.prog 216 #[.int .u32 x] w fun e w' => e = .returned (.int .i64 s) ∧ w' = w)
 (UP1 : Hid (∀ w2, Below w.heap.size w w2 → Calls Tryz.prog 157 #[.slice (some ⟨gb, ob, none⟩) lb cb, .int .i64 s] w2 fun e w' => ∃ gv ov cv, e = .returned (.slice (some ⟨gv, ov, none⟩) lb cv) ∧ Wd w' (.slice (some ⟨gv, ov, none⟩) lb cv) (words V) ∧ w2.heap.size ≤ gv ∧ gv < w'.heap.size ∧ Below w2.heap.size w2 w'))
 (UP2 : Hid (∀ w2, Below w.heap.size w w2 → Calls Tryz.prog 157 #[.slice a la ca, .int .i64 s] w2 fun e w' => ∃ v, e = .returned v ∧ Wd w' v lM ∧ Fresh w2.heap.size v ∧ Below w2.heap.size w2 w'))
 (hgb : gb < w.heap.size) (c1 : w.cell? ⟨gb, ob + n1, none⟩ = some (.int .u32 x)) (hs32 : s < 32)
 (DF : Hid (∀ mid q : List Nat, val mid + V * val q = M → val mid < V → val q = QQ ∧ val mid = RR * 2 ^ s)) (MS : Hid (RR * 2 ^ s / 2 ^ s = RR)) (hRV : Hid ((words (RR * 2 ^ s)).length ≤ 274877906944))
 (START : Hid (∀ l, Wok l → l.length = la + 1 → val l = M → val (l.drop lq) < V)) (VL : Hid ((words V).length = lb)) (HLM : Hid (lM.length ≤ la + 1)) (OKM : Hid (Wok lM)) (VM : Hid (val lM = M))
 (HY : Hid ((words V)[n1]? = some y)) (HY0 : Hid ((words V)[n2]? = some y0)) (hyt : 2147483648 ≤ y) (HN1 : Hid (n1 + 1 = lb)) (HN2 : Hid (n2 + 2 = lb)) (HLQ : Hid (lq + lb = la + 1)) (hlqp : 0 < lq) (hlab : la ≤ 137438953472) :
 Calls Tryz.prog 177 #[.slice a la ca, .slice (some ⟨gb, ob, none⟩) lb cb] w fun e w' => ∃ q r, e = .returned (.tuple #[q, r]) ∧ Wd w' q (words QQ) ∧ Wd w' r (words RR) ∧ Fresh w.heap.size q ∧ Fresh w.heap.size r ∧ Below w.heap.size w w' := by
 haveI : Has w gb := ⟨hgb⟩; have hn1 := HN1.out; have hn2 := HN2.out; have hlq := HLQ.out; have i1 : (lb : Int) - 1 = (n1 : Int) := by omega
 have i2 : (0 : Int) ≤ (n1 : Int) := by omega
 have i3 : (n1 : Int) < (lb : Int) := by omega
 have i4 : ((lb : Int) == 1) = false := beq_eq_false_iff_ne.2 (by omega)
 have i5 : (la : Int) - (lb : Int) + 1 = (lq : Int) := by omega
 have i6 : (la : Int) - (lb : Int) = (lq : Int) - 1 := by omega
 have hlqB : lq ≤ 137438953473 := by omega
 have hlbB : lb ≤ 137438953473 := by omega
 clear hn1 hn2 hlq; go_enter Tryz.func177, Tryz.ntmps177; go_upto_region 8 with (first | (go_at_call 141; refine CM.mono ?_; rintro e w' ⟨rfl, hdr⟩; obtain ⟨kd, rfl⟩ := hdr) | (go_at_call 216; refine (LD _).mono ?_; rintro e w' ⟨rfl, hw⟩; obtain rfl := hw.symm) | (go_at_call 157; refine (UP1.out _ ?_).mono ?_; exact ((Keeps.refl _ [] _).drewN _).below; rintro e w1 ⟨gv, ov, cv, rfl, hWV, hgvB, hgv, hb1⟩))
 have B1 := Below.trans ((Keeps.refl w.heap.size [] w).drewN kd).below hb1; have hgvB2 : w.heap.size ≤ gv := hgvB; have WV := hid hWV; have BB1 := hid B1; clear hgvB hb1 hWV B1 hc2 i1 i2 i3 i4 c1 CM LD UP1; go_upto_region 9 with (at_make; refine make_words _ rfl _ _ rfl _ (la + 1) rfl rfl (by first | rfl | omega | simp) (by omega) ?_; intro w2 hro2 hb2 hlt2)
 have B2 := Below.trans BB1.out (below_low hb2 (BB1.out.size)); go_upto_region 10 with (first | (go_at_call 157; refine (UP2.out _ ?_).mono ?_; exact B2; rintro e w3 ⟨v3, rfl, hW3, hf3, hb3⟩) | (refine copy_words _ (by rfl) _ _ (by rfl) w1.heap.size (la + 1) (by rfl) (List.replicate (la + 1) 0) (hro2.out.keep hb3) (by simp) v3 (by rfl) lM hW3 HLM.out ?_; intro w4 hro4 hb4))
 go_wp2_with (at_make; refine make_words _ rfl _ _ rfl _ lq rfl rfl (by first | rfl | omega | simp) (by omega) ?_; intro w5 hro5 hb5 hlt5)
 have s12 := hb2.size; have s23 := hb3.size; have s34 := hb4.size; have b14 : Below w1.heap.size w1 w4 := Below.trans (Below.trans hb2 (below_low hb3 s12)) hb4; have b15 : Below w1.heap.size w1 w5 := Below.trans b14 (below_low hb5 b14.size); have B5 : Hid (Below w.heap.size w w5) := hid (Below.trans BB1.out (below_low b15 BB1.out.size)); have WV5 : Hid (Wd w5 (.slice (some ⟨gv, ov, none⟩) lb cv) (words V)) := hid (WV.out.below b15); have RU5 := hro4.out.keep hb5; have hgq : w1.heap.size < w4.heap.size := by omega
 obtain ⟨L0, hL0⟩ : ∃ L0, L0 = lM ++ (List.replicate (la + 1) 0).drop lM.length := ⟨_, rfl⟩; rw [← hL0] at RU5; have hlL : L0.length = la + 1 := by rw [hL0]; have := HLM.out; simp; omega
 have okL : Wok L0 := by rw [hL0]; exact OKM.out.append ((Wok.rep _).drop _)
 have vL : val L0 = M := by rw [hL0, val_append, List.drop_replicate, val_rep, Nat.mul_zero, Nat.add_zero]; exact VM.out
 have hst := START.out L0 okL hlL vL; obtain ⟨lo0, hlo0⟩ : ∃ lo0, lo0 = L0.take lq := ⟨_, rfl⟩; obtain ⟨mid0, hmid0⟩ : ∃ mid0, mid0 = L0.drop lq := ⟨_, rfl⟩; have hLs : L0 = lo0 ++ mid0 := by rw [hlo0, hmid0, List.take_append_drop]
 have hlol : lo0.length = lq := by rw [hlo0, List.length_take]; have := HLQ.out; omega
 have hmidl : mid0.length = lb := by rw [hmid0, List.length_drop]; have := HLQ.out; omega
 rw [← hmid0] at hst
 have RU : Hid (Ro w5 w1.heap.size (lo0 ++ (mid0 ++ List.replicate (la + 1 - lb - lq) 0))) := hid (by
  rw [hLs] at RU5; rw [show la + 1 - lb - lq = 0 by have := HLQ.out; omega, List.replicate_zero, List.append_nil]
  exact RU5)
 have RQ : Hid (Ro w5 w4.heap.size (List.replicate lq 0 ++ [])) := hid (by rw [List.append_nil]; exact hro5.out)
 have EQ0 : Hid (val lo0 + 4294967296 ^ lq * val mid0 + V * (4294967296 ^ lq * val []) = M) := hid (by
  rw [← vL, hLs, val_append, hlol]; simp [val])
 have OKlo : Hid (Wok lo0) := hid (by rw [hlo0]; exact okL.take _)
 have OKmid : Hid (Wok mid0) := hid (by rw [hmid0]; exact okL.drop _)
 have LTm := hid hst; have LOL := hid hlol; have MIDL := hid hmidl; have hgvu : gv < w1.heap.size := hgv; have hwu : w.heap.size ≤ w1.heap.size := BB1.out.size; clear hL0 hlL okL vL hst hlo0 hmid0 hLs hlol hmidl RU5 hro2 hro4 hro5 b14 b15 hb2 hb3 hb4 hb5 hW3 hf3 hlt2 hlt5 s12 s23 s34 B2 BB1 WV hgv; generalize w1.heap.size = gu at *; generalize w4.heap.size = gq at *; go_loopw [13] (fun s13 wr => ∃ (jj : Nat) (lo mid qs : List Nat), s13 = .int .i64 ((jj : Int) - 1) ∧ jj ≤ lq ∧ Hid (lo.length = jj) ∧ Hid (mid.length = lb) ∧ Hid (qs.length + jj = lq) ∧ Hid (Wok lo) ∧ Hid (Wok mid) ∧ Hid (Wok qs) ∧ Hid (val mid < V) ∧ Hid (Ro wr gu (lo ++ (mid ++ List.replicate (la + 1 - lb - jj) 0))) ∧ Hid (Ro wr gq (List.replicate jj 0 ++ qs)) ∧ Hid (val lo + 4294967296 ^ jj * val mid + V * (4294967296 ^ jj * val qs) = M) ∧ Hid (Wd wr (.slice (some ⟨gv, ov, none⟩) lb cv) (words V)) ∧ Hid (Below w.heap.size w wr)) (fun s13 _ => (intOf s13 + 1).toNat)
 case atStart => exact ⟨lq, lo0, mid0, [], by first | rfl | (rw [i6]) | simp, Nat.le_refl _, LOL, MIDL, hid (by simp), OKlo, OKmid, hid Wok.nil, LTm, RU, RQ, EQ0, WV5, B5⟩
 case round =>
  obtain ⟨jj, lo, mid, qs, rfl, hjj, hlol, hmidl, hqsl, hlok, hmok, hqok, hmlt, hRU, hRQ, hEQ, hWV, hB⟩ := hrel; haveI : Has wr gu := ⟨hRU.out.lt⟩; haveI : Has wr gq := ⟨hRQ.out.lt⟩; clear LOL MIDL OKlo OKmid LTm RU RQ EQ0 WV5 B5; rcases Nat.eq_zero_or_pos jj with rfl | hjp
  · have hlo0 : lo = [] := List.length_eq_zero_iff.1 hlol.out; subst hlo0; have hR2 := hRU.out; have hE2 := hEQ.out; rw [List.nil_append] at hR2; rw [val, Nat.pow_zero, Nat.one_mul, Nat.one_mul, Nat.zero_add] at hE2; obtain ⟨f1, f2⟩ := DF.out mid qs hE2 hmlt.out; have hQ2 := hRQ.out; rw [List.replicate_zero, List.nil_append] at hQ2; have hql : qs.length = lq := hqsl.out; have WQ : Hid (Wd wr (.slice (some ⟨gq, 0, none⟩) lq lq) qs) := hid (by have := hQ2.wd (cap := lq) (by omega); rw [hql] at this; exact this)
    have WU : Hid (Wd wr (.slice (some ⟨gu, 0, none⟩) lb (la + 1)) mid) := hid (by have := hR2.wdtake (cap := la + 1) (by have := hmidl.out; have := HLQ.out; omega); rw [hmidl.out] at this; exact this)
    have F1 := hid f1; have F2 := hid f2; have QL := hid hql; have jb : (lb : Int) ≤ (la : Int) + 1 := by have := HLQ.out; omega
    clear hR2 hE2 hQ2 hql f1 f2
    have TQ : Hid (∀ w', Below wr.heap.size wr w' → Calls Tryz.prog 196 #[.slice (some ⟨gq, 0, none⟩) lq lq] w' fun e w'' => ∃ v', e = .returned v' ∧ Wd w' v' (words QQ) ∧ Fresh w.heap.size v' ∧ w'' = w') := hid fun w' h => (btrim _ qs w' (WQ.out.below h) hqok.out (by have := QL.out; omega)).mono (by
     rintro e w'' ⟨v', rfl, h1, h2, rfl⟩; rw [F1.out] at h1; exact ⟨v', rfl, h1, (Fresh.own (by omega)).of h2, rfl⟩)
    have TU : Hid (∀ w', Below wr.heap.size wr w' → Calls Tryz.prog 196 #[.slice (some ⟨gu, 0, none⟩) lb (la + 1)] w' fun e w'' => ∃ v', e = .returned v' ∧ Wd w' v' (words (RR * 2 ^ s)) ∧ Fresh w.heap.size v' ∧ w'' = w') := hid fun w' h => (btrim _ mid w' (WU.out.below h) hmok.out (by have := hmidl.out; omega)).mono (by
     rintro e w'' ⟨v', rfl, h1, h2, rfl⟩; rw [F2.out] at h1; exact ⟨v', rfl, h1, (Fresh.own (by omega)).of h2, rfl⟩)
    have DN : Hid (∀ v w', Below wr.heap.size wr w' → Wd w' v (words (RR * 2 ^ s)) → Calls Tryz.prog 218 #[v, .int .i64 s] w' fun e w'' => ∃ v', e = .returned v' ∧ Wd w'' v' (words RR) ∧ Fresh w.heap.size v' ∧ Below w'.heap.size w' w'' ∧ Below wr.heap.size wr w'') := hid fun v w' h hw => (bdown v (RR * 2 ^ s) s w' hw hRV.out (by omega)).mono (by
     rintro e w'' ⟨v', rfl, h1, h2, h3⟩; rw [MS.out] at h1; have z1 := hB.out.size; have z2 := h.size; exact ⟨v', rfl, h1, fun g hg => Nat.le_trans (Nat.le_trans z1 z2) (h2 g hg), h3, Below.trans h (below_low h3 z2)⟩)
    clear WQ WU F1 F2 QL; go_wp2_with fail
    go_region_with (first | (go_at_call 196; (with_reducible refine (TQ.out _ ?_).mono ?_); (focus (first | assumption | exact Below.refl _ _ | exact Below.drew (Below.refl _ _))); rintro e wq ⟨vq, rfl, hwq, hfq, hww⟩; subst hww) | (go_at_call 196; (with_reducible refine (TU.out _ ?_).mono ?_); (focus (first | assumption | exact Below.refl _ _ | exact Below.drew (Below.refl _ _))); rintro e wq ⟨vu, rfl, hwu2, hfu, hww⟩; subst hww) | (go_at_call 218; (with_reducible refine (DN.out _ _ ?_ ?_).mono ?_); (focus (first | assumption | exact Below.refl _ _ | exact Below.drew (Below.refl _ _))); (focus assumption); rintro e wd ⟨vd, rfl, hwd, hfd, hbd, hbr⟩))
    all_goals
     go_wp2_with fail
     go_ret2
     exact ⟨_, _, rfl, by first | exact hwq | exact hwq.below hbd, hwd, hfq, hfd, Below.trans hB.out (below_low hbr hB.out.size)⟩
  · obtain ⟨j, rfl⟩ : ∃ j, jj = j + 1 := ⟨jj - 1, by omega⟩
    obtain ⟨lo1, z, hloz, hlo1⟩ := split_last hlol.out; have hzB : z < 4294967296 := hlok.out z (by rw [hloz]; simp)
    have hlk1 : Wok lo1 := fun t ht => hlok.out t (by rw [hloz]; simp [ht])
    have hml := hmidl.out; have hn1 := HN1.out; have hn2 := HN2.out; have hlq := HLQ.out; have hU : (z :: mid).length = lb + 1 := by rw [List.length_cons, hml]
    obtain ⟨un, xun⟩ : ∃ un, (z :: mid)[lb]? = some un := ⟨_, List.getElem?_eq_getElem (by omega)⟩
    obtain ⟨u1, xu1⟩ : ∃ u1, (z :: mid)[n1]? = some u1 := ⟨_, List.getElem?_eq_getElem (by omega)⟩
    obtain ⟨u0, xu0⟩ : ∃ u0, (z :: mid)[n2]? = some u0 := ⟨_, List.getElem?_eq_getElem (by omega)⟩
    have hUlt : val (z :: mid) < V * 4294967296 := by
     rw [val]; have := hmlt.out; omega
    have hR2 : Ro wr gu (lo1 ++ ((z :: mid) ++ List.replicate (la + 1 - lb - (j + 1)) 0)) := by
     have := hRU.out; rw [hloz] at this
     simpa using this
    have hvlt : V < 4294967296 ^ lb := by have := words_lt V; rwa [VL.out] at this
    have hE2 := hEQ.out; rw [hloz] at hE2; have fg := bfigure gu j lb n1 n2 (la + 1 - j) lo1 (z :: mid) _ _ V un u1 u0 y y0 wr hR2 hlo1 hU (Wok.cons hzB hmok.out) hWV.out VL.out hn1 hn2 (by omega) (by omega) (fun k hk => by simp only [Value.ownBlock, Option.some.injEq] at hk; omega) hUlt xun xu1 xu0 HY.out HY0.out hyt (by omega)
    have FIG : Hid (Calls Tryz.prog 217 #[.slice (some ⟨gu, j, none⟩) (j + lb + 1 - j) (la + 1 - j), .slice (some ⟨gv, ov, none⟩) lb cv] wr fun e w' => ∃ (qd : Nat) (mid2 : List Nat), e = .returned (.int .u32 (qd : Int)) ∧ qd < 4294967296 ∧ mid2.length = lb ∧ Wok mid2 ∧ val mid2 < V ∧ val lo1 + 4294967296 ^ j * val mid2 + V * (4294967296 ^ j * val (qd :: qs)) = M ∧ Ro w' gu (lo1 ++ (mid2 ++ List.replicate (la + 1 - lb - j) 0)) ∧ Keeps wr.heap.size [gu] wr w') := hid (by
     rw [show j + lb + 1 - j = lb + 1 by omega]
     exact (fg.mono (by
      rintro e w' ⟨U', rfl, g1, g2, g3, g4, g5⟩; have hVp : 0 < V := by have := hmlt.out; omega
      obtain ⟨mid2, m1, m2, m3, m4⟩ := div_last g1 g2 (by rw [g3]; exact Nat.lt_trans (Nat.mod_lt _ hVp) hvlt)
      refine ⟨_, mid2, rfl, ?_, m2, m3, by rw [m4, g3]; exact Nat.mod_lt _ hVp, ?_, ?_, g5⟩
      · rw [Nat.div_lt_iff_lt_mul hVp, Nat.mul_comm]; exact hUlt
      · rw [m4, g3]; exact div_step hlo1 hE2 _ rfl
      · rw [m1, List.append_assoc] at g4; rw [show la + 1 - lb - j = (la + 1 - lb - (j + 1)) + 1 by omega, List.replicate_succ]
        exact g4)))
    have ql : qs.length + (j + 1) = lq := hqsl.out; have e0 : ((j + 1 : Nat) : Int) - 1 = (j : Int) := by omega
    have j1 : (j : Int) < (lq : Int) := by omega
    have j2 : (j : Int) + (lb : Int) + 1 ≤ (la : Int) + 1 := by omega
    have j3 : (0 : Int) ≤ (j : Int) := by omega
    have QN := hid ql; clear fg hE2 hR2 hUlt xun xu1 xu0 hU hn1 hn2 hlq hml hloz ql hjp hvlt hzB; go_wp2_with (go_at_call 217; refine FIG.out.mono ?_; rintro e w' ⟨qd, mid2, rfl, hqd, hm2, hmk2, hml2, heq2, hru2, hk2⟩; have RQ2 : Ro w' gq (List.replicate (j + 1) 0 ++ qs) := hRQ.out.keepS hk2 hRQ.out.lt (by simp; omega); have co := RQ2.cell (get_low j qs); have fo := RQ2.free j; haveI : Has w' gq := ⟨RQ2.lt⟩)
    have hRN := RQ2.set j qd; rw [set_low] at hRN; have RN : Hid (Ro (w'.setCell ⟨gq, j, none⟩ (.int .u32 (qd : Int))) gq (List.replicate j 0 ++ (qd :: qs))) := hid hRN; have UN : Hid (Ro (w'.setCell ⟨gq, j, none⟩ (.int .u32 (qd : Int))) gu (lo1 ++ (mid2 ++ List.replicate (la + 1 - lb - j) 0))) := hid (hru2.keepS ((Keeps.refl w'.heap.size [gq] w').set (Or.inl (by simp)) j (.int .u32 (qd : Int))) hru2.lt (by simp; omega))
    have WN : Hid (Wd (w'.setCell ⟨gq, j, none⟩ (.int .u32 (qd : Int))) (.slice (some ⟨gv, ov, none⟩) lb cv) (words V)) := hid ((hWV.out.keep hk2 (Nat.le_refl _) (fun k hk => by simp only [Value.ownBlock, Option.some.injEq] at hk; simp; omega)).set (fun k hk => by simp only [Value.ownBlock, Option.some.injEq] at hk; omega) _ _)
    have BN : Hid (Below w.heap.size w (w'.setCell ⟨gq, j, none⟩ (.int .u32 (qd : Int)))) := hid (by
     have k1 : Keeps w.heap.size [] w w' := (Keeps.of_below hB.out).trans (hk2.mono (hB.out.size) (fun k hk hs => by simp at hs; omega))
     exact (k1.set (Or.inr (by omega)) _ _).below)
    go_roundw
    case rel => exact ⟨j, lo1, mid2, qd :: qs, by first | rfl | simp, by omega, hid hlo1, hid hm2, hid (by rw [List.length_cons]; have := QN.out; omega), hid hlk1, hid hmk2, hid (Wok.cons hqd hqok.out), hid hml2, UN, RN, hid heq2, WN, BN⟩
    case measure => simp [intOf]
theorem bdivMany (va vb : Value) (m n : Nat) (w : World) (ha : Wd w va (words m)) (hb : Wd w vb (words n)) (hm : (words m).length ≤ 137438953472) (hmn : n ≤ m) (h2 : 2 ≤ (words n).length) :
 Calls Tryz.prog 177 #[va, vb] w fun e w' => ∃ q r, e = .returned (.tuple #[q, r]) ∧ Wd w' q (words (m / n)) ∧ Wd w' r (words (m % n)) ∧ Fresh w.heap.size q ∧ Fresh w.heap.size r ∧ Below w.heap.size w w' := by
 have CM := bcmp va vb m n w ha hb (by omega) (by have := len_mono hmn; omega)
 obtain ⟨cc, hcc⟩ : ∃ cc, cc = cmpN m n := ⟨_, rfl⟩; rw [← hcc] at CM; have hc2 : decide (cc < 0) = false := decide_eq_false (by rw [hcc]; unfold cmpN; rw [if_neg (by omega)]; by_cases h : n < m <;> simp [h])
 have hle := len_mono hmn; have hn0 : n ≠ 0 := fun e => by rw [e, words_0] at h2; simp at h2
 obtain ⟨n2, hn2⟩ : ∃ n2, n2 + 2 = (words n).length := ⟨(words n).length - 2, by omega⟩
 obtain ⟨n1, hn1⟩ : ∃ n1, n1 + 1 = (words n).length := ⟨(words n).length - 1, by omega⟩
 obtain ⟨x, hx⟩ : ∃ x, (words n)[n1]? = some x := ⟨_, List.getElem?_eq_getElem (by omega)⟩
 have hxB := (words_ok n).get hx; have hxl : (words n)[(words n).length - 1]? = some x := by rw [show (words n).length - 1 = n1 by omega]; exact hx
 obtain ⟨s, hs⟩ : ∃ s, s = 32 - bl x := ⟨_, rfl⟩
 have hs32 : s < 32 := by
  have hx0 := words_last hxl; have : bl x ≠ 0 := by unfold bl; rw [if_neg hx0]; omega
  omega
 have LD := fun w => lead32 x hxB w
 rw [← hs] at LD; obtain ⟨hVl, y, hy, hyt⟩ := top_shift hn0 hxl hs; have hp : 0 < 2 ^ s := Nat.pow_pos (by decide)
 have hp32 : (2 : Nat) ^ s < 4294967296 := by
  have : (2 : Nat) ^ s < 2 ^ 32 := Nat.pow_lt_pow_right (by decide) hs32
  simpa using this
 have hMl : (words (m * 2 ^ s)).length ≤ (words m).length + 1 := by
  refine words_len_le ?_
  rw [Nat.pow_succ]; exact Nat.mul_lt_mul'' (words_lt m) hp32
 have UP1 : Hid (∀ w2, Below w.heap.size w w2 → Calls Tryz.prog 157 #[vb, .int .i64 s] w2 fun e w' => ∃ gv ov cv, e = .returned (.slice (some ⟨gv, ov, none⟩) (words n).length cv) ∧ Wd w' (.slice (some ⟨gv, ov, none⟩) (words n).length cv) (words (n * 2 ^ s)) ∧ w2.heap.size ≤ gv ∧ gv < w'.heap.size ∧ Below w2.heap.size w2 w') := hid fun w2 h => ((bup vb n s w2 (hb.below h) (by omega) (by omega))).mono (by
  rintro e w' ⟨v, rfl, hw, hf, hbl⟩; obtain ⟨a, cv, rfl, -, hx⟩ := hw.form; obtain ⟨gv, ov, rfl, hg, -⟩ := hx (by omega)
  rw [hVl] at hw ⊢; exact ⟨gv, ov, cv, rfl, hw, hf gv rfl, hg, hbl⟩)
 have UP2 : Hid (∀ w2, Below w.heap.size w w2 → Calls Tryz.prog 157 #[va, .int .i64 s] w2 fun e w' => ∃ v, e = .returned v ∧ Wd w' v (words (m * 2 ^ s)) ∧ Fresh w2.heap.size v ∧ Below w2.heap.size w2 w') := hid fun w2 h => bup va m s w2 (ha.below h) (by omega) (by omega)
 obtain ⟨y0, hy0⟩ : ∃ y0, (words (n * 2 ^ s))[n2]? = some y0 := ⟨_, List.getElem?_eq_getElem (by omega)⟩
 have hRV : (words (m % n * 2 ^ s)).length ≤ 274877906944 := by
  have : m % n * 2 ^ s ≤ m * 2 ^ s := Nat.mul_le_mul_right _ (Nat.mod_le m n); have := len_mono this; omega
 obtain ⟨a, ca, rfl, hca, -⟩ := ha.form; obtain ⟨b, cb, rfl, hcb, hbx⟩ := hb.form; obtain ⟨gb, ob, rfl, hgb, hxb⟩ := hbx (by omega)
 exact bdivCore a ca gb ob cb (words m).length (words n).length ((words m).length - (words n).length + 1) s (n * 2 ^ s) (m * 2 ^ s) (m / n) (m % n) n1 n2 x y y0 cc (words (m * 2 ^ s)) w CM hc2 LD UP1 UP2 hgb (hxb n1 x hx) hs32
  (hid fun mid q => div_fin) (hid (Nat.mul_div_cancel _ hp)) (hid hRV)
  (hid fun l h1 h3 h4 => div_start h1 h3 h4 (words_lt m) (words_top hn0) (by omega) hle rfl)
  (hid hVl) (hid hMl) (hid (words_ok _)) (hid (val_words _)) (hid (by rw [show n1 = (words n).length - 1 by omega]; exact hy)) (hid hy0) hyt (hid hn1) (hid hn2) (hid (by omega)) (by omega) hm
theorem bdiv (va vb : Value) (m n : Nat) (w : World) (ha : Wd w va (words m)) (hb : Wd w vb (words n)) (hm : (words m).length ≤ 137438953472) (hn : (words n).length ≤ 137438953472) (h0 : n ≠ 0) :
 Calls Tryz.prog 177 #[va, vb] w fun e w' => ∃ q r, e = .returned (.tuple #[q, r]) ∧ Wd w' q (words (m / n)) ∧ Wd w' r (words (m % n)) ∧ Fresh w.heap.size q ∧ Fresh w.heap.size r ∧ Below w.heap.size w w' := by
 rcases Nat.lt_or_ge m n with h | h
 · exact bdivLess va vb m n w ha hb hm hn h
 · have hl : (words n).length ≠ 0 := fun e => h0 (words_len0.1 e)
   rcases Nat.lt_or_ge (words n).length 2 with h1 | h1
   · exact bdivOne va vb m n w ha hb hm h (by omega)
   · exact bdivMany va vb m n w ha hb hm h h1
theorem edivCore (a : Option Addr) (ca gb ob cb la lb lq s V M QQ RR n1 n2 x y y0 : Nat) (cc : Int) (lM : List Nat) (w : World)
 (CM : Calls Tryz.prog 155 #[.slice a la ca, .slice (some ⟨gb, ob, none⟩) lb cb] w fun e w' => e = .returned (.int .i64 cc) ∧ Drawn w w') (hc2 : decide (cc < 0) = false)
 (LD : ∀ w, Calls Tryz.prog 216 #[.int .u32 x] w fun e w' => e = .returned (.int .i64 s) ∧ w' = w)
 (UP1 : Hid (∀ w2, Below w.heap.size w w2 → Calls Tryz.prog 210 #[.slice (some ⟨gb, ob, none⟩) lb cb, .int .i64 s] w2 fun e w' => ∃ gv ov cv, e = .returned (.slice (some ⟨gv, ov, none⟩) lb cv) ∧ Wd w' (.slice (some ⟨gv, ov, none⟩) lb cv) (words V) ∧ w2.heap.size ≤ gv ∧ gv < w'.heap.size ∧ Below w2.heap.size w2 w'))
 (UP2 : Hid (∀ w2, Below w.heap.size w w2 → Calls Tryz.prog 210 #[.slice a la ca, .int .i64 s] w2 fun e w' => ∃ v, e = .returned v ∧ Wd w' v lM ∧ Fresh w2.heap.size v ∧ Below w2.heap.size w2 w'))
 (hgb : gb < w.heap.size) (c1 : w.cell? ⟨gb, ob + n1, none⟩ = some (.int .u32 x)) (hs32 : s < 32)
 (DF : Hid (∀ mid q : List Nat, val mid + V * val q = M → val mid < V → val q = QQ ∧ val mid = RR * 2 ^ s)) (MS : Hid (RR * 2 ^ s / 2 ^ s = RR)) (hRV : Hid ((words (RR * 2 ^ s)).length ≤ 274877906944))
 (START : Hid (∀ l, Wok l → l.length = la + 1 → val l = M → val (l.drop lq) < V)) (VL : Hid ((words V).length = lb)) (HLM : Hid (lM.length ≤ la + 1)) (OKM : Hid (Wok lM)) (VM : Hid (val lM = M))
 (HY : Hid ((words V)[n1]? = some y)) (HY0 : Hid ((words V)[n2]? = some y0)) (hyt : 2147483648 ≤ y) (HN1 : Hid (n1 + 1 = lb)) (HN2 : Hid (n2 + 2 = lb)) (HLQ : Hid (lq + lb = la + 1)) (hlqp : 0 < lq) (hlab : la ≤ 137438953472) :
 Calls Tryz.prog 203 #[.slice a la ca, .slice (some ⟨gb, ob, none⟩) lb cb] w fun e w' => ∃ q r, e = .returned (.tuple #[q, r]) ∧ Wd w' q (words QQ) ∧ Wd w' r (words RR) ∧ Fresh w.heap.size q ∧ Fresh w.heap.size r ∧ Below w.heap.size w w' := by
 haveI : Has w gb := ⟨hgb⟩; have hn1 := HN1.out; have hn2 := HN2.out; have hlq := HLQ.out; have i1 : (lb : Int) - 1 = (n1 : Int) := by omega
 have i2 : (0 : Int) ≤ (n1 : Int) := by omega
 have i3 : (n1 : Int) < (lb : Int) := by omega
 have i4 : ((lb : Int) == 1) = false := beq_eq_false_iff_ne.2 (by omega)
 have i5 : (la : Int) - (lb : Int) + 1 = (lq : Int) := by omega
 have i6 : (la : Int) - (lb : Int) = (lq : Int) - 1 := by omega
 have hlqB : lq ≤ 137438953473 := by omega
 have hlbB : lb ≤ 137438953473 := by omega
 clear hn1 hn2 hlq; go_enter Tryz.func203, Tryz.ntmps203; go_upto_region 8 with (first | (go_at_call 155; refine CM.mono ?_; rintro e w' ⟨rfl, hdr⟩; obtain ⟨kd, rfl⟩ := hdr) | (go_at_call 216; refine (LD _).mono ?_; rintro e w' ⟨rfl, hw⟩; obtain rfl := hw.symm) | (go_at_call 210; refine (UP1.out _ ?_).mono ?_; exact ((Keeps.refl _ [] _).drewN _).below; rintro e w1 ⟨gv, ov, cv, rfl, hWV, hgvB, hgv, hb1⟩))
 have B1 := Below.trans ((Keeps.refl w.heap.size [] w).drewN kd).below hb1; have hgvB2 : w.heap.size ≤ gv := hgvB; have WV := hid hWV; have BB1 := hid B1; clear hgvB hb1 hWV B1 hc2 i1 i2 i3 i4 c1 CM LD UP1; go_upto_region 9 with (at_make; refine make_words _ rfl _ _ rfl _ (la + 1) rfl rfl (by first | rfl | omega | simp) (by omega) ?_; intro w2 hro2 hb2 hlt2)
 have B2 := Below.trans BB1.out (below_low hb2 (BB1.out.size)); go_upto_region 10 with (first | (go_at_call 210; refine (UP2.out _ ?_).mono ?_; exact B2; rintro e w3 ⟨v3, rfl, hW3, hf3, hb3⟩) | (refine copy_words _ (by rfl) _ _ (by rfl) w1.heap.size (la + 1) (by rfl) (List.replicate (la + 1) 0) (hro2.out.keep hb3) (by simp) v3 (by rfl) lM hW3 HLM.out ?_; intro w4 hro4 hb4))
 go_wp2_with (at_make; refine make_words _ rfl _ _ rfl _ lq rfl rfl (by first | rfl | omega | simp) (by omega) ?_; intro w5 hro5 hb5 hlt5)
 have s12 := hb2.size; have s23 := hb3.size; have s34 := hb4.size; have b14 : Below w1.heap.size w1 w4 := Below.trans (Below.trans hb2 (below_low hb3 s12)) hb4; have b15 : Below w1.heap.size w1 w5 := Below.trans b14 (below_low hb5 b14.size); have B5 : Hid (Below w.heap.size w w5) := hid (Below.trans BB1.out (below_low b15 BB1.out.size)); have WV5 : Hid (Wd w5 (.slice (some ⟨gv, ov, none⟩) lb cv) (words V)) := hid (WV.out.below b15); have RU5 := hro4.out.keep hb5; have hgq : w1.heap.size < w4.heap.size := by omega
 obtain ⟨L0, hL0⟩ : ∃ L0, L0 = lM ++ (List.replicate (la + 1) 0).drop lM.length := ⟨_, rfl⟩; rw [← hL0] at RU5; have hlL : L0.length = la + 1 := by rw [hL0]; have := HLM.out; simp; omega
 have okL : Wok L0 := by rw [hL0]; exact OKM.out.append ((Wok.rep _).drop _)
 have vL : val L0 = M := by rw [hL0, val_append, List.drop_replicate, val_rep, Nat.mul_zero, Nat.add_zero]; exact VM.out
 have hst := START.out L0 okL hlL vL; obtain ⟨lo0, hlo0⟩ : ∃ lo0, lo0 = L0.take lq := ⟨_, rfl⟩; obtain ⟨mid0, hmid0⟩ : ∃ mid0, mid0 = L0.drop lq := ⟨_, rfl⟩; have hLs : L0 = lo0 ++ mid0 := by rw [hlo0, hmid0, List.take_append_drop]
 have hlol : lo0.length = lq := by rw [hlo0, List.length_take]; have := HLQ.out; omega
 have hmidl : mid0.length = lb := by rw [hmid0, List.length_drop]; have := HLQ.out; omega
 rw [← hmid0] at hst
 have RU : Hid (Ro w5 w1.heap.size (lo0 ++ (mid0 ++ List.replicate (la + 1 - lb - lq) 0))) := hid (by
  rw [hLs] at RU5; rw [show la + 1 - lb - lq = 0 by have := HLQ.out; omega, List.replicate_zero, List.append_nil]
  exact RU5)
 have RQ : Hid (Ro w5 w4.heap.size (List.replicate lq 0 ++ [])) := hid (by rw [List.append_nil]; exact hro5.out)
 have EQ0 : Hid (val lo0 + 4294967296 ^ lq * val mid0 + V * (4294967296 ^ lq * val []) = M) := hid (by
  rw [← vL, hLs, val_append, hlol]; simp [val])
 have OKlo : Hid (Wok lo0) := hid (by rw [hlo0]; exact okL.take _)
 have OKmid : Hid (Wok mid0) := hid (by rw [hmid0]; exact okL.drop _)
 have LTm := hid hst; have LOL := hid hlol; have MIDL := hid hmidl; have hgvu : gv < w1.heap.size := hgv; have hwu : w.heap.size ≤ w1.heap.size := BB1.out.size; clear hL0 hlL okL vL hst hlo0 hmid0 hLs hlol hmidl RU5 hro2 hro4 hro5 b14 b15 hb2 hb3 hb4 hb5 hW3 hf3 hlt2 hlt5 s12 s23 s34 B2 BB1 WV hgv; generalize w1.heap.size = gu at *; generalize w4.heap.size = gq at *; go_loopw [13] (fun s13 wr => ∃ (jj : Nat) (lo mid qs : List Nat), s13 = .int .i64 ((jj : Int) - 1) ∧ jj ≤ lq ∧ Hid (lo.length = jj) ∧ Hid (mid.length = lb) ∧ Hid (qs.length + jj = lq) ∧ Hid (Wok lo) ∧ Hid (Wok mid) ∧ Hid (Wok qs) ∧ Hid (val mid < V) ∧ Hid (Ro wr gu (lo ++ (mid ++ List.replicate (la + 1 - lb - jj) 0))) ∧ Hid (Ro wr gq (List.replicate jj 0 ++ qs)) ∧ Hid (val lo + 4294967296 ^ jj * val mid + V * (4294967296 ^ jj * val qs) = M) ∧ Hid (Wd wr (.slice (some ⟨gv, ov, none⟩) lb cv) (words V)) ∧ Hid (Below w.heap.size w wr)) (fun s13 _ => (intOf s13 + 1).toNat)
 case atStart => exact ⟨lq, lo0, mid0, [], by first | rfl | (rw [i6]) | simp, Nat.le_refl _, LOL, MIDL, hid (by simp), OKlo, OKmid, hid Wok.nil, LTm, RU, RQ, EQ0, WV5, B5⟩
 case round =>
  obtain ⟨jj, lo, mid, qs, rfl, hjj, hlol, hmidl, hqsl, hlok, hmok, hqok, hmlt, hRU, hRQ, hEQ, hWV, hB⟩ := hrel; haveI : Has wr gu := ⟨hRU.out.lt⟩; haveI : Has wr gq := ⟨hRQ.out.lt⟩; clear LOL MIDL OKlo OKmid LTm RU RQ EQ0 WV5 B5; rcases Nat.eq_zero_or_pos jj with rfl | hjp
  · have hlo0 : lo = [] := List.length_eq_zero_iff.1 hlol.out; subst hlo0; have hR2 := hRU.out; have hE2 := hEQ.out; rw [List.nil_append] at hR2; rw [val, Nat.pow_zero, Nat.one_mul, Nat.one_mul, Nat.zero_add] at hE2; obtain ⟨f1, f2⟩ := DF.out mid qs hE2 hmlt.out; have hQ2 := hRQ.out; rw [List.replicate_zero, List.nil_append] at hQ2; have hql : qs.length = lq := hqsl.out; have WQ : Hid (Wd wr (.slice (some ⟨gq, 0, none⟩) lq lq) qs) := hid (by have := hQ2.wd (cap := lq) (by omega); rw [hql] at this; exact this)
    have WU : Hid (Wd wr (.slice (some ⟨gu, 0, none⟩) lb (la + 1)) mid) := hid (by have := hR2.wdtake (cap := la + 1) (by have := hmidl.out; have := HLQ.out; omega); rw [hmidl.out] at this; exact this)
    have F1 := hid f1; have F2 := hid f2; have QL := hid hql; have jb : (lb : Int) ≤ (la : Int) + 1 := by have := HLQ.out; omega
    clear hR2 hE2 hQ2 hql f1 f2
    have TQ : Hid (∀ w', Below wr.heap.size wr w' → Calls Tryz.prog 200 #[.slice (some ⟨gq, 0, none⟩) lq lq] w' fun e w'' => ∃ v', e = .returned v' ∧ Wd w' v' (words QQ) ∧ Fresh w.heap.size v' ∧ w'' = w') := hid fun w' h => (etrim _ qs w' (WQ.out.below h) hqok.out (by have := QL.out; omega)).mono (by
     rintro e w'' ⟨v', rfl, h1, h2, rfl⟩; rw [F1.out] at h1; exact ⟨v', rfl, h1, (Fresh.own (by omega)).of h2, rfl⟩)
    have TU : Hid (∀ w', Below wr.heap.size wr w' → Calls Tryz.prog 200 #[.slice (some ⟨gu, 0, none⟩) lb (la + 1)] w' fun e w'' => ∃ v', e = .returned v' ∧ Wd w' v' (words (RR * 2 ^ s)) ∧ Fresh w.heap.size v' ∧ w'' = w') := hid fun w' h => (etrim _ mid w' (WU.out.below h) hmok.out (by have := hmidl.out; omega)).mono (by
     rintro e w'' ⟨v', rfl, h1, h2, rfl⟩; rw [F2.out] at h1; exact ⟨v', rfl, h1, (Fresh.own (by omega)).of h2, rfl⟩)
    have DN : Hid (∀ v w', Below wr.heap.size wr w' → Wd w' v (words (RR * 2 ^ s)) → Calls Tryz.prog 235 #[v, .int .i64 s] w' fun e w'' => ∃ v', e = .returned v' ∧ Wd w'' v' (words RR) ∧ Fresh w.heap.size v' ∧ Below w'.heap.size w' w'' ∧ Below wr.heap.size wr w'') := hid fun v w' h hw => (edown v (RR * 2 ^ s) s w' hw hRV.out (by omega)).mono (by
     rintro e w'' ⟨v', rfl, h1, h2, h3⟩; rw [MS.out] at h1; have z1 := hB.out.size; have z2 := h.size; exact ⟨v', rfl, h1, fun g hg => Nat.le_trans (Nat.le_trans z1 z2) (h2 g hg), h3, Below.trans h (below_low h3 z2)⟩)
    clear WQ WU F1 F2 QL; go_wp2_with fail
    go_region_with (first | (go_at_call 200; (with_reducible refine (TQ.out _ ?_).mono ?_); (focus (first | assumption | exact Below.refl _ _ | exact Below.drew (Below.refl _ _))); rintro e wq ⟨vq, rfl, hwq, hfq, hww⟩; subst hww) | (go_at_call 200; (with_reducible refine (TU.out _ ?_).mono ?_); (focus (first | assumption | exact Below.refl _ _ | exact Below.drew (Below.refl _ _))); rintro e wq ⟨vu, rfl, hwu2, hfu, hww⟩; subst hww) | (go_at_call 235; (with_reducible refine (DN.out _ _ ?_ ?_).mono ?_); (focus (first | assumption | exact Below.refl _ _ | exact Below.drew (Below.refl _ _))); (focus assumption); rintro e wd ⟨vd, rfl, hwd, hfd, hbd, hbr⟩))
    all_goals
     go_wp2_with fail
     go_ret2
     exact ⟨_, _, rfl, by first | exact hwq | exact hwq.below hbd, hwd, hfq, hfd, Below.trans hB.out (below_low hbr hB.out.size)⟩
  · obtain ⟨j, rfl⟩ : ∃ j, jj = j + 1 := ⟨jj - 1, by omega⟩
    obtain ⟨lo1, z, hloz, hlo1⟩ := split_last hlol.out; have hzB : z < 4294967296 := hlok.out z (by rw [hloz]; simp)
    have hlk1 : Wok lo1 := fun t ht => hlok.out t (by rw [hloz]; simp [ht])
    have hml := hmidl.out; have hn1 := HN1.out; have hn2 := HN2.out; have hlq := HLQ.out; have hU : (z :: mid).length = lb + 1 := by rw [List.length_cons, hml]
    obtain ⟨un, xun⟩ : ∃ un, (z :: mid)[lb]? = some un := ⟨_, List.getElem?_eq_getElem (by omega)⟩
    obtain ⟨u1, xu1⟩ : ∃ u1, (z :: mid)[n1]? = some u1 := ⟨_, List.getElem?_eq_getElem (by omega)⟩
    obtain ⟨u0, xu0⟩ : ∃ u0, (z :: mid)[n2]? = some u0 := ⟨_, List.getElem?_eq_getElem (by omega)⟩
    have hUlt : val (z :: mid) < V * 4294967296 := by
     rw [val]; have := hmlt.out; omega
    have hR2 : Ro wr gu (lo1 ++ ((z :: mid) ++ List.replicate (la + 1 - lb - (j + 1)) 0)) := by
     have := hRU.out; rw [hloz] at this
     simpa using this
    have hvlt : V < 4294967296 ^ lb := by have := words_lt V; rwa [VL.out] at this
    have hE2 := hEQ.out; rw [hloz] at hE2; have fg := efigure gu j lb n1 n2 (la + 1 - j) lo1 (z :: mid) _ _ V un u1 u0 y y0 wr hR2 hlo1 hU (Wok.cons hzB hmok.out) hWV.out VL.out hn1 hn2 (by omega) (by omega) (fun k hk => by simp only [Value.ownBlock, Option.some.injEq] at hk; omega) hUlt xun xu1 xu0 HY.out HY0.out hyt (by omega)
    have FIG : Hid (Calls Tryz.prog 234 #[.slice (some ⟨gu, j, none⟩) (j + lb + 1 - j) (la + 1 - j), .slice (some ⟨gv, ov, none⟩) lb cv] wr fun e w' => ∃ (qd : Nat) (mid2 : List Nat), e = .returned (.int .u32 (qd : Int)) ∧ qd < 4294967296 ∧ mid2.length = lb ∧ Wok mid2 ∧ val mid2 < V ∧ val lo1 + 4294967296 ^ j * val mid2 + V * (4294967296 ^ j * val (qd :: qs)) = M ∧ Ro w' gu (lo1 ++ (mid2 ++ List.replicate (la + 1 - lb - j) 0)) ∧ Keeps wr.heap.size [gu] wr w') := hid (by
     rw [show j + lb + 1 - j = lb + 1 by omega]
     exact (fg.mono (by
      rintro e w' ⟨U', rfl, g1, g2, g3, g4, g5⟩; have hVp : 0 < V := by have := hmlt.out; omega
      obtain ⟨mid2, m1, m2, m3, m4⟩ := div_last g1 g2 (by rw [g3]; exact Nat.lt_trans (Nat.mod_lt _ hVp) hvlt)
      refine ⟨_, mid2, rfl, ?_, m2, m3, by rw [m4, g3]; exact Nat.mod_lt _ hVp, ?_, ?_, g5⟩
      · rw [Nat.div_lt_iff_lt_mul hVp, Nat.mul_comm]; exact hUlt
      · rw [m4, g3]; exact div_step hlo1 hE2 _ rfl
      · rw [m1, List.append_assoc] at g4; rw [show la + 1 - lb - j = (la + 1 - lb - (j + 1)) + 1 by omega, List.replicate_succ]
        exact g4)))
    have ql : qs.length + (j + 1) = lq := hqsl.out; have e0 : ((j + 1 : Nat) : Int) - 1 = (j : Int) := by omega
    have j1 : (j : Int) < (lq : Int) := by omega
    have j2 : (j : Int) + (lb : Int) + 1 ≤ (la : Int) + 1 := by omega
    have j3 : (0 : Int) ≤ (j : Int) := by omega
    have QN := hid ql; clear fg hE2 hR2 hUlt xun xu1 xu0 hU hn1 hn2 hlq hml hloz ql hjp hvlt hzB; go_wp2_with (go_at_call 234; refine FIG.out.mono ?_; rintro e w' ⟨qd, mid2, rfl, hqd, hm2, hmk2, hml2, heq2, hru2, hk2⟩; have RQ2 : Ro w' gq (List.replicate (j + 1) 0 ++ qs) := hRQ.out.keepS hk2 hRQ.out.lt (by simp; omega); have co := RQ2.cell (get_low j qs); have fo := RQ2.free j; haveI : Has w' gq := ⟨RQ2.lt⟩)
    have hRN := RQ2.set j qd; rw [set_low] at hRN; have RN : Hid (Ro (w'.setCell ⟨gq, j, none⟩ (.int .u32 (qd : Int))) gq (List.replicate j 0 ++ (qd :: qs))) := hid hRN; have UN : Hid (Ro (w'.setCell ⟨gq, j, none⟩ (.int .u32 (qd : Int))) gu (lo1 ++ (mid2 ++ List.replicate (la + 1 - lb - j) 0))) := hid (hru2.keepS ((Keeps.refl w'.heap.size [gq] w').set (Or.inl (by simp)) j (.int .u32 (qd : Int))) hru2.lt (by simp; omega))
    have WN : Hid (Wd (w'.setCell ⟨gq, j, none⟩ (.int .u32 (qd : Int))) (.slice (some ⟨gv, ov, none⟩) lb cv) (words V)) := hid ((hWV.out.keep hk2 (Nat.le_refl _) (fun k hk => by simp only [Value.ownBlock, Option.some.injEq] at hk; simp; omega)).set (fun k hk => by simp only [Value.ownBlock, Option.some.injEq] at hk; omega) _ _)
    have BN : Hid (Below w.heap.size w (w'.setCell ⟨gq, j, none⟩ (.int .u32 (qd : Int)))) := hid (by
     have k1 : Keeps w.heap.size [] w w' := (Keeps.of_below hB.out).trans (hk2.mono (hB.out.size) (fun k hk hs => by simp at hs; omega))
     exact (k1.set (Or.inr (by omega)) _ _).below)
    go_roundw
    case rel => exact ⟨j, lo1, mid2, qd :: qs, by first | rfl | simp, by omega, hid hlo1, hid hm2, hid (by rw [List.length_cons]; have := QN.out; omega), hid hlk1, hid hmk2, hid (Wok.cons hqd hqok.out), hid hml2, UN, RN, hid heq2, WN, BN⟩
    case measure => simp [intOf]
theorem edivMany (va vb : Value) (m n : Nat) (w : World) (ha : Wd w va (words m)) (hb : Wd w vb (words n)) (hm : (words m).length ≤ 137438953472) (hmn : n ≤ m) (h2 : 2 ≤ (words n).length) :
 Calls Tryz.prog 203 #[va, vb] w fun e w' => ∃ q r, e = .returned (.tuple #[q, r]) ∧ Wd w' q (words (m / n)) ∧ Wd w' r (words (m % n)) ∧ Fresh w.heap.size q ∧ Fresh w.heap.size r ∧ Below w.heap.size w w' := by
 have CM := ecmp va vb m n w ha hb (by omega) (by have := len_mono hmn; omega)
 obtain ⟨cc, hcc⟩ : ∃ cc, cc = cmpN m n := ⟨_, rfl⟩; rw [← hcc] at CM; have hc2 : decide (cc < 0) = false := decide_eq_false (by rw [hcc]; unfold cmpN; rw [if_neg (by omega)]; by_cases h : n < m <;> simp [h])
 have hle := len_mono hmn; have hn0 : n ≠ 0 := fun e => by rw [e, words_0] at h2; simp at h2
 obtain ⟨n2, hn2⟩ : ∃ n2, n2 + 2 = (words n).length := ⟨(words n).length - 2, by omega⟩
 obtain ⟨n1, hn1⟩ : ∃ n1, n1 + 1 = (words n).length := ⟨(words n).length - 1, by omega⟩
 obtain ⟨x, hx⟩ : ∃ x, (words n)[n1]? = some x := ⟨_, List.getElem?_eq_getElem (by omega)⟩
 have hxB := (words_ok n).get hx; have hxl : (words n)[(words n).length - 1]? = some x := by rw [show (words n).length - 1 = n1 by omega]; exact hx
 obtain ⟨s, hs⟩ : ∃ s, s = 32 - bl x := ⟨_, rfl⟩
 have hs32 : s < 32 := by
  have hx0 := words_last hxl; have : bl x ≠ 0 := by unfold bl; rw [if_neg hx0]; omega
  omega
 have LD := fun w => lead32 x hxB w
 rw [← hs] at LD; obtain ⟨hVl, y, hy, hyt⟩ := top_shift hn0 hxl hs; have hp : 0 < 2 ^ s := Nat.pow_pos (by decide)
 have hp32 : (2 : Nat) ^ s < 4294967296 := by
  have : (2 : Nat) ^ s < 2 ^ 32 := Nat.pow_lt_pow_right (by decide) hs32
  simpa using this
 have hMl : (words (m * 2 ^ s)).length ≤ (words m).length + 1 := by
  refine words_len_le ?_
  rw [Nat.pow_succ]; exact Nat.mul_lt_mul'' (words_lt m) hp32
 have UP1 : Hid (∀ w2, Below w.heap.size w w2 → Calls Tryz.prog 210 #[vb, .int .i64 s] w2 fun e w' => ∃ gv ov cv, e = .returned (.slice (some ⟨gv, ov, none⟩) (words n).length cv) ∧ Wd w' (.slice (some ⟨gv, ov, none⟩) (words n).length cv) (words (n * 2 ^ s)) ∧ w2.heap.size ≤ gv ∧ gv < w'.heap.size ∧ Below w2.heap.size w2 w') := hid fun w2 h => ((eup vb n s w2 (hb.below h) (by omega) (by omega))).mono (by
  rintro e w' ⟨v, rfl, hw, hf, hbl⟩; obtain ⟨a, cv, rfl, -, hx⟩ := hw.form; obtain ⟨gv, ov, rfl, hg, -⟩ := hx (by omega)
  rw [hVl] at hw ⊢; exact ⟨gv, ov, cv, rfl, hw, hf gv rfl, hg, hbl⟩)
 have UP2 : Hid (∀ w2, Below w.heap.size w w2 → Calls Tryz.prog 210 #[va, .int .i64 s] w2 fun e w' => ∃ v, e = .returned v ∧ Wd w' v (words (m * 2 ^ s)) ∧ Fresh w2.heap.size v ∧ Below w2.heap.size w2 w') := hid fun w2 h => eup va m s w2 (ha.below h) (by omega) (by omega)
 obtain ⟨y0, hy0⟩ : ∃ y0, (words (n * 2 ^ s))[n2]? = some y0 := ⟨_, List.getElem?_eq_getElem (by omega)⟩
 have hRV : (words (m % n * 2 ^ s)).length ≤ 274877906944 := by
  have : m % n * 2 ^ s ≤ m * 2 ^ s := Nat.mul_le_mul_right _ (Nat.mod_le m n); have := len_mono this; omega
 obtain ⟨a, ca, rfl, hca, -⟩ := ha.form; obtain ⟨b, cb, rfl, hcb, hbx⟩ := hb.form; obtain ⟨gb, ob, rfl, hgb, hxb⟩ := hbx (by omega)
 exact edivCore a ca gb ob cb (words m).length (words n).length ((words m).length - (words n).length + 1) s (n * 2 ^ s) (m * 2 ^ s) (m / n) (m % n) n1 n2 x y y0 cc (words (m * 2 ^ s)) w CM hc2 LD UP1 UP2 hgb (hxb n1 x hx) hs32
  (hid fun mid q => div_fin) (hid (Nat.mul_div_cancel _ hp)) (hid hRV)
  (hid fun l h1 h3 h4 => div_start h1 h3 h4 (words_lt m) (words_top hn0) (by omega) hle rfl)
  (hid hVl) (hid hMl) (hid (words_ok _)) (hid (val_words _)) (hid (by rw [show n1 = (words n).length - 1 by omega]; exact hy)) (hid hy0) hyt (hid hn1) (hid hn2) (hid (by omega)) (by omega) hm
theorem ediv (va vb : Value) (m n : Nat) (w : World) (ha : Wd w va (words m)) (hb : Wd w vb (words n)) (hm : (words m).length ≤ 137438953472) (hn : (words n).length ≤ 137438953472) (h0 : n ≠ 0) :
 Calls Tryz.prog 203 #[va, vb] w fun e w' => ∃ q r, e = .returned (.tuple #[q, r]) ∧ Wd w' q (words (m / n)) ∧ Wd w' r (words (m % n)) ∧ Fresh w.heap.size q ∧ Fresh w.heap.size r ∧ Below w.heap.size w w' := by
 rcases Nat.lt_or_ge m n with h | h
 · exact edivLess va vb m n w ha hb hm hn h
 · have hl : (words n).length ≠ 0 := fun e => h0 (words_len0.1 e)
   rcases Nat.lt_or_ge (words n).length 2 with h1 | h1
   · exact edivOne va vb m n w ha hb hm h (by omega)
   · exact edivMany va vb m n w ha hb hm h h1
end Go.Proofs.YthjeejnggpjnjaaGreatDoor
