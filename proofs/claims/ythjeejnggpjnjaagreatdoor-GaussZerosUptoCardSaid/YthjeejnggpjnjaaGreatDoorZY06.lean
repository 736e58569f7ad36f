/- A part: T, U, V, W. -/
import Derived.Test.YthjeejnggpjnjaaGreatDoorZY04
import Derived.Test.YthjeejnggpjnjaaGreatDoorZY05
import Derived.Deep.RegionHeld3
set_option linter.unusedSimpArgs false
set_option linter.unusedVariables false
set_option maxRecDepth 100000
set_option maxHeartbeats 16000000
set_option synthInstance.maxHeartbeats 2000000
set_option synthInstance.maxSize 100000
namespace Go.Proofs.YthjeejnggpjnjaaGreatDoor
open Go.RowKit
def sg (b : Bool) (m : Nat) : Int := if b then -(m : Int) else m
theorem sg_abs (b : Bool) (m : Nat) : (sg b m).natAbs = m := by cases b <;> simp [sg]
theorem sg_neg (b : Bool) (m : Nat) : decide (sg b m < 0) = (b && decide (m ≠ 0)) := by
 cases b
 · simp [sg]
 · simp only [sg, if_true, Bool.true_and]; by_cases h : m = 0
   · subst h; rfl
   · rw [decide_eq_true h, decide_eq_true (by omega)]
theorem sg_of (x : Int) : x = sg (decide (x < 0)) x.natAbs := by
 by_cases h : x < 0
 · rw [decide_eq_true h]; simp only [sg, if_true]; omega
 · rw [decide_eq_false h]; simp only [sg, Bool.false_eq_true, if_false]; omega
theorem rat_mk {num : Int} {den : Nat} (hd : den ≠ 0) (hc : num.natAbs.Coprime den) {r : _root_.Rat} (h : r = mkRat num den) : r.num = num ∧ r.den = den := by
 rw [← Rat.mk_eq_mkRat num den hd hc] at h; subst h; exact ⟨rfl, rfl⟩
theorem sg_div (b : Bool) (m g : Nat) (h : g ∣ m) : sg b m / (g : Int) = sg b (m / g) := by
 cases b
 · simp [sg]
 · simp only [sg, if_true]; obtain ⟨k, rfl⟩ := h; rcases Nat.eq_zero_or_pos g with h0 | h0
   · subst h0; simp
   · rw [Nat.mul_div_cancel_left _ h0, Int.natCast_mul, ← Int.mul_neg, Int.mul_ediv_cancel_left _ (by omega)]
theorem mk_parts (b : Bool) (m n : Nat) (hn : n ≠ 0) : (mkRat (sg b m) n).num = sg b (m / Nat.gcd m n) ∧ (mkRat (sg b m) n).den = n / Nat.gcd m n := by
 rw [Rat.mkRat_def, dif_neg hn, Rat.normalize_eq hn]; simp only [sg_abs]; exact ⟨sg_div b m _ (Nat.gcd_dvd_left m n), trivial⟩
def Ra (R : Nat) (w : World) (g : Nat) (r : _root_.Rat) : Prop := ∃ v d, Bk w g [.bool (decide (r.num < 0)), v, d] R ∧ Wd w v (words r.num.natAbs) ∧ Dn w d r.den
theorem Dn.keepB {w w' : World} {d : Value} {n g T : Nat} {L : List Value} (h : Dn w d n) (b : Bk w g L T) (k : Keeps w.heap.size [g] w w') : Dn w' d n := h.imp (fun h => ⟨h.1.keepB b k, h.2⟩) (fun h => h.keepB b k)
theorem Dn.below {w w' : World} {d : Value} {n : Nat} (h : Dn w d n) (b : Below w.heap.size w w') : Dn w' d n := h.imp (fun h => ⟨h.1.below b, h.2⟩) (fun h => h.below b)
theorem Ra.below {R : Nat} {w w' : World} {g : Nat} {r : _root_.Rat} (h : Ra R w g r) (b : Below w.heap.size w w') : Ra R w' g r := by
 obtain ⟨v, d, h1, h2, h3⟩ := h; exact ⟨v, d, h1.below b, h2.below b, h3.below b⟩
theorem Ra.keep {R : Nat} {w w' : World} {g k T : Nat} {r : _root_.Rat} {L : List Value} (h : Ra R w g r) (b : Bk w k L T) (kp : Keeps w.heap.size [k] w w') (hk : g ≠ k) : Ra R w' g r := by
 obtain ⟨v, d, h1, h2, h3⟩ := h; exact ⟨v, d, h1.keep kp (Nat.le_refl _) (by simpa using hk), h2.keepB b kp, h3.keepB b kp⟩
theorem slice_open {w : World} {a : Option Addr} {n c : Nat} {l : List Nat} (h : Wd w (.slice a n c) l) : 0 < l.length → ∃ g off, a = some ⟨g, off, none⟩ ∧ g < w.heap.size ∧ ∀ (i x : Nat), l[i]? = some x → w.cell? ⟨g, off + i, none⟩ = some (.int .u32 x) := by
 obtain ⟨a', c', e, -, h2⟩ := h.form; simp only [Value.slice.injEq] at e; obtain ⟨rfl, -, -⟩ := e; exact h2
theorem one_cases (n : Nat) : ((words n).length ≠ 1 ∧ n ≠ 1) ∨ (∃ x, words n = [x] ∧ x ≠ 1 ∧ n ≠ 1) ∨ (words n = [1] ∧ n = 1) := by
 rcases Nat.lt_or_ge 1 (words n).length with h | h
 · exact .inl ⟨by omega, fun e => by rw [e, words_one] at h; simp at h⟩
 · cases hw : words n with
   | nil =>
     refine .inl ⟨by simp, fun e => ?_⟩
     rw [e, words_one] at hw; cases hw
   | cons x l =>
     rw [hw] at h; have : l = [] := List.length_eq_zero_iff.1 (by simpa using h)
     subst this; have hx := words_1 hw; subst hx; by_cases h1 : n = 1
     · subst h1; exact .inr (.inr ⟨rfl, rfl⟩)
     · exact .inr (.inl ⟨n, rfl, h1, h1⟩)
set_option maxHeartbeats 4000000 in
theorem bone (v : Value) (n : Nat) (w : World) (hv : Wd w v (words n)) : Calls Tryz.prog 226 #[v] w fun e w' => e = .returned (.bool (decide (n = 1))) ∧ w' = w := by
 obtain ⟨a, c, rfl, hc, hx⟩ := hv.form; rcases one_cases n with ⟨h1, h2⟩ | ⟨x, h1, h2, h3⟩ | ⟨h1, h2⟩
 · have e := hid (decide_eq_false h2); generalize (words n).length = ln at *; have hne : ((ln : Int) == 1) = false := beq_eq_false_iff_ne.2 (by omega)
   clear h2 hx hv; go_enter Tryz.func226, Tryz.ntmps226; go_wp2_with fail
   go_ret
   exact ⟨by rw [e.out]; rfl, rfl⟩
 · have e := hid (decide_eq_false h3); rw [h1] at hx hc ⊢; obtain ⟨g, o, rfl, hg, hx⟩ := hx (by simp)
   have c0 := hx 0 x rfl; rw [Nat.add_zero] at c0; haveI : Has w g := ⟨hg⟩; have hx1 : ((x : Int) == 1) = false := beq_eq_false_iff_ne.2 (by omega)
   clear hx h3 h2 hv h1; go_enter Tryz.func226, Tryz.ntmps226; go_wp2_with fail
   go_ret
   exact ⟨by rw [e.out]; rfl, rfl⟩
 · have e := hid (decide_eq_true h2); rw [h1] at hx hc ⊢; obtain ⟨g, o, rfl, hg, hx⟩ := hx (by simp)
   have c0 := hx 0 1 rfl; rw [Nat.add_zero] at c0; haveI : Has w g := ⟨hg⟩; clear hx h2 hv h1; go_enter Tryz.func226, Tryz.ntmps226; go_wp2_with fail
   go_ret
   exact ⟨by rw [e.out]; rfl, rfl⟩
set_option maxHeartbeats 4000000 in
theorem bby (va vk : Value) (m k : Nat) (w : World) (ha : Wd w va (words m)) (hk : Wd w vk (words k)) (hm : (words m).length ≤ 137438953472) (hkl : (words k).length ≤ 137438953472) (h0 : k ≠ 0) :
 Calls Tryz.prog 185 #[va, vk] w fun e w' => ∃ v, e = .returned v ∧ Wd w' v (words (m / k)) ∧ Below w.heap.size w w' := by
 have O := bone vk k w hk; have D := bdiv va vk m k w ha hk hm hkl h0; by_cases h1 : k = 1
 · subst h1; rw [Nat.div_one]; have HA := hid ha; have e : decide (1 = 1) = true := rfl; rw [e] at O; clear D ha; go_enter Tryz.func185, Tryz.ntmps185; go_wp2_with (go_at_call 226; refine O.mono ?_; rintro e w' ⟨rfl, hw⟩; obtain rfl := hw.symm)
   go_ret
   exact ⟨_, rfl, HA.out, Below.refl _ _⟩
 · have e : decide (k = 1) = false := decide_eq_false h1; rw [e] at O; clear h1 e ha hk; go_enter Tryz.func185, Tryz.ntmps185; go_wp2_with (first | (go_at_call 226; refine O.mono ?_; rintro e w' ⟨rfl, hw⟩; obtain rfl := hw.symm) | (go_at_call 177; refine D.mono ?_; rintro e w' ⟨q, r, rfl, hq, -, -, -, hb⟩))
   go_ret
   exact ⟨_, rfl, hq, hb⟩
theorem btrimW (v : Value) (n : Nat) (w : World) (hv : Wd w v (words n)) (hn : (words n).length ≤ 1099511627776) :
 Calls Tryz.prog 196 #[v] w fun e w' => ∃ a c, e = .returned (.slice a (words n).length c) ∧ Wd w (.slice a (words n).length c) (words n) ∧ w' = w := by
 refine (btrim v (words n) w hv (words_ok n) hn).mono ?_
 rintro e w' ⟨v', rfl, h1, h2, rfl⟩; rw [val_words] at h1; obtain ⟨a, c, rfl, -, -⟩ := h1.form; exact ⟨a, c, rfl, h1, rfl⟩
theorem bisetR (g : Nat) (x y d : Value) (b : Bool) (v : Value) (n : Nat) (w : World) (hb : Bk w g [x, y, d] 88) (hv : Wd w v (words n)) (hn : (words n).length ≤ 1099511627776) :
 Calls Tryz.prog 171 #[.pointer (some ⟨g, 0, none⟩), .bool b, v] w fun e w' => ∃ v', e = .returned (.pointer (some ⟨g, 0, none⟩)) ∧ Bk w' g [.bool (b && decide (n ≠ 0)), v', d] 88 ∧ Wd w' v' (words n) ∧ Keeps w.heap.size [g] w w' :=
 (biset g 88 x y [d] b v n w hb hv hn).mono (by
   rintro e w' ⟨v', rfl, h1, h2, -, h3⟩; exact ⟨v', rfl, h1, h2, h3⟩)
theorem etrimW (v : Value) (n : Nat) (w : World) (hv : Wd w v (words n)) (hn : (words n).length ≤ 1099511627776) :
 Calls Tryz.prog 200 #[v] w fun e w' => ∃ a c, e = .returned (.slice a (words n).length c) ∧ Wd w (.slice a (words n).length c) (words n) ∧ w' = w := by
 refine (etrim v (words n) w hv (words_ok n) hn).mono ?_
 rintro e w' ⟨v', rfl, h1, h2, rfl⟩; rw [val_words] at h1; obtain ⟨a, c, rfl, -, -⟩ := h1.form; exact ⟨a, c, rfl, h1, rfl⟩
theorem eisetR (g : Nat) (x y d : Value) (b : Bool) (v : Value) (n : Nat) (w : World) (hb : Bk w g [x, y, d] 125) (hv : Wd w v (words n)) (hn : (words n).length ≤ 1099511627776) :
 Calls Tryz.prog 201 #[.pointer (some ⟨g, 0, none⟩), .bool b, v] w fun e w' => ∃ v', e = .returned (.pointer (some ⟨g, 0, none⟩)) ∧ Bk w' g [.bool (b && decide (n ≠ 0)), v', d] 125 ∧ Wd w' v' (words n) ∧ Keeps w.heap.size [g] w w' :=
 (eiset g 125 x y [d] b v n w hb hv hn).mono (by
   rintro e w' ⟨v', rfl, h1, h2, -, h3⟩; exact ⟨v', rfl, h1, h2, h3⟩)
set_option maxHeartbeats 8000000 in
theorem brset (g : Nat) (x y d0 : Value) (b : Bool) (va vd : Value) (m n : Nat) (w : World) (hb : Bk w g [x, y, d0] 88) (ha : Wd w va (words m)) (hd : Wd w vd (words n)) (hn0 : n ≠ 0) (hm : (words m).length ≤ 137438953472) (hn : (words n).length ≤ 137438953472) (hvr : Vr w) :
 Calls Tryz.prog 158 #[.pointer (some ⟨g, 0, none⟩), .bool b, va, vd] w fun e w' => e = .returned (.pointer (some ⟨g, 0, none⟩)) ∧ Ra 88 w' g (mkRat (sg b m) n) ∧ Keeps w.heap.size [g] w w' := by
 have TRa := btrimW va m w ha (by omega)
 have TRd := btrimW vd n w hd (by omega)
 haveI : Has w g := ⟨hb.lt⟩; have HB := hid hb; have MP := mk_parts b m n hn0; obtain ⟨r, hr⟩ : ∃ r, r = mkRat (sg b m) n := ⟨_, rfl⟩; rw [← hr] at MP ⊢; by_cases hm0 : m = 0
 · subst hm0; have hz : (words 0).length = 0 := by rw [words_0]; rfl
   rw [hz] at TRa; rw [Nat.gcd_zero_left, Nat.zero_div, Nat.div_self (by omega)] at MP
   have MPH := hid MP; have IS := bisetR g x y d0 false (.slice none 0 0) 0 w hb (by rw [words_0]; exact Wd.nil _) (by rw [hz]; omega)
   clear hr MP hz ha hd hb; generalize (words n).length = ln at TRd; go_enter Tryz.func158, Tryz.ntmps158; go_wp2_with (first | (go_at_call 196; (with_reducible refine TRa.mono ?_); rintro e w' ⟨a1, c1, rfl, hW1, hw⟩; obtain rfl := hw.symm) | (go_at_call 196; (with_reducible refine TRd.mono ?_); rintro e w' ⟨a2, c2, rfl, hW2, hw⟩; obtain rfl := hw.symm) | (go_at_call 171; (with_reducible refine IS.mono ?_); rintro e w3 ⟨v3, rfl, hB3, hv3, hK3⟩; have f2 := hB3.free 2; have c2' := hB3.cell (i := 2) rfl; haveI : Has w3 g := ⟨hB3.lt⟩))
   go_ret
   have hB4 := hB3.set 2 (.slice none 0 0); refine ⟨rfl, ⟨v3, .slice none 0 0, ?_, ?_, .inl ⟨Wd.nil _, ?_⟩⟩, hK3.trans (((Keeps.refl _ _ _).set (Or.inl (by simp)) _ _).mono hK3.size (fun _ _ h => h))⟩
   · rw [MPH.out.1, sg_neg]; cases b <;> exact hB4
   · rw [MPH.out.1, sg_abs]; exact hv3.setB hB3 _ _
   · exact MPH.out.2
 · have hl : (words m).length ≠ 0 := fun e => hm0 (words_len0.1 e)
   have hne : (((words m).length : Int) == 0) = false := beq_eq_false_iff_ne.2 (by omega)
   have G0 : Hid (Nat.gcd m n ≠ 0) := hid (fun e => hm0 (Nat.eq_zero_of_gcd_eq_zero_left e))
   have LG : Hid ((words (Nat.gcd m n)).length ≤ 137438953472) := hid (by
    have h := Nat.gcd_le_left n (Nat.pos_of_ne_zero hm0); have := len_mono h
    omega)
   have LM : Hid ((words (m / Nat.gcd m n)).length ≤ 1099511627776) := hid (by
    have := len_mono (Nat.div_le_self m (Nat.gcd m n))
    omega)
   have MN : Hid (decide (m / Nat.gcd m n ≠ 0) = true) := hid (decide_eq_true (by
    have h := Nat.gcd_le_left n (Nat.pos_of_ne_zero hm0); have h2 := G0.out; have := (Nat.div_pos h (Nat.pos_of_ne_zero h2))
    omega))
   have MPH := hid MP; have HL := hid hm; have HLN := hid hn; have HN0 := hid hn0; have HM0 := hid hm0; have CO := hid (fun va' vd' w' (h : Below w.heap.size w w') (q1 : Wd w' va' (words m)) (q2 : Wd w' vd' (words n)) => bcommon va' vd' m n w' q1 q2 HL.out HLN.out (hvr.below h))
   clear hr MP ha hd hb hl; go_enter Tryz.func158, Tryz.ntmps158; go_upto_region 8 with (first | (go_at_call 196; (with_reducible refine TRa.mono ?_); rintro e w' ⟨a1, c1, rfl, hW1, hw⟩; obtain rfl := hw.symm) | (go_at_call 196; (with_reducible refine TRd.mono ?_); rintro e w' ⟨a2, c2, rfl, hW2, hw⟩; obtain rfl := hw.symm) | (go_at_call 184; (with_reducible refine (CO.out _ _ _ (Below.refl _ _) hW1 hW2).mono ?_); rintro e w1 ⟨vg, rfl, hWg, hFg, hbg⟩))
   generalize Nat.gcd m n = G at *; haveI : Has w1 g := ⟨Nat.lt_of_lt_of_le HB.out.lt hbg.size⟩; have HB1 := hid (HB.out.below hbg); have BG := hid hbg; have BY1 := hid (fun w' (h : Below w1.heap.size w1 w') => bby _ _ m G w' ((hW1.below hbg).below h) (hWg.below h) HL.out LG.out G0.out)
   have W2H := hid (hW2.below hbg); have WGH := hid hWg; have c0 := HB1.out.cell (i := 0) rfl; clear hW1 hW2 hWg hFg hbg TRa TRd CO; go_cut [] from 28 to 35 (fun wx => ∃ v', Hid (Bk wx g [.bool (b && decide (m / G ≠ 0)), v', d0] 88) ∧ Hid (Wd wx v' (words (m / G))) ∧ Hid (Keeps w1.heap.size [g] w1 wx))
   case first =>
    go_region_with (first | (go_at_call 185; (with_reducible refine (BY1.out _ ?_).mono ?_); (focus exact Below.drew (Below.refl _ _)); rintro e w2 ⟨v2, rfl, hv2, hb2⟩; have hB2 : Below w1.heap.size w1 w2 := Below.trans (Below.drew (Below.refl _ _)) hb2; have hBk2 := HB1.out.below hB2) | (go_at_call 171; (with_reducible refine (bisetR g x y d0 b v2 (m / G) w2 hBk2 hv2 LM.out).mono ?_); rintro e w3 ⟨v3, rfl, hBk3, hv3, hk3⟩))
    all_goals
     go_wp2_with fail
     go_meet
     exact ⟨v3, hid hBk3, hid hv3, hid ((Keeps.of_below hB2).trans (hk3.mono hB2.size (fun _ _ h => h)))⟩
   case rest =>
    obtain ⟨v', hBk, hv', hk⟩ := hcut; have f2 := hBk.out.free 2; haveI : Has wc g := ⟨hBk.out.lt⟩; have W2c := hid (W2H.out.keepB HB1.out hk.out); have WGc := hid (WGH.out.keepB HB1.out hk.out); have BY2 := hid (bby _ _ n G wc W2c.out WGc.out HLN.out LG.out G0.out); clear BY1; go_wp2_with (go_at_call 185; refine BY2.out.mono ?_; rintro e w4 ⟨v4, rfl, hv4, hb4⟩; obtain ⟨a4, q4, rfl, -, -⟩ := hv4.form; have hBk4 := hBk.out.below hb4; have f4 := hBk4.free 2; have c4 := hBk4.cell (i := 2) rfl; haveI : Has w4 g := ⟨hBk4.lt⟩)
    go_ret
    have hB5 := hBk4.set 2 (.slice a4 (words (n / G)).length q4); have k4 : Keeps w.heap.size [g] w w4 := ((Keeps.of_below BG.out).trans (hk.out.mono BG.out.size (fun _ _ h => h))).trans ((Keeps.of_below hb4).mono (Nat.le_trans BG.out.size hk.out.size) (fun _ _ h => h))
    refine ⟨rfl, ⟨v', .slice a4 (words (n / G)).length q4, ?_, ?_, .inr ?_⟩, k4.set (Or.inl (by simp)) _ _⟩
    · rw [MPH.out.1, sg_neg]; exact hB5
    · rw [MPH.out.1, sg_abs]; exact (hv'.out.below hb4).setB hBk4 _ _
    · rw [MPH.out.2]; exact hv4.setB hBk4 _ _
set_option maxHeartbeats 8000000 in
theorem erset (g : Nat) (x y d0 : Value) (b : Bool) (va vd : Value) (m n : Nat) (w : World) (hb : Bk w g [x, y, d0] 125) (ha : Wd w va (words m)) (hd : Wd w vd (words n)) (hn0 : n ≠ 0) (hm : (words m).length ≤ 137438953472) (hn : (words n).length ≤ 137438953472) :
 Calls Tryz.prog 146 #[.pointer (some ⟨g, 0, none⟩), .bool b, va, vd] w fun e w' => e = .returned (.pointer (some ⟨g, 0, none⟩)) ∧ Ra 125 w' g (mkRat (sg b m) n) ∧ Keeps w.heap.size [g] w w' := by
 have TRa := etrimW va m w ha (by omega)
 have TRd := etrimW vd n w hd (by omega)
 haveI : Has w g := ⟨hb.lt⟩; have HB := hid hb; have MP := mk_parts b m n hn0; obtain ⟨r, hr⟩ : ∃ r, r = mkRat (sg b m) n := ⟨_, rfl⟩; rw [← hr] at MP ⊢; by_cases hm0 : m = 0
 · subst hm0; have hz : (words 0).length = 0 := by rw [words_0]; rfl
   rw [hz] at TRa; rw [Nat.gcd_zero_left, Nat.zero_div, Nat.div_self (by omega)] at MP
   have MPH := hid MP; have IS := eisetR g x y d0 false (.slice none 0 0) 0 w hb (by rw [words_0]; exact Wd.nil _) (by rw [hz]; omega)
   clear hr MP hz ha hd hb; generalize (words n).length = ln at TRd; go_enter Tryz.func146, Tryz.ntmps146; go_wp2_with (first | (go_at_call 200; (with_reducible refine TRa.mono ?_); rintro e w' ⟨a1, c1, rfl, hW1, hw⟩; obtain rfl := hw.symm) | (go_at_call 200; (with_reducible refine TRd.mono ?_); rintro e w' ⟨a2, c2, rfl, hW2, hw⟩; obtain rfl := hw.symm) | (go_at_call 201; (with_reducible refine IS.mono ?_); rintro e w3 ⟨v3, rfl, hB3, hv3, hK3⟩; have f2 := hB3.free 2; have c2' := hB3.cell (i := 2) rfl; haveI : Has w3 g := ⟨hB3.lt⟩))
   go_ret
   have hB4 := hB3.set 2 (.slice none 0 0); refine ⟨rfl, ⟨v3, .slice none 0 0, ?_, ?_, .inl ⟨Wd.nil _, ?_⟩⟩, hK3.trans (((Keeps.refl _ _ _).set (Or.inl (by simp)) _ _).mono hK3.size (fun _ _ h => h))⟩
   · rw [MPH.out.1, sg_neg]; cases b <;> exact hB4
   · rw [MPH.out.1, sg_abs]; exact hv3.setB hB3 _ _
   · exact MPH.out.2
 · have hl : (words m).length ≠ 0 := fun e => hm0 (words_len0.1 e)
   have hne : (((words m).length : Int) == 0) = false := beq_eq_false_iff_ne.2 (by omega)
   have G0 : Hid (Nat.gcd m n ≠ 0) := hid (fun e => hm0 (Nat.eq_zero_of_gcd_eq_zero_left e))
   have LG : Hid ((words (Nat.gcd m n)).length ≤ 137438953472) := hid (by
    have h := Nat.gcd_le_left n (Nat.pos_of_ne_zero hm0); have := len_mono h
    omega)
   have LM : Hid ((words (m / Nat.gcd m n)).length ≤ 1099511627776) := hid (by
    have := len_mono (Nat.div_le_self m (Nat.gcd m n))
    omega)
   have MN : Hid (decide (m / Nat.gcd m n ≠ 0) = true) := hid (decide_eq_true (by
    have h := Nat.gcd_le_left n (Nat.pos_of_ne_zero hm0); have h2 := G0.out; have := (Nat.div_pos h (Nat.pos_of_ne_zero h2))
    omega))
   have MPH := hid MP; have HL := hid hm; have HLN := hid hn; have HN0 := hid hn0; have HM0 := hid hm0; have CO := hid (fun va' vd' w' (q1 : Wd w' va' (words m)) (q2 : Wd w' vd' (words n)) => ecommon va' vd' m n w' q1 q2 HL.out HLN.out)
   clear hr MP ha hd hb hl; go_enter Tryz.func146, Tryz.ntmps146; go_upto_region 7 with (first | (go_at_call 200; (with_reducible refine TRa.mono ?_); rintro e w' ⟨a1, c1, rfl, hW1, hw⟩; obtain rfl := hw.symm) | (go_at_call 200; (with_reducible refine TRd.mono ?_); rintro e w' ⟨a2, c2, rfl, hW2, hw⟩; obtain rfl := hw.symm))
   clear TRa TRd; have HW1 := hid hW1; have HW2 := hid hW2; clear hW1 hW2; go_cut [33] from 25 to 33 (fun s wx => wx = w ∧ s = .bool (decide (n ≠ 1)))
   case first =>
    rcases one_cases n with ⟨h1, h2⟩ | ⟨x', h1, h2, h3⟩ | ⟨h1, h2⟩
    · have E : Hid (decide (n ≠ 1) = true) := hid (decide_eq_true h2); have e1 : (((words n).length : Int) != 1) = true := bne_iff_ne.2 (by omega)
      have e2 : (((words n).length : Int) == 1) = false := beq_eq_false_iff_ne.2 (by omega)
      clear h2; go_wp2_with fail
      go_meet
      exact ⟨rfl, congrArg Value.bool E.out.symm⟩
    · have E : Hid (decide (n ≠ 1) = true) := hid (decide_eq_true h3); have hl1 : (words n).length = 1 := by rw [h1]; rfl
      have hxq := slice_open HW2.out; obtain ⟨gq, oq, rfl, hgq, hxq⟩ := hxq (by omega)
      have c0 := hxq 0 x' (by rw [h1]; rfl)
      rw [Nat.add_zero] at c0; haveI : Has w gq := ⟨hgq⟩; have e1 : ((1 : Int) != 1) = false := rfl; have e4 : (((words n).length : Int) != 1) = false := by rw [hl1]; rfl
      have e5 : (0 : Int) < ((words n).length : Int) := by omega
      have e2 : ((x' : Int) != 1) = true := bne_iff_ne.2 (by omega)
      have e3 : ((x' : Int) == 1) = false := beq_eq_false_iff_ne.2 (by omega)
      clear h1 h2 h3 hxq hl1; go_wp2_with fail
      go_meet
      exact ⟨rfl, congrArg Value.bool E.out.symm⟩
    · have E : Hid (decide (n ≠ 1) = false) := hid (decide_eq_false (fun h => h h2))
      have hl1 : (words n).length = 1 := by rw [h1]; rfl
      have hxq := slice_open HW2.out; obtain ⟨gq, oq, rfl, hgq, hxq⟩ := hxq (by omega)
      have c0 := hxq 0 1 (by rw [h1]; rfl)
      rw [Nat.add_zero] at c0; haveI : Has w gq := ⟨hgq⟩; have e4 : (((words n).length : Int) != 1) = false := by rw [hl1]; rfl
      have e5 : (0 : Int) < ((words n).length : Int) := by omega
      clear h1 h2 hxq hl1; go_wp2_with fail
      go_meet
      exact ⟨rfl, congrArg Value.bool E.out.symm⟩
   case rest =>
    obtain ⟨rfl, rfl⟩ := hcut; by_cases hn1 : n = 1
    · have e : decide (n ≠ 1) = false := decide_eq_false (fun h => h hn1)
      simp only [e]; have hg1 : Nat.gcd m n = 1 := by rw [hn1, Nat.gcd_one_right]
      rw [hg1, Nat.div_one, Nat.div_one] at MPH; rw [hg1, Nat.div_one] at LM MN; have HBX := HB; have HAX := HW1; have HDX := HW2; have HKX : Hid (Keeps wc.heap.size [g] wc wc) := hid (Keeps.refl _ _ _); clear hn1 e hg1 CO G0 LG; have ISH := hid (fun w' (h : Bk w' g [x, y, d0] 125) (q : Wd w' (.slice a1 (words m).length c1) (words m)) => eisetR g x y d0 b (.slice a1 (words m).length c1) m w' h q (by have := LM.out; have := HL.out; omega))
      go_wp2_with (go_at_call 201; refine (ISH.out _ (HBX.out) (HAX.out)).mono ?_; rintro e w3 ⟨v3, rfl, hBk3, hv3, hk3⟩; have f3 := hBk3.free 2; have c3 := hBk3.cell (i := 2) rfl; haveI : Has w3 g := ⟨hBk3.lt⟩)
      go_ret
      have hB5 := hBk3.set 2 (.slice a2 (words n).length c2); have hd3 := HDX.out.keepB HBX.out hk3; refine ⟨rfl, ⟨v3, (.slice a2 (words n).length c2), ?_, ?_, .inr ?_⟩, (HKX.out.trans (hk3.mono HKX.out.size (fun _ _ h => h))).set (Or.inl (by simp)) _ _⟩
      · rw [MPH.out.1, sg_neg]; exact hB5
      · rw [MPH.out.1, sg_abs]; exact hv3.setB hBk3 _ _
      · rw [MPH.out.2]; exact hd3.setB hBk3 _ _
    · have e : decide (n ≠ 1) = true := decide_eq_true hn1; simp only [e]; clear hn1 e; go_upto_region 9 with (go_at_call 202; refine (CO.out _ _ _ HW1.out HW2.out).mono ?_; rintro e w1 ⟨vg, rfl, hWg, hFg, hbg⟩)
      generalize hGG : Nat.gcd m n = G at *; obtain ⟨ag, cg, rfl, -, -⟩ := hWg.form; have HWG := hid hWg; have BG := hid hbg; have HBX := hid (HB.out.below hbg); have HWA := hid (HW1.out.below hbg); have HWD := hid (HW2.out.below hbg); haveI : Has w1 g := ⟨HBX.out.lt⟩; clear hWg hFg hbg CO hGG; go_cut [45] from 37 to 45 (fun s wx => wx = w1 ∧ s = .bool (decide (G ≠ 1)))
      case first =>
       rcases one_cases G with ⟨h1, h2⟩ | ⟨x', h1, h2, h3⟩ | ⟨h1, h2⟩
       · have E : Hid (decide (G ≠ 1) = true) := hid (decide_eq_true h2); have e1 : (((words G).length : Int) != 1) = true := bne_iff_ne.2 (by omega)
         have e2 : (((words G).length : Int) == 1) = false := beq_eq_false_iff_ne.2 (by omega)
         clear h2; go_wp2_with fail
         go_meet
         exact ⟨rfl, congrArg Value.bool E.out.symm⟩
       · have E : Hid (decide (G ≠ 1) = true) := hid (decide_eq_true h3); have hl1 : (words G).length = 1 := by rw [h1]; rfl
         have hxq := slice_open HWG.out; obtain ⟨gq, oq, rfl, hgq, hxq⟩ := hxq (by omega)
         have c0 := hxq 0 x' (by rw [h1]; rfl)
         rw [Nat.add_zero] at c0; haveI : Has w1 gq := ⟨hgq⟩; have e1 : ((1 : Int) != 1) = false := rfl; have e4 : (((words G).length : Int) != 1) = false := by rw [hl1]; rfl
         have e5 : (0 : Int) < ((words G).length : Int) := by omega
         have e2 : ((x' : Int) != 1) = true := bne_iff_ne.2 (by omega)
         have e3 : ((x' : Int) == 1) = false := beq_eq_false_iff_ne.2 (by omega)
         clear h1 h2 h3 hxq hl1; go_wp2_with fail
         go_meet
         exact ⟨rfl, congrArg Value.bool E.out.symm⟩
       · have E : Hid (decide (G ≠ 1) = false) := hid (decide_eq_false (fun h => h h2))
         have hl1 : (words G).length = 1 := by rw [h1]; rfl
         have hxq := slice_open HWG.out; obtain ⟨gq, oq, rfl, hgq, hxq⟩ := hxq (by omega)
         have c0 := hxq 0 1 (by rw [h1]; rfl)
         rw [Nat.add_zero] at c0; haveI : Has w1 gq := ⟨hgq⟩; have e4 : (((words G).length : Int) != 1) = false := by rw [hl1]; rfl
         have e5 : (0 : Int) < ((words G).length : Int) := by omega
         clear h1 h2 hxq hl1; go_wp2_with fail
         go_meet
         exact ⟨rfl, congrArg Value.bool E.out.symm⟩
      case rest =>
       obtain ⟨rfl, rfl⟩ := hcut; by_cases hg1 : G = 1
       · have e : decide (G ≠ 1) = false := decide_eq_false (fun h => h hg1)
         simp only [e]; subst hg1; rw [Nat.div_one, Nat.div_one] at MPH; rw [Nat.div_one] at LM MN; have HAX := HWA; have HDX := HWD; have HKX := hid (Keeps.of_below (S := [g]) BG.out); clear e G0 LG; have ISH := hid (fun w' (h : Bk w' g [x, y, d0] 125) (q : Wd w' (.slice a1 (words m).length c1) (words m)) => eisetR g x y d0 b (.slice a1 (words m).length c1) m w' h q (by have := LM.out; have := HL.out; omega))
         go_wp2_with (go_at_call 201; refine (ISH.out _ (HBX.out) (HAX.out)).mono ?_; rintro e w3 ⟨v3, rfl, hBk3, hv3, hk3⟩; have f3 := hBk3.free 2; have c3 := hBk3.cell (i := 2) rfl; haveI : Has w3 g := ⟨hBk3.lt⟩)
         go_ret
         have hB5 := hBk3.set 2 (.slice a2 (words n).length c2); have hd3 := HDX.out.keepB HBX.out hk3; refine ⟨rfl, ⟨v3, (.slice a2 (words n).length c2), ?_, ?_, .inr ?_⟩, (HKX.out.trans (hk3.mono HKX.out.size (fun _ _ h => h))).set (Or.inl (by simp)) _ _⟩
         · rw [MPH.out.1, sg_neg]; exact hB5
         · rw [MPH.out.1, sg_abs]; exact hv3.setB hBk3 _ _
         · rw [MPH.out.2]; exact hd3.setB hBk3 _ _
       · have e : decide (G ≠ 1) = true := decide_eq_true hg1; simp only [e]; have D1 := hid (ediv _ _ m G wc HWA.out HWG.out HL.out LG.out G0.out); have D2 := hid (fun w' (h : Below wc.heap.size wc w') => ediv _ _ n G w' (HWD.out.below h) (HWG.out.below h) HLN.out LG.out G0.out)
         clear hg1 e; go_upto_region 12 with (first | (go_at_call 203; (with_reducible refine D1.out.mono ?_); rintro e w5 ⟨q5, r5, rfl, hq5, -, -, -, hb5⟩; have hq5x := hq5) | (go_at_call 203; (with_reducible refine (D2.out _ hb5).mono ?_); rintro e w6 ⟨q6, r6, rfl, hq6, -, -, -, hb6⟩))
         obtain ⟨a6, c6, rfl, -, -⟩ := hq6.form; have b56 : Below wc.heap.size wc w6 := Below.trans hb5 (below_low hb6 hb5.size); have HBX2 := hid (HBX.out.below b56); have HAX := hid (hq5.below hb6); have HDX := hid hq6; have HKX := hid (Keeps.of_below (S := [g]) (Below.trans BG.out (below_low b56 BG.out.size))); clear hq5 hq6 hb5 hb6 b56 D1 D2 hq5x HBX; have HBX := HBX2; haveI : Has w6 g := ⟨HBX.out.lt⟩; have ISH := hid (fun w' (h : Bk w' g [x, y, d0] 125) (q : Wd w' q5 (words (m / G))) => eisetR g x y d0 b q5 (m / G) w' h q (by have := LM.out; omega))
         go_wp2_with (go_at_call 201; refine (ISH.out _ (HBX.out) (HAX.out)).mono ?_; rintro e w3 ⟨v3, rfl, hBk3, hv3, hk3⟩; have f3 := hBk3.free 2; have c3 := hBk3.cell (i := 2) rfl; haveI : Has w3 g := ⟨hBk3.lt⟩)
         go_ret
         have hB5 := hBk3.set 2 (.slice a6 (words (n / G)).length c6); have hd3 := HDX.out.keepB HBX.out hk3; refine ⟨rfl, ⟨v3, (.slice a6 (words (n / G)).length c6), ?_, ?_, .inr ?_⟩, (HKX.out.trans (hk3.mono HKX.out.size (fun _ _ h => h))).set (Or.inl (by simp)) _ _⟩
         · rw [MPH.out.1, sg_neg]; exact hB5
         · rw [MPH.out.1, sg_abs]; exact hv3.setB hBk3 _ _
         · rw [MPH.out.2]; exact hd3.setB hBk3 _ _
theorem times_plain {A D B C : Nat} (b : Bool) (hD : D ≠ 0) (hC : C ≠ 0) (hA : A ≠ 0) (hB : B ≠ 0) (h1 : A.Coprime D) (h2 : B.Coprime C) :
 (mkRat (sg b (A * B)) (D * C)).num = sg b (A / Nat.gcd A C * (B / Nat.gcd B D)) ∧ (mkRat (sg b (A * B)) (D * C)).den = D / Nat.gcd B D * (C / Nat.gcd A C) := by
 have g0 : 0 < Nat.gcd A C := Nat.gcd_pos_of_pos_left _ (Nat.pos_of_ne_zero hA); have k0 : 0 < Nat.gcd B D := Nat.gcd_pos_of_pos_left _ (Nat.pos_of_ne_zero hB); have c1 := Nat.coprime_div_gcd_div_gcd g0; have c2 := Nat.coprime_div_gcd_div_gcd k0; have dA := Nat.gcd_dvd_left A C; have dC := Nat.gcd_dvd_right A C; have dB := Nat.gcd_dvd_left B D; have dD := Nat.gcd_dvd_right B D; generalize Nat.gcd A C = g at *; generalize Nat.gcd B D = k at *; obtain ⟨A', rfl⟩ := dA; obtain ⟨C', rfl⟩ := dC; obtain ⟨B', rfl⟩ := dB; obtain ⟨D', rfl⟩ := dD; rw [Nat.mul_div_cancel_left _ g0, Nat.mul_div_cancel_left _ g0] at c1; rw [Nat.mul_div_cancel_left _ k0, Nat.mul_div_cancel_left _ k0] at c2; rw [Nat.mul_div_cancel_left _ g0, Nat.mul_div_cancel_left _ g0, Nat.mul_div_cancel_left _ k0, Nat.mul_div_cancel_left _ k0]; have c3 : A'.Coprime D' := (h1.coprime_dvd_left (Nat.dvd_mul_left _ _)).coprime_dvd_right (Nat.dvd_mul_left _ _); have c4 : B'.Coprime C' := (h2.coprime_dvd_left (Nat.dvd_mul_left _ _)).coprime_dvd_right (Nat.dvd_mul_left _ _)
 have hc : (sg b (A' * B')).natAbs.Coprime (D' * C') := by
  rw [sg_abs]; exact Nat.Coprime.mul_left (Nat.Coprime.mul_right c3 c1) (Nat.Coprime.mul_right c2 c4)
 have hne : D' * C' ≠ 0 := fun e => by
  rcases Nat.mul_eq_zero.1 e with e | e
  · exact hD (by rw [e, Nat.mul_zero])
  · exact hC (by rw [e, Nat.mul_zero])
 refine rat_mk hne hc ?_
 have hgk : g * k ≠ 0 := Nat.mul_ne_zero (by omega) (by omega)
 have e1 : sg b (g * A' * (k * B')) = sg b (A' * B') * ((g * k : Nat) : Int) := by
  have : g * A' * (k * B') = A' * B' * (g * k) := by grind
  rw [this]; cases b
  · simp [sg]
  · simp only [sg, if_true, Int.natCast_mul, Int.neg_mul]
 have e2 : k * D' * (g * C') = D' * C' * (g * k) := by grind
 rw [e1, e2, Rat.mkRat_mul_right hgk]
theorem sg_mul (x y : Int) : sg (decide (x < 0) != decide (y < 0)) (x.natAbs * y.natAbs) = x * y := by
 conv => rhs; rw [sg_of x, sg_of y]
 generalize x.natAbs = a; generalize y.natAbs = b; by_cases h1 : x < 0 <;> by_cases h2 : y < 0 <;> simp [h1, h2, sg] <;> grind
theorem rat_mul_mk (x y : _root_.Rat) : mkRat (sg (decide (x.num < 0) != decide (y.num < 0)) (x.num.natAbs * y.num.natAbs)) (x.den * y.den) = x * y := by
 rw [sg_mul, Rat.mul_def, Rat.normalize_eq_mkRat]
theorem rat_div_mk (x y : _root_.Rat) (h : y.num ≠ 0) : mkRat (sg (decide (x.num < 0) != decide (y.num < 0)) (x.num.natAbs * y.den)) (x.den * y.num.natAbs) = x / y := by
 have e : y⁻¹ = mkRat (sg (decide (y.num < 0)) y.den) y.num.natAbs := by
  have h0 : y.num.natAbs ≠ 0 := by omega
  rw [Rat.inv_def, Rat.divInt_eq_div, Rat.mkRat_eq_div]
  conv => lhs; rw [sg_of y.num]
  by_cases hn : y.num < 0
  · rw [decide_eq_true hn]; simp only [sg, if_true, Rat.intCast_neg, Rat.div_def, Rat.intCast_natCast]; generalize (y.num.natAbs : _root_.Rat) = p; generalize (y.den : _root_.Rat) = q
    grind
  · rw [decide_eq_false hn]; simp only [sg, Bool.false_eq_true, if_false]; rfl
 rw [Rat.div_def, e]
 conv => rhs; rw [← Rat.mkRat_self x, Rat.mkRat_mul_mkRat]
 congr 1
 conv => rhs; lhs; rw [sg_of x.num]
 by_cases h1 : x.num < 0 <;> by_cases h2 : y.num < 0 <;> simp [h1, h2, sg] <;> grind
set_option maxHeartbeats 8000000 in
theorem btimes (g : Nat) (x y d0 : Value) (b : Bool) (va vd vb vc : Value) (A D B C : Nat) (w : World) (hb : Bk w g [x, y, d0] 88) (ha : Wd w va (words A)) (hd : Wd w vd (words D)) (hB : Wd w vb (words B)) (hC : Wd w vc (words C)) (hD0 : D ≠ 0) (hC0 : C ≠ 0) (c1 : A.Coprime D) (c2 : B.Coprime C)
 (lA : (words A).length ≤ 34359738368) (lD : (words D).length ≤ 34359738368) (lB : (words B).length ≤ 34359738368) (lC : (words C).length ≤ 34359738368) (hvr : Vr w) :
 Calls Tryz.prog 133 #[.pointer (some ⟨g, 0, none⟩), .bool b, va, vd, vb, vc] w fun e w' => e = .returned (.pointer (some ⟨g, 0, none⟩)) ∧ Ra 88 w' g (mkRat (sg b (A * B)) (D * C)) ∧ Keeps w.heap.size [g] w w' := by
 obtain ⟨r, hr⟩ : ∃ r, r = mkRat (sg b (A * B)) (D * C) := ⟨_, rfl⟩; rw [← hr]; haveI : Has w g := ⟨hb.lt⟩; have HB := hid hb; by_cases h0 : A = 0 ∨ B = 0
 · have hr0 : mkRat (sg false 0) 1 = r := by
    rw [hr, Nat.mul_eq_zero.2 h0]; cases b <;> simp [sg, Rat.zero_mkRat]
   have R1 : Hid (Wd (w.alloc (.cells #[.int .u32 1] 190)) (.slice (some ⟨w.heap.size, 0, none⟩) 1 1) (words 1)) := hid (by
    have q : Ro (w.alloc (.cells #[.int .u32 1] 190)) w.heap.size [1] := by unfold Ro; simp only [block_at]; rfl
    rw [words_one]; exact q.wd (cap := 1) (Nat.le_refl _))
   have BA : Hid (Below w.heap.size w (w.alloc (.cells #[.int .u32 1] 190))) := hid (Below.alloc (Below.refl _ _) (Nat.le_refl _) _); have RS := hid (brset g x y d0 false (.slice none 0 0) (.slice (some ⟨w.heap.size, 0, none⟩) 1 1) 0 1 _ (HB.out.below BA.out) (by rw [words_0]; exact Wd.nil _) R1.out (by decide) (by rw [words_0]; simp) (by rw [words_one]; simp) (hvr.below BA.out))
   rw [hr0] at RS; have hz : (words 0).length = 0 := by rw [words_0]; rfl
   obtain ⟨aa, ca, rfl, -, -⟩ := ha.form; obtain ⟨ab, cb, rfl, -, -⟩ := hB.form; clear hr hr0 hb hd hC; by_cases hA0 : A = 0
   · subst hA0; rw [hz]; clear h0 ha hB hz; go_enter Tryz.func133, Tryz.ntmps133; go_wp2_with (go_at_call 158; refine RS.out.mono ?_; rintro e w' ⟨rfl, h1, h2⟩)
     go_ret
     exact ⟨rfl, h1, (Keeps.of_below BA.out).trans (h2.mono BA.out.size (fun _ _ h => h))⟩
   · obtain rfl : B = 0 := by omega
     have hl : (words A).length ≠ 0 := fun e => hA0 (words_len0.1 e)
     have e1 : (((words A).length : Int) == 0) = false := beq_eq_false_iff_ne.2 (by omega)
     rw [hz]; clear h0 ha hB hz hl hA0; go_enter Tryz.func133, Tryz.ntmps133; go_wp2_with (go_at_call 158; refine RS.out.mono ?_; rintro e w' ⟨rfl, h1, h2⟩)
     go_ret
     exact ⟨rfl, h1, (Keeps.of_below BA.out).trans (h2.mono BA.out.size (fun _ _ h => h))⟩
 · have hA0 : A ≠ 0 := fun e => h0 (.inl e)
   have hB0 : B ≠ 0 := fun e => h0 (.inr e)
   have TP := times_plain b hD0 hC0 hA0 hB0 c1 c2; rw [← hr] at TP; obtain ⟨G, hG⟩ : ∃ G, G = Nat.gcd A C := ⟨_, rfl⟩; obtain ⟨K, hK⟩ : ∃ K, K = Nat.gcd B D := ⟨_, rfl⟩; have hG0 : G ≠ 0 := fun e => hA0 (Nat.eq_zero_of_gcd_eq_zero_left (hG.symm.trans e))
   have hK0 : K ≠ 0 := fun e => hB0 (Nat.eq_zero_of_gcd_eq_zero_left (hK.symm.trans e))
   have lG : (words G).length ≤ 34359738368 := by
    have h := Nat.gcd_le_left C (Nat.pos_of_ne_zero hA0); rw [← hG] at h; have := len_mono h; omega
   have lK : (words K).length ≤ 34359738368 := by
    have h := Nat.gcd_le_left D (Nat.pos_of_ne_zero hB0); rw [← hK] at h; have := len_mono h; omega
   have CO1 := hid (fun w' (h : Below w.heap.size w w') => bcommon va vc A C w' (ha.below h) (hC.below h) (by omega) (by omega) (hvr.below h))
   have CO2 := hid (fun w' (h : Below w.heap.size w w') => bcommon vb vd B D w' (hB.below h) (hd.below h) (by omega) (by omega) (hvr.below h))
   have BYA := hid (fun v w' (h : Below w.heap.size w w') (q : Wd w' v (words G)) => bby va v A G w' (ha.below h) q (by omega) (by omega) hG0)
   have BYB := hid (fun v w' (h : Below w.heap.size w w') (q : Wd w' v (words K)) => bby vb v B K w' (hB.below h) q (by omega) (by omega) hK0)
   have BYD := hid (fun v w' (h : Below w.heap.size w w') (q : Wd w' v (words K)) => bby vd v D K w' (hd.below h) q (by omega) (by omega) hK0)
   have BYC := hid (fun v w' (h : Below w.heap.size w w') (q : Wd w' v (words G)) => bby vc v C G w' (hC.below h) q (by omega) (by omega) hG0)
   rw [← hG] at CO1; rw [← hK] at CO2; rw [← hG, ← hK] at TP; have lq1 := len_mono (Nat.div_le_self A G); have lq2 := len_mono (Nat.div_le_self B K); have lq3 := len_mono (Nat.div_le_self D K); have lq4 := len_mono (Nat.div_le_self C G); have lm1 := mul_len (A / G) (B / K)
   have hN0 : A / G * (B / K) ≠ 0 := Nat.mul_ne_zero (by
    have h := Nat.gcd_le_left C (Nat.pos_of_ne_zero hA0); rw [← hG] at h; have := Nat.div_pos h (Nat.pos_of_ne_zero hG0)
    omega) (by
    have h := Nat.gcd_le_left D (Nat.pos_of_ne_zero hB0); rw [← hK] at h; have := Nat.div_pos h (Nat.pos_of_ne_zero hK0)
    omega)
   have hAl : (words A).length ≠ 0 := fun e => hA0 (words_len0.1 e)
   have hBl : (words B).length ≠ 0 := fun e => hB0 (words_len0.1 e)
   obtain ⟨N, hN⟩ : ∃ N, N = A / G * (B / K) := ⟨_, rfl⟩; obtain ⟨M, hM⟩ : ∃ M, M = D / K * (C / G) := ⟨_, rfl⟩; have MU1 := hid (fun v1 v2 w' (q1 : Wd w' v1 (words (A / G))) (q2 : Wd w' v2 (words (B / K))) => bmulW v1 v2 (A / G) (B / K) w' q1 q2 (by omega))
   have MU2 := hid (fun v1 v2 w' (q1 : Wd w' v1 (words (D / K))) (q2 : Wd w' v2 (words (C / G))) => bmulW v1 v2 (D / K) (C / G) w' q1 q2 (by omega))
   rw [← hN] at MU1 TP lm1 hN0; rw [← hM] at MU2 TP; have TPH := hid TP; have LN : Hid ((words N).length ≤ 1099511627776) := hid (by omega)
   have N0 : Hid (decide (N ≠ 0) = true) := hid (decide_eq_true hN0); generalize A / G = A1 at *; generalize B / K = B1 at *; generalize D / K = D1 at *; generalize C / G = C1 at *; obtain ⟨aa, ca, rfl, -, -⟩ := ha.form; obtain ⟨ab, cb, rfl, -, -⟩ := hB.form; obtain ⟨la, hla⟩ : ∃ la, la = (words A).length := ⟨_, rfl⟩; obtain ⟨lb, hlb⟩ : ∃ lb, lb = (words B).length := ⟨_, rfl⟩; simp only [← hla, ← hlb] at CO1 CO2 BYA BYB hAl hBl ⊢; have e1 : ((la : Int) == 0) = false := beq_eq_false_iff_ne.2 (by omega)
   have e2 : ((lb : Int) == 0) = false := beq_eq_false_iff_ne.2 (by omega)
   clear hr hb ha hd hB hC h0 hA0 hB0 TP hG hK hG0 hK0 lG lK lq1 lq2 lq3 lq4 lm1 hN0 hAl hBl hN hM hla hlb lA lD lB lC c1 c2; go_enter Tryz.func133, Tryz.ntmps133; go_wp2_with (first | (go_at_call 184; (with_reducible refine (CO1.out _ (Below.refl _ _)).mono ?_); rintro e w1 ⟨vg, rfl, hg1, -, hb1⟩) | (go_at_call 184; (with_reducible refine (CO2.out _ hb1).mono ?_); rintro e w2 ⟨vk, rfl, hk2, -, h2⟩; have hb2 := Below.trans hb1 (below_low h2 hb1.size); have hg2 := hg1.below h2) | (go_at_call 185; (with_reducible refine (BYA.out _ _ hb2 hg2).mono ?_); rintro e w3 ⟨vA, rfl, hA3, h3⟩; have hb3 := Below.trans hb2 (below_low h3 hb2.size); have hg3 := hg2.below h3; have hk3 := hk2.below h3) | (go_at_call 185; (with_reducible refine (BYB.out _ _ hb3 hk3).mono ?_); rintro e w4 ⟨vB, rfl, hB4, h4⟩; have hb4 := Below.trans hb3 (below_low h4 hb3.size); have hg4 := hg3.below h4; have hk4 := hk3.below h4; have hA4 := hA3.below h4) | (go_at_call 142; (with_reducible refine (MU1.out _ _ _ hA4 hB4).mono ?_); rintro e w5 ⟨vN, rfl, hN5, -, h5⟩; have hb5 := Below.trans hb4 (below_low h5 hb4.size); have hg5 := hg4.below h5; have hk5 := hk4.below h5) | (go_at_call 185; (with_reducible refine (BYD.out _ _ hb5 hk5).mono ?_); rintro e w6 ⟨vD, rfl, hD6, h6⟩; have hb6 := Below.trans hb5 (below_low h6 hb5.size); have hg6 := hg5.below h6; have hN6 := hN5.below h6) | (go_at_call 185; (with_reducible refine (BYC.out _ _ hb6 hg6).mono ?_); rintro e w7 ⟨vC, rfl, hC7, h7⟩; have hb7 := Below.trans hb6 (below_low h7 hb6.size); have hD7 := hD6.below h7; have hN7 := hN6.below h7) | (go_at_call 142; (with_reducible refine (MU2.out _ _ _ hD7 hC7).mono ?_); rintro e w8 ⟨vM, rfl, hM8, -, h8⟩; obtain ⟨aM, cM, rfl, -, -⟩ := hM8.form; have hb8 := Below.trans hb7 (below_low h8 hb7.size); have hN8 := hN7.below h8; have hBk8 := HB.out.below hb8) | (go_at_call 171; (with_reducible refine (bisetR g x y d0 b _ N w8 hBk8 hN8 LN.out).mono ?_); rintro e w9 ⟨v9, rfl, hBk9, hv9, hk9⟩; have f9 := hBk9.free 2; have c9 := hBk9.cell (i := 2) rfl; haveI : Has w9 g := ⟨hBk9.lt⟩; have hM9 := hM8.keepB hBk8 hk9))
   go_ret
   have hB5 := hBk9.set 2 (.slice aM (words M).length cM); refine ⟨rfl, ⟨v9, .slice aM (words M).length cM, ?_, ?_, .inr ?_⟩, ((Keeps.of_below hb8).trans (hk9.mono hb8.size (fun _ _ h => h))).set (Or.inl (by simp)) _ _⟩
   · rw [TPH.out.1, sg_neg]; exact hB5
   · rw [TPH.out.1, sg_abs]; exact hv9.setB hBk9 _ _
   · rw [TPH.out.2]; exact hM9.setB hBk9 _ _
theorem rat_mul_mk' (x y : _root_.Rat) : mkRat (sg (!(decide (x.num < 0) == decide (y.num < 0))) (x.num.natAbs * y.num.natAbs)) (x.den * y.den) = x * y := rat_mul_mk x y
theorem rat_div_mk' (x y : _root_.Rat) (h : y.num ≠ 0) : mkRat (sg (!(decide (x.num < 0) == decide (y.num < 0))) (x.num.natAbs * y.den)) (x.den * y.num.natAbs) = x / y := rat_div_mk x y h
set_option maxHeartbeats 8000000 in
theorem brmul (gz gx gy : Nat) (z0 z1 z2 : Value) (x y : _root_.Rat) (w : World) (hz : Bk w gz [z0, z1, z2] 88) (hx : Ra 88 w gx x) (hy : Ra 88 w gy y) (lx : (words x.num.natAbs).length ≤ 34359738368) (mx : (words x.den).length ≤ 34359738368) (ly : (words y.num.natAbs).length ≤ 34359738368) (my : (words y.den).length ≤ 34359738368) (hvr : Vr w) (hzx : gx ≠ gz) (hzy : gy ≠ gz) :
 Calls Tryz.prog 106 #[.pointer (some ⟨gz, 0, none⟩), .pointer (some ⟨gx, 0, none⟩), .pointer (some ⟨gy, 0, none⟩)] w fun e w' => e = .returned (.pointer (some ⟨gz, 0, none⟩)) ∧ Ra 88 w' gz (x * y) ∧ Keeps w.heap.size [gz] w w' := by
 obtain ⟨vx, dx, bx, wx, ex⟩ := hx; obtain ⟨vy, dy, by_, wy, ey⟩ := hy; have TI := hid (fun vd vc w' (h : Below w.heap.size w w') (q1 : Wd w' vd (words x.den)) (q2 : Wd w' vc (words y.den)) => btimes gz z0 z1 z2 (!(decide (x.num < 0) == decide (y.num < 0))) vx vd vy vc x.num.natAbs x.den y.num.natAbs y.den w' (hz.below h) (wx.below h) q1 (wy.below h) q2 x.den_nz y.den_nz x.reduced y.reduced lx mx ly my (hvr.below h))
 rw [rat_mul_mk'] at TI; have B1 := hid (fun w' (h : Below w.heap.size w w') => bbelow gx _ vx dx x.den w' (bx.below h) (ex.below h) x.den_nz)
 have B2 := hid (fun w' (h : Below w.heap.size w w') => bbelow gy _ vy dy y.den w' (by_.below h) (ey.below h) y.den_nz)
 obtain ⟨ax, cx, rfl, -, -⟩ := wx.form; obtain ⟨ay, cy, rfl, -, -⟩ := wy.form; have BX := hid bx; have BZ := hid hz; have ZX := hid hzx; have ZY := hid hzy; have BY := hid by_; obtain ⟨r, hr⟩ : ∃ r, r = x * y := ⟨_, rfl⟩; rw [← hr] at TI ⊢; clear hr lx ly mx my; generalize (words x.num.natAbs).length = kx at *; generalize (words y.num.natAbs).length = ky at *; generalize decide (x.num < 0) = nx at *; generalize decide (y.num < 0) = ny at *; have x0 := bx.cell (i := 0) rfl; have x1 := bx.cell (i := 1) rfl; have y0 := by_.cell (i := 0) rfl; have y1 := by_.cell (i := 1) rfl; haveI : Has w gx := ⟨bx.lt⟩; haveI : Has w gy := ⟨by_.lt⟩; clear bx by_ wx wy ex ey hz hzx hzy; go_enter Tryz.func106, Tryz.ntmps106; go_wp2_with fail
 go_region_held3 (fun W => W.cell? ⟨gx, 0, none⟩ = some (.bool nx) ∧ W.cell? ⟨gx, 1, none⟩ = some (.slice ax kx cx) ∧ W.cell? ⟨gy, 0, none⟩ = some (.bool ny) ∧ W.cell? ⟨gy, 1, none⟩ = some (.slice ay ky cy)) (refine ⟨?_, ?_, ?_, ?_⟩ <;> (first | assumption | (simp [go_sem, *]; done))) (first | (go_at_call 126; (with_reducible refine (B1.out _ ?_).mono ?_); (focus (first | assumption | exact Below.drew (Below.refl _ _))); rintro e w1 ⟨v1, rfl, h1, hb⟩; have hb1 := Below.trans (Below.drew (Below.refl w.heap.size w)) hb; have x01 := (BX.out.below hb1).cell (i := 0) rfl; have x11 := (BX.out.below hb1).cell (i := 1) rfl; have y01 := (BY.out.below hb1).cell (i := 0) rfl; have y11 := (BY.out.below hb1).cell (i := 1) rfl) | (go_at_call 126; (with_reducible refine (B2.out _ ?_).mono ?_); (focus (first | assumption | exact Below.drew (Below.refl _ _))); rintro e w2 ⟨v2, rfl, h2, hc⟩; have h12 := h1.below hc; have hb2 := Below.trans hb1 (below_low hc hb1.size); have x02 := (BX.out.below hb2).cell (i := 0) rfl; have x12 := (BX.out.below hb2).cell (i := 1) rfl; have y02 := (BY.out.below hb2).cell (i := 0) rfl; have y12 := (BY.out.below hb2).cell (i := 1) rfl) | (go_at_call 133; (with_reducible refine (TI.out _ _ _ hb2 h12 h2).mono ?_); rintro e w3 ⟨rfl, hr3, hk3⟩; have x03 := ((BX.out.below hb2).keep hk3 (Nat.le_refl _) (by simpa using ZX.out)).cell (i := 0) rfl; have x13 := ((BX.out.below hb2).keep hk3 (Nat.le_refl _) (by simpa using ZX.out)).cell (i := 1) rfl; have y03 := ((BY.out.below hb2).keep hk3 (Nat.le_refl _) (by simpa using ZY.out)).cell (i := 0) rfl; have y13 := ((BY.out.below hb2).keep hk3 (Nat.le_refl _) (by simpa using ZY.out)).cell (i := 1) rfl))
 all_goals
  go_wp2_with fail
  go_ret
  exact ⟨rfl, hr3, (Keeps.of_below hb2).trans (hk3.mono hb2.size (fun _ _ h => h))⟩
theorem brquo (gz gx gy : Nat) (z0 z1 z2 : Value) (x y : _root_.Rat) (w : World) (hz : Bk w gz [z0, z1, z2] 88) (hx : Ra 88 w gx x) (hy : Ra 88 w gy y) (lx : (words x.num.natAbs).length ≤ 34359738368) (mx : (words x.den).length ≤ 34359738368) (ly : (words y.num.natAbs).length ≤ 34359738368) (my : (words y.den).length ≤ 34359738368) (hzx : gx ≠ gz) (hzy : gy ≠ gz) (hvr : Vr w) (hy0 : y.num ≠ 0) :
 Calls Tryz.prog 87 #[.pointer (some ⟨gz, 0, none⟩), .pointer (some ⟨gx, 0, none⟩), .pointer (some ⟨gy, 0, none⟩)] w fun e w' => e = .returned (.pointer (some ⟨gz, 0, none⟩)) ∧ Ra 88 w' gz (x / y) ∧ Keeps w.heap.size [gz] w w' := by
 obtain ⟨vx, dx, bx, wx, ex⟩ := hx; obtain ⟨vy, dy, by_, wy, ey⟩ := hy; have TI := hid (fun vd vc w' (h : Below w.heap.size w w') (q1 : Wd w' vd (words x.den)) (q2 : Wd w' vc (words y.den)) => btimes gz z0 z1 z2 (!(decide (x.num < 0) == decide (y.num < 0))) vx vd vc vy x.num.natAbs x.den y.den y.num.natAbs w' (hz.below h) (wx.below h) q1 q2 (wy.below h) x.den_nz (by omega) x.reduced y.reduced.symm lx mx my ly (hvr.below h))
 rw [rat_div_mk' x y hy0] at TI; have B1 := hid (fun w' (h : Below w.heap.size w w') => bbelow gx _ vx dx x.den w' (bx.below h) (ex.below h) x.den_nz)
 have B2 := hid (fun w' (h : Below w.heap.size w w') => bbelow gy _ vy dy y.den w' (by_.below h) (ey.below h) y.den_nz)
 obtain ⟨ax, cx, rfl, -, -⟩ := wx.form; obtain ⟨ay, cy, rfl, -, -⟩ := wy.form; have BX := hid bx; have BY := hid by_; have BZ := hid hz; have ZX := hid hzx; have ZY := hid hzy; obtain ⟨r, hr⟩ : ∃ r, r = x / y := ⟨_, rfl⟩; rw [← hr] at TI ⊢; clear hr lx ly mx my hzx hzy; generalize (words x.num.natAbs).length = kx at *; generalize (words y.num.natAbs).length = ky at *; generalize decide (x.num < 0) = nx at *; generalize decide (y.num < 0) = ny at *; have x0 := bx.cell (i := 0) rfl; have x1 := bx.cell (i := 1) rfl; have y0 := by_.cell (i := 0) rfl; have y1 := by_.cell (i := 1) rfl; haveI : Has w gx := ⟨bx.lt⟩; haveI : Has w gy := ⟨by_.lt⟩; clear bx by_ wx wy ex ey hz; go_enter Tryz.func87, Tryz.ntmps87; go_wp2_with fail
 go_region_held3 (fun W => W.cell? ⟨gx, 0, none⟩ = some (.bool nx) ∧ W.cell? ⟨gx, 1, none⟩ = some (.slice ax kx cx) ∧ W.cell? ⟨gy, 0, none⟩ = some (.bool ny) ∧ W.cell? ⟨gy, 1, none⟩ = some (.slice ay ky cy)) (refine ⟨?_, ?_, ?_, ?_⟩ <;> (first | assumption | (simp [go_sem, *]; done))) (first | (go_at_call 126; (with_reducible refine (B1.out _ ?_).mono ?_); (focus (first | assumption | exact Below.drew (Below.refl _ _))); rintro e w1 ⟨v1, rfl, h1, hq1⟩; have hb1 := Below.trans (Below.drew (Below.refl w.heap.size w)) hq1; have x01 := (BX.out.below hb1).cell (i := 0) rfl; have x11 := (BX.out.below hb1).cell (i := 1) rfl; have y01 := (BY.out.below hb1).cell (i := 0) rfl; have y11 := (BY.out.below hb1).cell (i := 1) rfl) | (go_at_call 126; (with_reducible refine (B2.out _ ?_).mono ?_); (focus (first | assumption | exact Below.drew (Below.refl _ _))); rintro e w2 ⟨v2, rfl, h2, hq2⟩; have h12 := h1.below hq2; have hb2 := Below.trans hb1 (below_low hq2 hb1.size); have hbl := hb2; have x02 := (BX.out.below hb2).cell (i := 0) rfl; have x12 := (BX.out.below hb2).cell (i := 1) rfl; have y02 := (BY.out.below hb2).cell (i := 0) rfl; have y12 := (BY.out.below hb2).cell (i := 1) rfl) | (go_at_call 133; (with_reducible refine (TI.out _ _ _ hb2 h12 h2).mono ?_); rintro e wz ⟨rfl, hrz, hkz⟩; have y0z := ((BY.out.below hb2).keep hkz (Nat.le_refl _) (by simpa using ZY.out)).cell (i := 0) rfl; have y1z := ((BY.out.below hb2).keep hkz (Nat.le_refl _) (by simpa using ZY.out)).cell (i := 1) rfl; have x0z := ((BX.out.below hb2).keep hkz (Nat.le_refl _) (by simpa using ZX.out)).cell (i := 0) rfl; have x1z := ((BX.out.below hb2).keep hkz (Nat.le_refl _) (by simpa using ZX.out)).cell (i := 1) rfl))
 all_goals
  go_wp2_with fail
  go_ret
  exact ⟨rfl, hrz, (Keeps.of_below hbl).trans (hkz.mono hbl.size (fun _ _ h => h))⟩
theorem ermul (gz gx gy : Nat) (z0 z1 z2 : Value) (x y : _root_.Rat) (w : World) (hz : Bk w gz [z0, z1, z2] 125) (hx : Ra 125 w gx x) (hy : Ra 125 w gy y) (lx : (words x.num.natAbs).length ≤ 34359738368) (mx : (words x.den).length ≤ 34359738368) (ly : (words y.num.natAbs).length ≤ 34359738368) (my : (words y.den).length ≤ 34359738368) (hzx : gx ≠ gz) (hzy : gy ≠ gz) :
 Calls Tryz.prog 124 #[.pointer (some ⟨gz, 0, none⟩), .pointer (some ⟨gx, 0, none⟩), .pointer (some ⟨gy, 0, none⟩)] w fun e w' => e = .returned (.pointer (some ⟨gz, 0, none⟩)) ∧ Ra 125 w' gz (x * y) ∧ Keeps w.heap.size [gz] w w' := by
 obtain ⟨vx, dx, bx, wx, ex⟩ := hx; obtain ⟨vy, dy, by_, wy, ey⟩ := hy; have B1 := hid (fun w' (h : Below w.heap.size w w') => ebelow gx _ vx dx x.den w' (bx.below h) (ex.below h) x.den_nz)
 have B2 := hid (fun w' (h : Below w.heap.size w w') => ebelow gy _ vy dy y.den w' (by_.below h) (ey.below h) y.den_nz)
 have lp := mul_len x.num.natAbs y.num.natAbs; have lq := mul_len x.den y.den; have M1 := hid (fun w' (h : Below w.heap.size w w') => emulW vx vy x.num.natAbs y.num.natAbs w' (wx.below h) (wy.below h) (by omega))
 have M2 := hid (fun v1 v2 w' (q1 : Wd w' v1 (words x.den)) (q2 : Wd w' v2 (words y.den)) => emulW v1 v2 x.den y.den w' q1 q2 (by omega))
 have TI := hid (fun va vd w' (h : Below w.heap.size w w') (q1 : Wd w' va (words (x.num.natAbs * y.num.natAbs))) (q2 : Wd w' vd (words (x.den * y.den))) => erset gz z0 z1 z2 (!(decide (x.num < 0) == decide (y.num < 0))) va vd (x.num.natAbs * y.num.natAbs) (x.den * y.den) w' (hz.below h) q1 q2 (Nat.mul_ne_zero x.den_nz y.den_nz) (by omega) (by omega))
 rw [rat_mul_mk'] at TI; clear lp lq; obtain ⟨ax, cx, rfl, -, -⟩ := wx.form; obtain ⟨ay, cy, rfl, -, -⟩ := wy.form; have BX := hid bx; have BY := hid by_; have BZ := hid hz; have ZX := hid hzx; have ZY := hid hzy; obtain ⟨r, hr⟩ : ∃ r, r = x * y := ⟨_, rfl⟩; rw [← hr] at TI ⊢; clear hr lx ly mx my hzx hzy; generalize (words x.num.natAbs).length = kx at *; generalize (words y.num.natAbs).length = ky at *; generalize decide (x.num < 0) = nx at *; generalize decide (y.num < 0) = ny at *; have x0 := bx.cell (i := 0) rfl; have x1 := bx.cell (i := 1) rfl; have y0 := by_.cell (i := 0) rfl; have y1 := by_.cell (i := 1) rfl; haveI : Has w gx := ⟨bx.lt⟩; haveI : Has w gy := ⟨by_.lt⟩; clear bx by_ wx wy ex ey hz; go_enter Tryz.func124, Tryz.ntmps124; go_wp2_with fail
 go_region_held3 (fun W => W.cell? ⟨gx, 0, none⟩ = some (.bool nx) ∧ W.cell? ⟨gx, 1, none⟩ = some (.slice ax kx cx) ∧ W.cell? ⟨gy, 0, none⟩ = some (.bool ny) ∧ W.cell? ⟨gy, 1, none⟩ = some (.slice ay ky cy)) (refine ⟨?_, ?_, ?_, ?_⟩ <;> (first | assumption | (simp [go_sem, *]; done))) (first | (go_at_call 147; (with_reducible refine (M1.out _ ?_).mono ?_); (focus (first | assumption | exact Below.drew (Below.refl _ _))); rintro e w1 ⟨v1, rfl, h1, -, hq1⟩; have hb1 := Below.trans (Below.drew (Below.refl w.heap.size w)) hq1; have x01 := (BX.out.below hb1).cell (i := 0) rfl; have x11 := (BX.out.below hb1).cell (i := 1) rfl; have y01 := (BY.out.below hb1).cell (i := 0) rfl; have y11 := (BY.out.below hb1).cell (i := 1) rfl) | (go_at_call 148; (with_reducible refine (B1.out _ ?_).mono ?_); (focus (first | assumption | exact Below.drew (Below.refl _ _))); rintro e w2 ⟨v2, rfl, h2, hq2⟩; have h12 := h1.below hq2; have hb2 := Below.trans hb1 (below_low hq2 hb1.size); have x02 := (BX.out.below hb2).cell (i := 0) rfl; have x12 := (BX.out.below hb2).cell (i := 1) rfl; have y02 := (BY.out.below hb2).cell (i := 0) rfl; have y12 := (BY.out.below hb2).cell (i := 1) rfl) | (go_at_call 148; (with_reducible refine (B2.out _ ?_).mono ?_); (focus (first | assumption | exact Below.drew (Below.refl _ _))); rintro e w3 ⟨v3, rfl, h3, hq3⟩; have h13 := h12.below hq3; have h23 := h2.below hq3; have hb3 := Below.trans hb2 (below_low hq3 hb2.size); have x03 := (BX.out.below hb3).cell (i := 0) rfl; have x13 := (BX.out.below hb3).cell (i := 1) rfl; have y03 := (BY.out.below hb3).cell (i := 0) rfl; have y13 := (BY.out.below hb3).cell (i := 1) rfl) | (go_at_call 147; (with_reducible refine (M2.out _ _ _ h23 h3).mono ?_); rintro e w4 ⟨v4, rfl, h4, -, hq4⟩; have h14 := h13.below hq4; have hb4 := Below.trans hb3 (below_low hq4 hb3.size); have hbl := hb4; have x04 := (BX.out.below hb4).cell (i := 0) rfl; have x14 := (BX.out.below hb4).cell (i := 1) rfl; have y04 := (BY.out.below hb4).cell (i := 0) rfl; have y14 := (BY.out.below hb4).cell (i := 1) rfl) | (go_at_call 146; (with_reducible refine (TI.out _ _ _ hb4 h14 h4).mono ?_); rintro e wz ⟨rfl, hrz, hkz⟩; have y0z := ((BY.out.below hb4).keep hkz (Nat.le_refl _) (by simpa using ZY.out)).cell (i := 0) rfl; have y1z := ((BY.out.below hb4).keep hkz (Nat.le_refl _) (by simpa using ZY.out)).cell (i := 1) rfl; have x0z := ((BX.out.below hb4).keep hkz (Nat.le_refl _) (by simpa using ZX.out)).cell (i := 0) rfl; have x1z := ((BX.out.below hb4).keep hkz (Nat.le_refl _) (by simpa using ZX.out)).cell (i := 1) rfl))
 all_goals
  go_wp2_with fail
  go_ret
  exact ⟨rfl, hrz, (Keeps.of_below hbl).trans (hkz.mono hbl.size (fun _ _ h => h))⟩
end Go.Proofs.YthjeejnggpjnjaaGreatDoor
