/- A part: X, Y, Z. -/
import Derived.Test.YthjeejnggpjnjaaGreatDoorZY06
import Derived.StillTailTactics
set_option linter.unusedSimpArgs false
set_option linter.unusedVariables false
set_option maxRecDepth 100000
set_option maxHeartbeats 16000000
set_option synthInstance.maxHeartbeats 2000000
set_option synthInstance.maxSize 100000
namespace Go.Proofs.YthjeejnggpjnjaaGreatDoor
open Go.RowKit
theorem add_plain (x y : _root_.Rat) (s : Int) (g h : Nat) (hg : g = Nat.gcd x.den y.den) (hs : s = x.num * ((y.den / g : Nat) : Int) + y.num * ((x.den / g : Nat) : Int)) (hh : h = Nat.gcd s.natAbs g) :
 x + y = mkRat s (x.den / g * y.den) ∧ (x + y).num = sg (decide (s < 0)) (s.natAbs / h) ∧ (x + y).den = x.den / g * (y.den / h) := by
 have e := Rat.add.aux x y hg rfl rfl; simp only [← hs] at e; have g0 : 0 < g := by rw [hg]; exact Nat.gcd_pos_of_pos_left _ x.den_pos
 have dx : x.den / g * g = x.den := Nat.div_mul_cancel (hg ▸ Nat.gcd_dvd_left ..); have dy : y.den / g * g = y.den := Nat.div_mul_cancel (hg ▸ Nat.gcd_dvd_right ..)
 have e1 : x + y = mkRat s (x.den / g * y.den) := by
  rw [Rat.add_def', hs]
  have a1 : x.num * (y.den : Int) + y.num * (x.den : Int) = (x.num * ((y.den / g : Nat) : Int) + y.num * ((x.den / g : Nat) : Int)) * (g : Int) := by
   conv => lhs; rw [← dx, ← dy]
   rw [Int.natCast_mul, Int.natCast_mul]; generalize ((y.den / g : Nat) : Int) = p; generalize ((x.den / g : Nat) : Int) = q
   grind
  have a2 : x.den * y.den = x.den / g * y.den * g := by
   conv => lhs; rw [← dx]
   grind
  rw [a1, a2, Rat.mkRat_mul_right (by omega)]
 have hn : x.den / g * y.den ≠ 0 := Nat.mul_ne_zero (by
  have := Nat.div_pos (Nat.le_of_dvd x.den_pos (hg ▸ Nat.gcd_dvd_left ..)) g0
  omega) y.den_nz
 have p := mk_parts (decide (s < 0)) s.natAbs _ hn; rw [← sg_of s, ← e, ← hh, ← e1] at p; refine ⟨e1, p.1, p.2.trans ?_⟩
 rw [Nat.mul_div_assoc]; have h1 : h ∣ g := hh ▸ Nat.gcd_dvd_right ..; exact Nat.dvd_trans h1 (hg ▸ Nat.gcd_dvd_right ..)
theorem add_len (m n : Nat) : (words (m + n)).length ≤ (words m).length + (words n).length + 1 := by
 refine words_len_le ?_
 have a := words_lt m; have b := words_lt n; have e1 : 4294967296 ^ (words m).length ≤ 4294967296 ^ ((words m).length + (words n).length) := Nat.pow_le_pow_right (by decide) (by omega)
 have e2 : 4294967296 ^ (words n).length ≤ 4294967296 ^ ((words m).length + (words n).length) := Nat.pow_le_pow_right (by decide) (by omega)
 rw [Nat.pow_succ]; omega
theorem below_keeps {B g : Nat} {w a b : World} (h : Below B w a) (k : Keeps a.heap.size [g] a b) (hg : B ≤ g) (hB : B ≤ a.heap.size) : Below B w b := by
 refine ((Keeps.of_below (S := []) h).trans (k.mono hB (fun i hi hm => ?_))).below
 rw [List.mem_singleton] at hm; omega
def In (T : Nat) (w : World) (g : Nat) (n : Int) : Prop := ∃ v, Bk w g [.bool (decide (n < 0)), v] T ∧ Wd w v (words n.natAbs)
theorem In.below {T : Nat} {w w' : World} {g : Nat} {n : Int} (h : In T w g n) (b : Below w.heap.size w w') : In T w' g n := by
 obtain ⟨v, h1, h2⟩ := h; exact ⟨v, h1.below b, h2.below b⟩
theorem In.keep {T : Nat} {w w' : World} {g k S : Nat} {n : Int} {L : List Value} (h : In T w g n) (b : Bk w k L S) (kp : Keeps w.heap.size [k] w w') (hk : g ≠ k) : In T w' g n := by
 obtain ⟨v, h1, h2⟩ := h; exact ⟨v, h1.keep kp (Nat.le_refl _) (by simpa using hk), h2.keepB b kp⟩
theorem In.lt {T : Nat} {w : World} {g : Nat} {n : Int} (h : In T w g n) : g < w.heap.size := by
 obtain ⟨v, h1, -⟩ := h; exact h1.lt
theorem sg_not (y : Int) : sg (!decide (y < 0)) y.natAbs = - y := by
 by_cases h : y < 0 <;> simp [h, sg] <;> omega
theorem biadded (g T : Nat) (x y : Value) (R : List Value) (va vb : Value) (m n : Nat) (p q : Bool) (w : World) (hb : Bk w g (x :: y :: R) T) (ha : Wd w va (words m)) (hbv : Wd w vb (words n)) (hm : (words m).length ≤ 137438953472) (hn : (words n).length ≤ 137438953472) (s : Int) (hs : s = sg p m + sg q n) :
 Calls Tryz.prog 212 #[.pointer (some ⟨g, 0, none⟩), va, .bool p, vb, .bool q] w fun e w' => ∃ v', e = .returned (.pointer (some ⟨g, 0, none⟩)) ∧ Bk w' g (.bool (decide (s < 0)) :: v' :: R) T ∧ Wd w' v' (words s.natAbs) ∧ Keeps w.heap.size [g] w w' := by
 haveI : Has w g := ⟨hb.lt⟩; have CM := bcmp va vb m n w ha hbv (by omega) (by omega)
 obtain ⟨cc, hcc⟩ : ∃ cc, cc = cmpN m n := ⟨_, rfl⟩; rw [← hcc] at CM; rcases p with _ | _ <;> rcases q with _ | _
 · skip
   have AD := hid (badd va vb m n w ha hbv (by omega) (by omega))
   have SE := hid (fun v w' (h : Below w.heap.size w w') (q : Wd w' v (words (m + n))) => biset g T x y R false v (m + n) w' (hb.below h) q (by have := add_len m n; omega))
   rw [← sg_neg] at SE; have hs2 : sg false (m + n) = s := by rw [hs]; simp [sg]; try omega
   have hs3 : m + n = s.natAbs := by rw [← hs2, sg_abs]
   rw [hs2] at SE; rw [hs3] at SE AD; clear hs hs2 hs3 hb hm hn ha hbv CM; go_enter Tryz.func212, Tryz.ntmps212; go_wp2_with (first | (go_at_call 197; (with_reducible refine AD.out.mono ?_); rintro e w1 ⟨v1, rfl, hv1, -, hb1⟩) | (go_at_call 171; (with_reducible refine (SE.out _ _ hb1 hv1).mono ?_); rintro e w3 ⟨v3, rfl, hB3, hV3, -, hk3⟩))
   go_ret
   exact ⟨v3, rfl, hB3, hV3, (Keeps.of_below hb1).trans (hk3.mono hb1.size (fun _ _ h => h))⟩
 · skip
   by_cases hmn : n ≤ m
   · skip
     have SB := hid (fun w' (h : Below w.heap.size w w') => bsub va vb m n w' (ha.below h) (hbv.below h) (by omega) (by omega))
     have SE := hid (fun v w' (h : Below w.heap.size w w') (q : Wd w' v (words (m - n))) => biset g T x y R false v (m - n) w' (hb.below h) q (by have := len_mono (Nat.sub_le m n); omega))
     rw [← sg_neg] at SE; have hs2 : sg false (m - n) = s := by rw [hs]; simp [sg]; omega
     have hs3 : m - n = s.natAbs := by rw [← hs2, sg_abs]
     rw [hs2] at SE; rw [hs3] at SE SB; have hcD : decide (0 ≤ cc) = true := by rw [hcc]; unfold cmpN; (split <;> first | omega | (split <;> rfl))
     clear hs hs2 hs3 hb hm hn ha hbv hcc hmn; go_enter Tryz.func212, Tryz.ntmps212; go_wp2_with (first | (go_at_call 141; (with_reducible refine CM.mono ?_); rintro e w1 ⟨rfl, hq1⟩; have hb1 := hq1.below; clear hq1) | (go_at_call 198; (with_reducible refine (SB.out _ hb1).mono ?_); rintro e w2 ⟨v2, rfl, hv2, -, hq2⟩; have hb2 := Below.trans hb1 (below_low hq2 hb1.size)) | (go_at_call 171; (with_reducible refine (SE.out _ _ hb2 hv2).mono ?_); rintro e w3 ⟨v3, rfl, hB3, hV3, -, hk3⟩))
     go_ret
     exact ⟨v3, rfl, hB3, hV3, (Keeps.of_below hb2).trans (hk3.mono hb2.size (fun _ _ h => h))⟩
   · skip
     have SB := hid (fun w' (h : Below w.heap.size w w') => bsub vb va n m w' (hbv.below h) (ha.below h) (by omega) (by omega))
     have SE := hid (fun v w' (h : Below w.heap.size w w') (q : Wd w' v (words (n - m))) => biset g T x y R true v (n - m) w' (hb.below h) q (by have := len_mono (Nat.sub_le n m); omega))
     rw [← sg_neg] at SE; have hs2 : sg true (n - m) = s := by rw [hs]; simp [sg]; omega
     have hs3 : n - m = s.natAbs := by rw [← hs2, sg_abs]
     rw [hs2] at SE; rw [hs3] at SE SB; have hcD : decide (0 ≤ cc) = false := by rw [hcc]; unfold cmpN; rw [if_pos (by omega)]; rfl
     clear hs hs2 hs3 hb hm hn ha hbv hcc hmn; go_enter Tryz.func212, Tryz.ntmps212; go_wp2_with (first | (go_at_call 141; (with_reducible refine CM.mono ?_); rintro e w1 ⟨rfl, hq1⟩; have hb1 := hq1.below; clear hq1) | (go_at_call 198; (with_reducible refine (SB.out _ hb1).mono ?_); rintro e w2 ⟨v2, rfl, hv2, -, hq2⟩; have hb2 := Below.trans hb1 (below_low hq2 hb1.size)) | (go_at_call 171; (with_reducible refine (SE.out _ _ hb2 hv2).mono ?_); rintro e w3 ⟨v3, rfl, hB3, hV3, -, hk3⟩))
     go_ret
     exact ⟨v3, rfl, hB3, hV3, (Keeps.of_below hb2).trans (hk3.mono hb2.size (fun _ _ h => h))⟩
 · skip
   by_cases hmn : n ≤ m
   · skip
     have SB := hid (fun w' (h : Below w.heap.size w w') => bsub va vb m n w' (ha.below h) (hbv.below h) (by omega) (by omega))
     have SE := hid (fun v w' (h : Below w.heap.size w w') (q : Wd w' v (words (m - n))) => biset g T x y R true v (m - n) w' (hb.below h) q (by have := len_mono (Nat.sub_le m n); omega))
     rw [← sg_neg] at SE; have hs2 : sg true (m - n) = s := by rw [hs]; simp [sg]; omega
     have hs3 : m - n = s.natAbs := by rw [← hs2, sg_abs]
     rw [hs2] at SE; rw [hs3] at SE SB; have hcD : decide (0 ≤ cc) = true := by rw [hcc]; unfold cmpN; (split <;> first | omega | (split <;> rfl))
     clear hs hs2 hs3 hb hm hn ha hbv hcc hmn; go_enter Tryz.func212, Tryz.ntmps212; go_wp2_with (first | (go_at_call 141; (with_reducible refine CM.mono ?_); rintro e w1 ⟨rfl, hq1⟩; have hb1 := hq1.below; clear hq1) | (go_at_call 198; (with_reducible refine (SB.out _ hb1).mono ?_); rintro e w2 ⟨v2, rfl, hv2, -, hq2⟩; have hb2 := Below.trans hb1 (below_low hq2 hb1.size)) | (go_at_call 171; (with_reducible refine (SE.out _ _ hb2 hv2).mono ?_); rintro e w3 ⟨v3, rfl, hB3, hV3, -, hk3⟩))
     go_ret
     exact ⟨v3, rfl, hB3, hV3, (Keeps.of_below hb2).trans (hk3.mono hb2.size (fun _ _ h => h))⟩
   · skip
     have SB := hid (fun w' (h : Below w.heap.size w w') => bsub vb va n m w' (hbv.below h) (ha.below h) (by omega) (by omega))
     have SE := hid (fun v w' (h : Below w.heap.size w w') (q : Wd w' v (words (n - m))) => biset g T x y R false v (n - m) w' (hb.below h) q (by have := len_mono (Nat.sub_le n m); omega))
     rw [← sg_neg] at SE; have hs2 : sg false (n - m) = s := by rw [hs]; simp [sg]; omega
     have hs3 : n - m = s.natAbs := by rw [← hs2, sg_abs]
     rw [hs2] at SE; rw [hs3] at SE SB; have hcD : decide (0 ≤ cc) = false := by rw [hcc]; unfold cmpN; rw [if_pos (by omega)]; rfl
     clear hs hs2 hs3 hb hm hn ha hbv hcc hmn; go_enter Tryz.func212, Tryz.ntmps212; go_wp2_with (first | (go_at_call 141; (with_reducible refine CM.mono ?_); rintro e w1 ⟨rfl, hq1⟩; have hb1 := hq1.below; clear hq1) | (go_at_call 198; (with_reducible refine (SB.out _ hb1).mono ?_); rintro e w2 ⟨v2, rfl, hv2, -, hq2⟩; have hb2 := Below.trans hb1 (below_low hq2 hb1.size)) | (go_at_call 171; (with_reducible refine (SE.out _ _ hb2 hv2).mono ?_); rintro e w3 ⟨v3, rfl, hB3, hV3, -, hk3⟩))
     go_ret
     exact ⟨v3, rfl, hB3, hV3, (Keeps.of_below hb2).trans (hk3.mono hb2.size (fun _ _ h => h))⟩
 · skip
   have AD := hid (badd va vb m n w ha hbv (by omega) (by omega))
   have SE := hid (fun v w' (h : Below w.heap.size w w') (q : Wd w' v (words (m + n))) => biset g T x y R true v (m + n) w' (hb.below h) q (by have := add_len m n; omega))
   rw [← sg_neg] at SE; have hs2 : sg true (m + n) = s := by rw [hs]; simp [sg]; try omega
   have hs3 : m + n = s.natAbs := by rw [← hs2, sg_abs]
   rw [hs2] at SE; rw [hs3] at SE AD; clear hs hs2 hs3 hb hm hn ha hbv CM; go_enter Tryz.func212, Tryz.ntmps212; go_wp2_with (first | (go_at_call 197; (with_reducible refine AD.out.mono ?_); rintro e w1 ⟨v1, rfl, hv1, -, hb1⟩) | (go_at_call 171; (with_reducible refine (SE.out _ _ hb1 hv1).mono ?_); rintro e w3 ⟨v3, rfl, hB3, hV3, -, hk3⟩))
   go_ret
   exact ⟨v3, rfl, hB3, hV3, (Keeps.of_below hb1).trans (hk3.mono hb1.size (fun _ _ h => h))⟩
theorem eiadded (g T : Nat) (x y : Value) (R : List Value) (va vb : Value) (m n : Nat) (p q : Bool) (w : World) (hb : Bk w g (x :: y :: R) T) (ha : Wd w va (words m)) (hbv : Wd w vb (words n)) (hm : (words m).length ≤ 137438953472) (hn : (words n).length ≤ 137438953472) (s : Int) (hs : s = sg p m + sg q n) :
 Calls Tryz.prog 236 #[.pointer (some ⟨g, 0, none⟩), va, .bool p, vb, .bool q] w fun e w' => ∃ v', e = .returned (.pointer (some ⟨g, 0, none⟩)) ∧ Bk w' g (.bool (decide (s < 0)) :: v' :: R) T ∧ Wd w' v' (words s.natAbs) ∧ Keeps w.heap.size [g] w w' := by
 haveI : Has w g := ⟨hb.lt⟩; have CM := ecmp va vb m n w ha hbv (by omega) (by omega)
 obtain ⟨cc, hcc⟩ : ∃ cc, cc = cmpN m n := ⟨_, rfl⟩; rw [← hcc] at CM; rcases p with _ | _ <;> rcases q with _ | _
 · skip
   have AD := hid (eadd va vb m n w ha hbv (by omega) (by omega))
   have SE := hid (fun v w' (h : Below w.heap.size w w') (q : Wd w' v (words (m + n))) => eiset g T x y R false v (m + n) w' (hb.below h) q (by have := add_len m n; omega))
   rw [← sg_neg] at SE; have hs2 : sg false (m + n) = s := by rw [hs]; simp [sg]; try omega
   have hs3 : m + n = s.natAbs := by rw [← hs2, sg_abs]
   rw [hs2] at SE; rw [hs3] at SE AD; clear hs hs2 hs3 hb hm hn ha hbv CM; go_enter Tryz.func236, Tryz.ntmps236; go_wp2_with (first | (go_at_call 245; (with_reducible refine AD.out.mono ?_); rintro e w1 ⟨v1, rfl, hv1, -, hb1⟩) | (go_at_call 201; (with_reducible refine (SE.out _ _ hb1 hv1).mono ?_); rintro e w3 ⟨v3, rfl, hB3, hV3, -, hk3⟩))
   go_ret
   exact ⟨v3, rfl, hB3, hV3, (Keeps.of_below hb1).trans (hk3.mono hb1.size (fun _ _ h => h))⟩
 · skip
   by_cases hmn : n ≤ m
   · skip
     have SB := hid (fun w' (h : Below w.heap.size w w') => esub va vb m n w' (ha.below h) (hbv.below h) (by omega) (by omega))
     have SE := hid (fun v w' (h : Below w.heap.size w w') (q : Wd w' v (words (m - n))) => eiset g T x y R false v (m - n) w' (hb.below h) q (by have := len_mono (Nat.sub_le m n); omega))
     rw [← sg_neg] at SE; have hs2 : sg false (m - n) = s := by rw [hs]; simp [sg]; omega
     have hs3 : m - n = s.natAbs := by rw [← hs2, sg_abs]
     rw [hs2] at SE; rw [hs3] at SE SB; have hcD : decide (0 ≤ cc) = true := by rw [hcc]; unfold cmpN; (split <;> first | omega | (split <;> rfl))
     clear hs hs2 hs3 hb hm hn ha hbv hcc hmn; go_enter Tryz.func236, Tryz.ntmps236; go_wp2_with (first | (go_at_call 155; (with_reducible refine CM.mono ?_); rintro e w1 ⟨rfl, hq1⟩; have hb1 := hq1.below; clear hq1) | (go_at_call 246; (with_reducible refine (SB.out _ hb1).mono ?_); rintro e w2 ⟨v2, rfl, hv2, -, hq2⟩; have hb2 := Below.trans hb1 (below_low hq2 hb1.size)) | (go_at_call 201; (with_reducible refine (SE.out _ _ hb2 hv2).mono ?_); rintro e w3 ⟨v3, rfl, hB3, hV3, -, hk3⟩))
     go_ret
     exact ⟨v3, rfl, hB3, hV3, (Keeps.of_below hb2).trans (hk3.mono hb2.size (fun _ _ h => h))⟩
   · skip
     have SB := hid (fun w' (h : Below w.heap.size w w') => esub vb va n m w' (hbv.below h) (ha.below h) (by omega) (by omega))
     have SE := hid (fun v w' (h : Below w.heap.size w w') (q : Wd w' v (words (n - m))) => eiset g T x y R true v (n - m) w' (hb.below h) q (by have := len_mono (Nat.sub_le n m); omega))
     rw [← sg_neg] at SE; have hs2 : sg true (n - m) = s := by rw [hs]; simp [sg]; omega
     have hs3 : n - m = s.natAbs := by rw [← hs2, sg_abs]
     rw [hs2] at SE; rw [hs3] at SE SB; have hcD : decide (0 ≤ cc) = false := by rw [hcc]; unfold cmpN; rw [if_pos (by omega)]; rfl
     clear hs hs2 hs3 hb hm hn ha hbv hcc hmn; go_enter Tryz.func236, Tryz.ntmps236; go_wp2_with (first | (go_at_call 155; (with_reducible refine CM.mono ?_); rintro e w1 ⟨rfl, hq1⟩; have hb1 := hq1.below; clear hq1) | (go_at_call 246; (with_reducible refine (SB.out _ hb1).mono ?_); rintro e w2 ⟨v2, rfl, hv2, -, hq2⟩; have hb2 := Below.trans hb1 (below_low hq2 hb1.size)) | (go_at_call 201; (with_reducible refine (SE.out _ _ hb2 hv2).mono ?_); rintro e w3 ⟨v3, rfl, hB3, hV3, -, hk3⟩))
     go_ret
     exact ⟨v3, rfl, hB3, hV3, (Keeps.of_below hb2).trans (hk3.mono hb2.size (fun _ _ h => h))⟩
 · skip
   by_cases hmn : n ≤ m
   · skip
     have SB := hid (fun w' (h : Below w.heap.size w w') => esub va vb m n w' (ha.below h) (hbv.below h) (by omega) (by omega))
     have SE := hid (fun v w' (h : Below w.heap.size w w') (q : Wd w' v (words (m - n))) => eiset g T x y R true v (m - n) w' (hb.below h) q (by have := len_mono (Nat.sub_le m n); omega))
     rw [← sg_neg] at SE; have hs2 : sg true (m - n) = s := by rw [hs]; simp [sg]; omega
     have hs3 : m - n = s.natAbs := by rw [← hs2, sg_abs]
     rw [hs2] at SE; rw [hs3] at SE SB; have hcD : decide (0 ≤ cc) = true := by rw [hcc]; unfold cmpN; (split <;> first | omega | (split <;> rfl))
     clear hs hs2 hs3 hb hm hn ha hbv hcc hmn; go_enter Tryz.func236, Tryz.ntmps236; go_wp2_with (first | (go_at_call 155; (with_reducible refine CM.mono ?_); rintro e w1 ⟨rfl, hq1⟩; have hb1 := hq1.below; clear hq1) | (go_at_call 246; (with_reducible refine (SB.out _ hb1).mono ?_); rintro e w2 ⟨v2, rfl, hv2, -, hq2⟩; have hb2 := Below.trans hb1 (below_low hq2 hb1.size)) | (go_at_call 201; (with_reducible refine (SE.out _ _ hb2 hv2).mono ?_); rintro e w3 ⟨v3, rfl, hB3, hV3, -, hk3⟩))
     go_ret
     exact ⟨v3, rfl, hB3, hV3, (Keeps.of_below hb2).trans (hk3.mono hb2.size (fun _ _ h => h))⟩
   · skip
     have SB := hid (fun w' (h : Below w.heap.size w w') => esub vb va n m w' (hbv.below h) (ha.below h) (by omega) (by omega))
     have SE := hid (fun v w' (h : Below w.heap.size w w') (q : Wd w' v (words (n - m))) => eiset g T x y R false v (n - m) w' (hb.below h) q (by have := len_mono (Nat.sub_le n m); omega))
     rw [← sg_neg] at SE; have hs2 : sg false (n - m) = s := by rw [hs]; simp [sg]; omega
     have hs3 : n - m = s.natAbs := by rw [← hs2, sg_abs]
     rw [hs2] at SE; rw [hs3] at SE SB; have hcD : decide (0 ≤ cc) = false := by rw [hcc]; unfold cmpN; rw [if_pos (by omega)]; rfl
     clear hs hs2 hs3 hb hm hn ha hbv hcc hmn; go_enter Tryz.func236, Tryz.ntmps236; go_wp2_with (first | (go_at_call 155; (with_reducible refine CM.mono ?_); rintro e w1 ⟨rfl, hq1⟩; have hb1 := hq1.below; clear hq1) | (go_at_call 246; (with_reducible refine (SB.out _ hb1).mono ?_); rintro e w2 ⟨v2, rfl, hv2, -, hq2⟩; have hb2 := Below.trans hb1 (below_low hq2 hb1.size)) | (go_at_call 201; (with_reducible refine (SE.out _ _ hb2 hv2).mono ?_); rintro e w3 ⟨v3, rfl, hB3, hV3, -, hk3⟩))
     go_ret
     exact ⟨v3, rfl, hB3, hV3, (Keeps.of_below hb2).trans (hk3.mono hb2.size (fun _ _ h => h))⟩
 · skip
   have AD := hid (eadd va vb m n w ha hbv (by omega) (by omega))
   have SE := hid (fun v w' (h : Below w.heap.size w w') (q : Wd w' v (words (m + n))) => eiset g T x y R true v (m + n) w' (hb.below h) q (by have := add_len m n; omega))
   rw [← sg_neg] at SE; have hs2 : sg true (m + n) = s := by rw [hs]; simp [sg]; try omega
   have hs3 : m + n = s.natAbs := by rw [← hs2, sg_abs]
   rw [hs2] at SE; rw [hs3] at SE AD; clear hs hs2 hs3 hb hm hn ha hbv CM; go_enter Tryz.func236, Tryz.ntmps236; go_wp2_with (first | (go_at_call 245; (with_reducible refine AD.out.mono ?_); rintro e w1 ⟨v1, rfl, hv1, -, hb1⟩) | (go_at_call 201; (with_reducible refine (SE.out _ _ hb1 hv1).mono ?_); rintro e w3 ⟨v3, rfl, hB3, hV3, -, hk3⟩))
   go_ret
   exact ⟨v3, rfl, hB3, hV3, (Keeps.of_below hb1).trans (hk3.mono hb1.size (fun _ _ h => h))⟩
theorem biadd (gz gx gy : Nat) (T : Nat) (z0 z1 : Value) (R : List Value) (x y : Int) (w : World) (hz : Bk w gz (z0 :: z1 :: R) T) (hx : In 86 w gx x) (hy : In 86 w gy y) (lx : (words x.natAbs).length ≤ 137438953472) (ly : (words y.natAbs).length ≤ 137438953472) :
 Calls Tryz.prog 170 #[.pointer (some ⟨gz, 0, none⟩), .pointer (some ⟨gx, 0, none⟩), .pointer (some ⟨gy, 0, none⟩)] w fun e w' => ∃ v', e = .returned (.pointer (some ⟨gz, 0, none⟩)) ∧ Bk w' gz (.bool (decide (x + y < 0)) :: v' :: R) T ∧ Wd w' v' (words (x + y).natAbs) ∧ Keeps w.heap.size [gz] w w' := by
 obtain ⟨vx, bx, wx⟩ := hx; obtain ⟨vy, by_, wy⟩ := hy; have TI := hid (fun w' (h : Below w.heap.size w w') => biadded gz T z0 z1 R vx vy x.natAbs y.natAbs (decide (x < 0)) (decide (y < 0)) w' (hz.below h) (wx.below h) (wy.below h) lx ly (x + y) (by rw [← sg_of, ← sg_of]))
 obtain ⟨ax, cx, rfl, -, -⟩ := wx.form; obtain ⟨ay, cy, rfl, -, -⟩ := wy.form; obtain ⟨r, hr⟩ : ∃ r, r = x + y := ⟨_, rfl⟩; rw [← hr] at TI ⊢; clear hr lx ly; generalize (words x.natAbs).length = kx at *; generalize (words y.natAbs).length = ky at *; generalize decide (x < 0) = nx at *; generalize decide (y < 0) = ny at *; have x0 := bx.cell (i := 0) rfl; have x1 := bx.cell (i := 1) rfl; have y0 := by_.cell (i := 0) rfl; have y1 := by_.cell (i := 1) rfl; haveI : Has w gx := ⟨bx.lt⟩; haveI : Has w gy := ⟨by_.lt⟩; clear bx by_ wx wy hz; go_enter Tryz.func170, Tryz.ntmps170; go_wp2_with fail
 go_still_tail 17, (by kernel_rfl)
 change wpList _ _ _ _ _ w.drew
 have hb1 := Below.drew (Below.refl w.heap.size w); generalize w.drew = w2 at *; go_wp2_with (go_at_call 212; (with_reducible refine (TI.out _ hb1).mono ?_); rintro e w3 ⟨v3, rfl, hB3, hV3, hk3⟩)
 go_ret
 exact ⟨v3, rfl, hB3, hV3, (Keeps.of_below hb1).trans (hk3.mono hb1.size (fun _ _ h => h))⟩
theorem bisub (gz gx gy : Nat) (T : Nat) (z0 z1 : Value) (R : List Value) (x y : Int) (w : World) (hz : Bk w gz (z0 :: z1 :: R) T) (hx : In 86 w gx x) (hy : In 86 w gy y) (lx : (words x.natAbs).length ≤ 137438953472) (ly : (words y.natAbs).length ≤ 137438953472) :
 Calls Tryz.prog 168 #[.pointer (some ⟨gz, 0, none⟩), .pointer (some ⟨gx, 0, none⟩), .pointer (some ⟨gy, 0, none⟩)] w fun e w' => ∃ v', e = .returned (.pointer (some ⟨gz, 0, none⟩)) ∧ Bk w' gz (.bool (decide (x - y < 0)) :: v' :: R) T ∧ Wd w' v' (words (x - y).natAbs) ∧ Keeps w.heap.size [gz] w w' := by
 obtain ⟨vx, bx, wx⟩ := hx; obtain ⟨vy, by_, wy⟩ := hy; have TI := hid (fun w' (h : Below w.heap.size w w') => biadded gz T z0 z1 R vx vy x.natAbs y.natAbs (decide (x < 0)) (!decide (y < 0)) w' (hz.below h) (wx.below h) (wy.below h) lx ly (x - y) (by have h1 := sg_of x; have h2 := sg_of y; by_cases h3 : y < 0 <;> simp [h3, sg] at h2 ⊢ <;> by_cases h4 : x < 0 <;> simp [h4, sg] at h1 ⊢ <;> omega))
 obtain ⟨ax, cx, rfl, -, -⟩ := wx.form; obtain ⟨ay, cy, rfl, -, -⟩ := wy.form; obtain ⟨r, hr⟩ : ∃ r, r = x - y := ⟨_, rfl⟩; rw [← hr] at TI ⊢; clear hr lx ly; generalize (words x.natAbs).length = kx at *; generalize (words y.natAbs).length = ky at *; generalize decide (x < 0) = nx at *; generalize decide (y < 0) = ny at *; have x0 := bx.cell (i := 0) rfl; have x1 := bx.cell (i := 1) rfl; have y0 := by_.cell (i := 0) rfl; have y1 := by_.cell (i := 1) rfl; haveI : Has w gx := ⟨bx.lt⟩; haveI : Has w gy := ⟨by_.lt⟩; clear bx by_ wx wy hz; go_enter Tryz.func168, Tryz.ntmps168; go_wp2_with fail
 go_still_tail 18, (by kernel_rfl)
 change wpList _ _ _ _ _ w.drew
 have hb1 := Below.drew (Below.refl w.heap.size w); generalize w.drew = w2 at *; go_wp2_with (go_at_call 212; (with_reducible refine (TI.out _ hb1).mono ?_); rintro e w3 ⟨v3, rfl, hB3, hV3, hk3⟩)
 go_ret
 exact ⟨v3, rfl, hB3, hV3, (Keeps.of_below hb1).trans (hk3.mono hb1.size (fun _ _ h => h))⟩
theorem eiadd (gz gx gy : Nat) (T : Nat) (z0 z1 : Value) (R : List Value) (x y : Int) (w : World) (hz : Bk w gz (z0 :: z1 :: R) T) (hx : In 123 w gx x) (hy : In 123 w gy y) (lx : (words x.natAbs).length ≤ 137438953472) (ly : (words y.natAbs).length ≤ 137438953472) :
 Calls Tryz.prog 213 #[.pointer (some ⟨gz, 0, none⟩), .pointer (some ⟨gx, 0, none⟩), .pointer (some ⟨gy, 0, none⟩)] w fun e w' => ∃ v', e = .returned (.pointer (some ⟨gz, 0, none⟩)) ∧ Bk w' gz (.bool (decide (x + y < 0)) :: v' :: R) T ∧ Wd w' v' (words (x + y).natAbs) ∧ Keeps w.heap.size [gz] w w' := by
 obtain ⟨vx, bx, wx⟩ := hx; obtain ⟨vy, by_, wy⟩ := hy; have TI := hid (fun w' (h : Below w.heap.size w w') => eiadded gz T z0 z1 R vx vy x.natAbs y.natAbs (decide (x < 0)) (decide (y < 0)) w' (hz.below h) (wx.below h) (wy.below h) lx ly (x + y) (by rw [← sg_of, ← sg_of]))
 obtain ⟨ax, cx, rfl, -, -⟩ := wx.form; obtain ⟨ay, cy, rfl, -, -⟩ := wy.form; obtain ⟨r, hr⟩ : ∃ r, r = x + y := ⟨_, rfl⟩; rw [← hr] at TI ⊢; clear hr lx ly; generalize (words x.natAbs).length = kx at *; generalize (words y.natAbs).length = ky at *; generalize decide (x < 0) = nx at *; generalize decide (y < 0) = ny at *; have x0 := bx.cell (i := 0) rfl; have x1 := bx.cell (i := 1) rfl; have y0 := by_.cell (i := 0) rfl; have y1 := by_.cell (i := 1) rfl; haveI : Has w gx := ⟨bx.lt⟩; haveI : Has w gy := ⟨by_.lt⟩; clear bx by_ wx wy hz; go_enter Tryz.func213, Tryz.ntmps213; go_wp2_with fail
 go_still_tail 17, (by kernel_rfl)
 change wpList _ _ _ _ _ w.drew
 have hb1 := Below.drew (Below.refl w.heap.size w); generalize w.drew = w2 at *; go_wp2_with (go_at_call 236; (with_reducible refine (TI.out _ hb1).mono ?_); rintro e w3 ⟨v3, rfl, hB3, hV3, hk3⟩)
 go_ret
 exact ⟨v3, rfl, hB3, hV3, (Keeps.of_below hb1).trans (hk3.mono hb1.size (fun _ _ h => h))⟩
theorem sg_mulR (x : Int) (k : Nat) : sg (decide (x < 0)) (x.natAbs * k) = x * (k : Int) := by
 conv => rhs; rw [sg_of x]
 by_cases h : x < 0 <;> simp [h, sg] <;> grind
theorem sg_mulT (y : Int) (k : Nat) (tt : Bool) : sg (!(decide (y < 0) == tt)) (y.natAbs * k) = (if tt then -y else y) * (k : Int) := by
 have e := sg_mulR y k; cases tt
 · simp only [Bool.false_eq_true, if_false]; rw [← e]; by_cases h : y < 0 <;> simp [h]
 · simp only [if_true]; rw [Int.neg_mul, ← e]; by_cases h : y < 0 <;> simp [h, sg]
theorem turned_num (y : _root_.Rat) (tt : Bool) : (if tt then -y else y).num = if tt then -y.num else y.num := by cases tt <;> rfl
theorem turned_den (y : _root_.Rat) (tt : Bool) : (if tt then -y else y).den = y.den := by cases tt <;> rfl
theorem bisetI (g : Nat) (x y : Value) (b : Bool) (v : Value) (n : Nat) (w : World) (hb : Bk w g [x, y] 86) (hv : Wd w v (words n)) (hn : (words n).length ≤ 1099511627776) (s : Int) (hs : s = sg b n) :
 Calls Tryz.prog 171 #[.pointer (some ⟨g, 0, none⟩), .bool b, v] w fun e w' => e = .returned (.pointer (some ⟨g, 0, none⟩)) ∧ In 86 w' g s ∧ Keeps w.heap.size [g] w w' := by
 subst hs; refine (biset g 86 x y [] b v n w hb hv hn).mono ?_
 rintro e w' ⟨v', rfl, h1, h2, -, h3⟩; exact ⟨rfl, ⟨v', by rw [sg_neg]; exact h1, by rw [sg_abs]; exact h2⟩, h3⟩
theorem eisetI (g : Nat) (x y : Value) (b : Bool) (v : Value) (n : Nat) (w : World) (hb : Bk w g [x, y] 123) (hv : Wd w v (words n)) (hn : (words n).length ≤ 1099511627776) (s : Int) (hs : s = sg b n) :
 Calls Tryz.prog 201 #[.pointer (some ⟨g, 0, none⟩), .bool b, v] w fun e w' => e = .returned (.pointer (some ⟨g, 0, none⟩)) ∧ In 123 w' g s ∧ Keeps w.heap.size [g] w w' := by
 subst hs; refine (eiset g 123 x y [] b v n w hb hv hn).mono ?_
 rintro e w' ⟨v', rfl, h1, h2, -, h3⟩; exact ⟨rfl, ⟨v', by rw [sg_neg]; exact h1, by rw [sg_abs]; exact h2⟩, h3⟩
theorem biaddI (gz gx gy : Nat) (z0 z1 : Value) (x y : Int) (w : World) (hz : Bk w gz [z0, z1] 86) (hx : In 86 w gx x) (hy : In 86 w gy y) (lx : (words x.natAbs).length ≤ 137438953472) (ly : (words y.natAbs).length ≤ 137438953472) (s : Int) (hs : s = x + y) :
 Calls Tryz.prog 170 #[.pointer (some ⟨gz, 0, none⟩), .pointer (some ⟨gx, 0, none⟩), .pointer (some ⟨gy, 0, none⟩)] w fun e w' => e = .returned (.pointer (some ⟨gz, 0, none⟩)) ∧ In 86 w' gz s ∧ Keeps w.heap.size [gz] w w' := by
 subst hs; refine (biadd gz gx gy 86 z0 z1 [] x y w hz hx hy lx ly).mono ?_
 rintro e w' ⟨v', rfl, h1, h2, h3⟩; exact ⟨rfl, ⟨v', h1, h2⟩, h3⟩
theorem bisubI (gz gx gy : Nat) (z0 z1 : Value) (x y : Int) (w : World) (hz : Bk w gz [z0, z1] 86) (hx : In 86 w gx x) (hy : In 86 w gy y) (lx : (words x.natAbs).length ≤ 137438953472) (ly : (words y.natAbs).length ≤ 137438953472) (s : Int) (hs : s = x - y) :
 Calls Tryz.prog 168 #[.pointer (some ⟨gz, 0, none⟩), .pointer (some ⟨gx, 0, none⟩), .pointer (some ⟨gy, 0, none⟩)] w fun e w' => e = .returned (.pointer (some ⟨gz, 0, none⟩)) ∧ In 86 w' gz s ∧ Keeps w.heap.size [gz] w w' := by
 subst hs; refine (bisub gz gx gy 86 z0 z1 [] x y w hz hx hy lx ly).mono ?_
 rintro e w' ⟨v', rfl, h1, h2, h3⟩; exact ⟨rfl, ⟨v', h1, h2⟩, h3⟩
theorem eiaddI (gz gx gy : Nat) (z0 z1 : Value) (x y : Int) (w : World) (hz : Bk w gz [z0, z1] 123) (hx : In 123 w gx x) (hy : In 123 w gy y) (lx : (words x.natAbs).length ≤ 137438953472) (ly : (words y.natAbs).length ≤ 137438953472) (s : Int) (hs : s = x + y) :
 Calls Tryz.prog 213 #[.pointer (some ⟨gz, 0, none⟩), .pointer (some ⟨gx, 0, none⟩), .pointer (some ⟨gy, 0, none⟩)] w fun e w' => e = .returned (.pointer (some ⟨gz, 0, none⟩)) ∧ In 123 w' gz s ∧ Keeps w.heap.size [gz] w w' := by
 subst hs; refine (eiadd gz gx gy 123 z0 z1 [] x y w hz hx hy lx ly).mono ?_
 rintro e w' ⟨v', rfl, h1, h2, h3⟩; exact ⟨rfl, ⟨v', h1, h2⟩, h3⟩
theorem eadded (gz gx gy : Nat) (z0 z1 z2 : Value) (x y : _root_.Rat) (tt : Bool) (w : World) (hz : Bk w gz [z0, z1, z2] 125) (hx : Ra 125 w gx x) (hy : Ra 125 w gy y) (lx : (words x.num.natAbs).length ≤ 17179869184) (mx : (words x.den).length ≤ 17179869184) (ly : (words y.num.natAbs).length ≤ 17179869184) (my : (words y.den).length ≤ 17179869184) :
 Calls Tryz.prog 174 #[.pointer (some ⟨gz, 0, none⟩), .pointer (some ⟨gx, 0, none⟩), .pointer (some ⟨gy, 0, none⟩), .bool tt] w fun e w' => e = .returned (.pointer (some ⟨gz, 0, none⟩)) ∧ Ra 125 w' gz (x + if tt then -y else y) ∧ Keeps w.heap.size [gz] w w' := by
 obtain ⟨vx, dx, bx, wx, ex⟩ := hx; obtain ⟨vy, dy, by_, wy, ey⟩ := hy; obtain ⟨r, hr⟩ : ∃ r, r = x + if tt then -y else y := ⟨_, rfl⟩
 rw [← hr]; obtain ⟨s, hs⟩ : ∃ s : Int, s = x.num * (y.den : Int) + (if tt then -y.num else y.num) * (x.den : Int) := ⟨_, rfl⟩
 have hrs : mkRat s (x.den * y.den) = r := by rw [hr, hs, Rat.add_def', turned_num, turned_den]
 have lp := mul_len x.num.natAbs y.den; have lq := mul_len y.num.natAbs x.den; have ld := mul_len x.den y.den; obtain ⟨sa, hsa⟩ : ∃ sa : Int, sa = x.num * (y.den : Int) := ⟨_, rfl⟩; obtain ⟨sb, hsb⟩ : ∃ sb : Int, sb = (if tt then -y.num else y.num) * (x.den : Int) := ⟨_, rfl⟩
 rw [← hsa, ← hsb] at hs; have na : x.num.natAbs * y.den = sa.natAbs := by rw [hsa, ← sg_mulR, sg_abs]
 have nb : y.num.natAbs * x.den = sb.natAbs := by rw [hsb, ← sg_mulT, sg_abs]
 have ls := add_len sa.natAbs sb.natAbs; have ls2 : (words s.natAbs).length ≤ (words (sa.natAbs + sb.natAbs)).length := len_mono (by omega)
 rw [na] at lp; rw [nb] at lq; have B1 := hid (fun w' (h : Below w.heap.size w w') => ebelow gx _ vx dx x.den w' (bx.below h) (ex.below h) x.den_nz)
 have B2 := hid (fun w' (h : Below w.heap.size w w') => ebelow gy _ vy dy y.den w' (by_.below h) (ey.below h) y.den_nz)
 have M1 := hid (fun v w' (h : Below w.heap.size w w') (q : Wd w' v (words y.den)) => emulW vx v x.num.natAbs y.den w' (wx.below h) q (by omega))
 have M2 := hid (fun v w' (h : Below w.heap.size w w') (q : Wd w' v (words x.den)) => emulW vy v y.num.natAbs x.den w' (wy.below h) q (by omega))
 have M3 := hid (fun v1 v2 w' (q1 : Wd w' v1 (words x.den)) (q2 : Wd w' v2 (words y.den)) => emulW v1 v2 x.den y.den w' q1 q2 (by omega))
 rw [na] at M1; rw [nb] at M2; have SA := hid (fun g z0 z1 v w' (h : Bk w' g [z0, z1] 123) (q : Wd w' v (words sa.natAbs)) => eisetI g z0 z1 (decide (x.num < 0)) v sa.natAbs w' h q (by omega) sa (by rw [hsa, ← sg_mulR, sg_abs]))
 have SB := hid (fun g z0 z1 v w' (h : Bk w' g [z0, z1] 123) (q : Wd w' v (words sb.natAbs)) => eisetI g z0 z1 (!(decide (y.num < 0) == tt)) v sb.natAbs w' h q (by omega) sb (by rw [hsb, ← sg_mulT, sg_abs]))
 have AD := hid (fun ga gb z0 z1 w' (h : Bk w' ga [z0, z1] 123) (h1 : In 123 w' ga sa) (h2 : In 123 w' gb sb) => eiaddI ga ga gb z0 z1 sa sb w' h h1 h2 (by omega) (by omega) s hs)
 have TI := hid (fun va vd w' (h : Below w.heap.size w w') (q1 : Wd w' va (words s.natAbs)) (q2 : Wd w' vd (words (x.den * y.den))) => erset gz z0 z1 z2 (decide (s < 0)) va vd s.natAbs (x.den * y.den) w' (hz.below h) q1 q2 (Nat.mul_ne_zero x.den_nz y.den_nz) (by omega) (by omega))
 rw [← sg_of, hrs] at TI; obtain ⟨ax, cx, rfl, -, -⟩ := wx.form; obtain ⟨ay, cy, rfl, -, -⟩ := wy.form; have BX := hid bx; have BY := hid by_; have hzl := hz.lt; haveI : Has w gx := ⟨bx.lt⟩; haveI : Has w gy := ⟨by_.lt⟩; clear hr hrs hs hsa hsb na nb lp lq ld ls ls2 lx ly mx my wx wy ex ey bx by_ hz; generalize (words x.num.natAbs).length = kx at *; generalize (words y.num.natAbs).length = ky at *; generalize decide (x.num < 0) = nx at *; generalize decide (y.num < 0) = ny at *; go_enter Tryz.func174, Tryz.ntmps174; go_wp2_with fail
 have hA : Bk ((w.alloc (.cells #[.bool false, .slice none 0 0] 123)).alloc (.cells #[.bool false, .slice none 0 0] 123)) w.heap.size [.bool false, .slice none 0 0] 123 := ⟨by rw [block_alloc', block_at], by decide⟩
 have hB : Bk ((w.alloc (.cells #[.bool false, .slice none 0 0] 123)).alloc (.cells #[.bool false, .slice none 0 0] 123)) (w.heap.size + 1) [.bool false, .slice none 0 0] 123 := ⟨by rw [block_at], by decide⟩
 have hb5 : Below w.heap.size w ((w.alloc (.cells #[.bool false, .slice none 0 0] 123)).alloc (.cells #[.bool false, .slice none 0 0] 123)) := ((Below.refl _ _).alloc (Nat.le_refl _) _).alloc (by simp) _
 generalize ((w.alloc (.cells #[.bool false, .slice none 0 0] 123)).alloc (.cells #[.bool false, .slice none 0 0] 123)) = w5 at *; have NE : Hid (w.heap.size ≠ w.heap.size + 1) := hid (by omega)
 have GB : Hid (w.heap.size ≤ w.heap.size + 1) := hid (Nat.le_succ _); have x05 := (BX.out.below hb5).cell (i := 0) rfl; have x15 := (BX.out.below hb5).cell (i := 1) rfl; go_region_held3 (fun W => W.cell? ⟨gx, 0, none⟩ = some (.bool nx) ∧ W.cell? ⟨gx, 1, none⟩ = some (.slice ax kx cx)) (refine ⟨?_, ?_⟩ <;> (first | assumption | (simp [go_sem, *]; done))) (first | (go_at_call 148; (with_reducible refine (B2.out _ ?_).mono ?_); (focus (first | assumption | exact Below.drew hb5)); rintro e w6 ⟨v6, rfl, h6, hq6⟩; have c6 := Below.trans (Below.drew (Below.refl w5.heap.size w5)) hq6; have hb6 := Below.trans hb5 (below_low c6 hb5.size); have x06 := (BX.out.below hb6).cell (i := 0) rfl; have x16 := (BX.out.below hb6).cell (i := 1) rfl) | (go_at_call 147; (with_reducible refine (M1.out _ _ hb6 h6).mono ?_); rintro e w7 ⟨v7, rfl, h7, -, hq7⟩; have c7 := Below.trans c6 (below_low hq7 c6.size); have hb7 := Below.trans hb5 (below_low c7 hb5.size); have x07 := (BX.out.below hb7).cell (i := 0) rfl; have x17 := (BX.out.below hb7).cell (i := 1) rfl) | (go_at_call 201; (with_reducible refine (SA.out _ _ _ _ _ (hA.below c7) h7).mono ?_); rintro e w8 ⟨rfl, hI8, hk8⟩; have hb8 := below_keeps hb7 hk8 (Nat.le_refl _) hb7.size; have hB8 := (hB.below c7).keep hk8 (Nat.le_refl _) (by simp); have x08 := (BX.out.below hb8).cell (i := 0) rfl; have x18 := (BX.out.below hb8).cell (i := 1) rfl))
 all_goals
  clear x05 x15 x06 x16 x07 x17 x08 x18 h6 h7 hq6 hq7 c6 c7 hb5 hb6 hb7 hk8 hA hB; go_wp2_with fail
  have y08 := (BY.out.below hb8).cell (i := 0) rfl; have y18 := (BY.out.below hb8).cell (i := 1) rfl; go_region_held3 (fun W => W.cell? ⟨gy, 0, none⟩ = some (.bool ny) ∧ W.cell? ⟨gy, 1, none⟩ = some (.slice ay ky cy)) (refine ⟨?_, ?_⟩ <;> (first | assumption | (simp [go_sem, *]; done))) (first | (go_at_call 148; (with_reducible refine (B1.out _ ?_).mono ?_); (focus (first | assumption | exact Below.drew hb8)); rintro e w9 ⟨v9, rfl, h9, hq9⟩; have c9 := Below.trans (Below.drew (Below.refl w8.heap.size w8)) hq9; have hb9 := Below.trans hb8 (below_low c9 hb8.size); have y09 := (BY.out.below hb9).cell (i := 0) rfl; have y19 := (BY.out.below hb9).cell (i := 1) rfl) | (go_at_call 147; (with_reducible refine (M2.out _ _ hb9 h9).mono ?_); rintro e wa ⟨va, rfl, ha, -, hqa⟩; have ca := Below.trans c9 (below_low hqa c9.size); have hba := Below.trans hb8 (below_low ca hb8.size); have y0a := (BY.out.below hba).cell (i := 0) rfl; have y1a := (BY.out.below hba).cell (i := 1) rfl) | (go_at_call 201; (with_reducible refine (SB.out _ _ _ _ _ (hB8.below ca) ha).mono ?_); rintro e wb ⟨rfl, hJb, hkb⟩; have hbb := below_keeps hba hkb GB.out hba.size; have hIb := (hI8.below ca).keep (hB8.below ca) hkb NE.out; have y0b := (BY.out.below hbb).cell (i := 0) rfl; have y1b := (BY.out.below hbb).cell (i := 1) rfl))
  all_goals
   clear y08 y18 y09 y19 y0a y1a y0b y1b h9 ha hq9 hqa c9 ca hb8 hb9 hba hkb hB8; obtain ⟨vI, hIk, hIw⟩ := id hIb; go_wp2_with (first | (go_at_call 148; (with_reducible refine (B1.out _ hbb).mono ?_); rintro e wc ⟨vc, rfl, hc, hqc⟩; have hbc := Below.trans hbb (below_low hqc hbb.size)) | (go_at_call 148; (with_reducible refine (B2.out _ hbc).mono ?_); rintro e wd ⟨vd, rfl, hd, hqd⟩; have hbd := Below.trans hbc (below_low hqd hbc.size); have hcd := hc.below hqd; have qd := Below.trans hqc (below_low hqd hqc.size)) | (go_at_call 147; (with_reducible refine (M3.out _ _ _ hcd hd).mono ?_); rintro e we ⟨ve, rfl, he, -, hqe⟩; have hbe := Below.trans hbd (below_low hqe hbd.size); have qe := Below.trans qd (below_low hqe qd.size); have hIe := hIb.below qe; have hJe := hJb.below qe; have hKe := hIk.below qe) | (go_at_call 213; (with_reducible refine (AD.out _ _ _ _ _ hKe hIe hJe).mono ?_); rintro e wf ⟨rfl, hIf, hkf⟩; have hbf := below_keeps hbe hkf (Nat.le_refl _) hbe.size; have hef := he.keepB hKe hkf))
   obtain ⟨vf, hKf, hWf⟩ := hIf; obtain ⟨af, cf, rfl, -, -⟩ := hWf.form; have f0 := hKf.cell (i := 0) rfl; have f1 := hKf.cell (i := 1) rfl; clear hc hd he hqc hqd hqe qd qe hbc hbd hbe hcd hIe hJe hIb hJb hKe hkf hIk hIw; go_wp2_with fail
   have dd := Below.drew (Below.refl wf.heap.size wf); have NZ : Hid (w.heap.size ≠ gz) := hid (by omega)
   go_region_held3 (fun W => W.cell? ⟨w.heap.size, 0, none⟩ = some (.bool (decide (s < 0))) ∧ W.cell? ⟨w.heap.size, 1, none⟩ = some (.slice af (words s.natAbs).length cf)) (refine ⟨?_, ?_⟩ <;> (first | assumption | (simp [go_sem, *]; done))) ((go_at_call 146; (first | (with_reducible refine (TI.out _ _ _ (Below.drew hbf) (hWf.below dd) (hef.below dd)).mono ?_) | (with_reducible refine (TI.out _ _ _ hbf hWf hef).mono ?_)); rintro e wg ⟨rfl, hR, hkg⟩; have f0g := ((hKf.below dd).keep hkg (Nat.le_refl _) (by simpa using NZ.out)).cell (i := 0) rfl; have f1g := ((hKf.below dd).keep hkg (Nat.le_refl _) (by simpa using NZ.out)).cell (i := 1) rfl))
   go_wp2_with fail
   go_ret
   exact ⟨rfl, hR, (Keeps.of_below hbf).drew.trans (hkg.mono hbf.size (fun _ _ h => h))⟩
theorem badded (gz gx gy : Nat) (z0 z1 z2 : Value) (x y : _root_.Rat) (tt : Bool) (w : World) (hz : Bk w gz [z0, z1, z2] 88) (hx : Ra 88 w gx x) (hy : Ra 88 w gy y) (lx : (words x.num.natAbs).length ≤ 17179869184) (mx : (words x.den).length ≤ 17179869184) (ly : (words y.num.natAbs).length ≤ 17179869184) (my : (words y.den).length ≤ 17179869184) (hvr : Vr w) :
 Calls Tryz.prog 159 #[.pointer (some ⟨gz, 0, none⟩), .pointer (some ⟨gx, 0, none⟩), .pointer (some ⟨gy, 0, none⟩), .bool tt] w fun e w' => e = .returned (.pointer (some ⟨gz, 0, none⟩)) ∧ Ra 88 w' gz (x + if tt then -y else y) ∧ Keeps w.heap.size [gz] w w' := by
 obtain ⟨vx, dx, bx, wx, ex⟩ := hx; obtain ⟨vy, dy, by_, wy, ey⟩ := hy; obtain ⟨r, hr⟩ : ∃ r, r = x + if tt then -y else y := ⟨_, rfl⟩
 rw [← hr]; obtain ⟨P, hP⟩ : ∃ P, P = x.den := ⟨_, rfl⟩; obtain ⟨Q, hQ⟩ : ∃ Q, Q = y.den := ⟨_, rfl⟩; obtain ⟨G, hG⟩ : ∃ G, G = Nat.gcd P Q := ⟨_, rfl⟩; have hP0 : P ≠ 0 := by rw [hP]; exact x.den_nz
 have hQ0 : Q ≠ 0 := by rw [hQ]; exact y.den_nz
 have hG0 : G ≠ 0 := fun e => hP0 (Nat.eq_zero_of_gcd_eq_zero_left (hG.symm.trans e))
 obtain ⟨P1, hP1⟩ : ∃ P1, P1 = P / G := ⟨_, rfl⟩; obtain ⟨Q1, hQ1⟩ : ∃ Q1, Q1 = Q / G := ⟨_, rfl⟩; obtain ⟨sa, hsa⟩ : ∃ sa : Int, sa = x.num * (Q1 : Int) := ⟨_, rfl⟩; obtain ⟨sb, hsb⟩ : ∃ sb : Int, sb = (if tt then -y.num else y.num) * (P1 : Int) := ⟨_, rfl⟩
 obtain ⟨s, hs⟩ : ∃ s : Int, s = sa + sb := ⟨_, rfl⟩; obtain ⟨H, hH⟩ : ∃ H, H = Nat.gcd s.natAbs G := ⟨_, rfl⟩; have AP := add_plain x (if tt then -y else y) s G H (by rw [turned_den, ← hP, ← hQ, hG]) (by rw [turned_num, turned_den, ← hP, ← hQ, ← hP1, ← hQ1, hs, hsa, hsb]) hH
 rw [turned_den, ← hr, ← hP, ← hQ, ← hP1] at AP; have hH0 : H ≠ 0 := fun e => hG0 (Nat.eq_zero_of_gcd_eq_zero_right (hH.symm.trans e))
 rw [← hP] at mx; rw [← hQ] at my
 have lG : (words G).length ≤ 17179869184 := by
  have h := Nat.gcd_le_left Q (Nat.pos_of_ne_zero hP0); rw [← hG] at h; have := len_mono h; omega
 have lH : (words H).length ≤ 17179869184 := by
  have h := Nat.gcd_le_right (m := s.natAbs) (Nat.pos_of_ne_zero hG0); rw [← hH] at h; have := len_mono h; omega
 have lP1 : (words P1).length ≤ 17179869184 := by
  have := len_mono (Nat.div_le_self P G); rw [← hP1] at this; omega
 have lQ1 : (words Q1).length ≤ 17179869184 := by
  have := len_mono (Nat.div_le_self Q G); rw [← hQ1] at this; omega
 have lQ2 : (words (Q / H)).length ≤ 17179869184 := by
  have := len_mono (Nat.div_le_self Q H); omega
 have na : x.num.natAbs * Q1 = sa.natAbs := by rw [hsa, ← sg_mulR, sg_abs]
 have nb : y.num.natAbs * P1 = sb.natAbs := by rw [hsb, ← sg_mulT, sg_abs]
 have la := mul_len x.num.natAbs Q1; have lb := mul_len y.num.natAbs P1; rw [na] at la; rw [nb] at lb; have ls0 := add_len sa.natAbs sb.natAbs; have ls1 : (words s.natAbs).length ≤ (words (sa.natAbs + sb.natAbs)).length := len_mono (by omega)
 have ls : (words s.natAbs).length ≤ 68719476737 := by omega
 obtain ⟨N, hN⟩ : ∃ N, N = s.natAbs / H := ⟨_, rfl⟩
 have lN : (words N).length ≤ 68719476737 := by
  have := len_mono (Nat.div_le_self s.natAbs H); rw [← hN] at this; omega
 obtain ⟨Q2, hQ2⟩ : ∃ Q2, Q2 = Q / H := ⟨_, rfl⟩; rw [← hQ2] at AP lQ2; rw [← hN] at AP; obtain ⟨M, hM⟩ : ∃ M, M = P1 * Q2 := ⟨_, rfl⟩; rw [← hM] at AP; have lM := mul_len P1 Q2; rw [← hM] at lM; have B1 := hid (fun w' (h : Below w.heap.size w w') => bbelow gx _ vx dx P w' (bx.below h) (by rw [hP]; exact ex.below h) hP0)
 have B2 := hid (fun w' (h : Below w.heap.size w w') => bbelow gy _ vy dy Q w' (by_.below h) (by rw [hQ]; exact ey.below h) hQ0)
 have CO := hid (fun v1 v2 w' (h : Below w.heap.size w w') (q1 : Wd w' v1 (words P)) (q2 : Wd w' v2 (words Q)) => bcommon v1 v2 P Q w' q1 q2 (by omega) (by omega) (hvr.below h))
 rw [← hG] at CO; have BYQ := hid (fun v1 v2 w' (q1 : Wd w' v1 (words Q)) (q2 : Wd w' v2 (words G)) => bby v1 v2 Q G w' q1 q2 (by omega) (by omega) hG0)
 rw [← hQ1] at BYQ; have BYP := hid (fun v1 v2 w' (q1 : Wd w' v1 (words P)) (q2 : Wd w' v2 (words G)) => bby v1 v2 P G w' q1 q2 (by omega) (by omega) hG0)
 rw [← hP1] at BYP; have M1 := hid (fun v w' (h : Below w.heap.size w w') (q : Wd w' v (words Q1)) => bmulW vx v x.num.natAbs Q1 w' (wx.below h) q (by omega))
 have M2 := hid (fun v w' (h : Below w.heap.size w w') (q : Wd w' v (words P1)) => bmulW vy v y.num.natAbs P1 w' (wy.below h) q (by omega))
 rw [na] at M1; rw [nb] at M2; have SA := hid (fun g z0 z1 v w' (h : Bk w' g [z0, z1] 86) (q : Wd w' v (words sa.natAbs)) => bisetI g z0 z1 (decide (x.num < 0)) v sa.natAbs w' h q (by omega) sa (by rw [hsa, ← sg_mulR, sg_abs]))
 have SB := hid (fun g z0 z1 v w' (h : Bk w' g [z0, z1] 86) (q : Wd w' v (words sb.natAbs)) => bisetI g z0 z1 (!(decide (y.num < 0) == tt)) v sb.natAbs w' h q (by omega) sb (by rw [hsb, ← sg_mulT, sg_abs]))
 have AD := hid (fun ga gb z0 z1 w' (h : Bk w' ga [z0, z1] 86) (h1 : In 86 w' ga sa) (h2 : In 86 w' gb sb) => biaddI ga ga gb z0 z1 sa sb w' h h1 h2 (by omega) (by omega) s hs)
 have CO2 := hid (fun v1 v2 w' (h : Below w.heap.size w w') (q1 : Wd w' v1 (words s.natAbs)) (q2 : Wd w' v2 (words G)) => bcommon v1 v2 s.natAbs G w' q1 q2 (by omega) (by omega) (hvr.below h))
 rw [← hH] at CO2; have BYA := hid (fun v1 v2 w' (q1 : Wd w' v1 (words s.natAbs)) (q2 : Wd w' v2 (words H)) => bby v1 v2 s.natAbs H w' q1 q2 (by omega) (by omega) hH0)
 rw [← hN] at BYA; have CP := hid (fun v w' (q : Wd w' v (words N)) => bcopied v (words N) w' q (by omega))
 have SZ := hid (fun v w' (h : Below w.heap.size w w') (q : Wd w' v (words N)) => bisetR gz z0 z1 z2 (decide (s < 0)) v N w' (hz.below h) q (by omega))
 have BYH := hid (fun v1 v2 w' (q1 : Wd w' v1 (words Q)) (q2 : Wd w' v2 (words H)) => bby v1 v2 Q H w' q1 q2 (by omega) (by omega) hH0)
 rw [← hQ2] at BYH; have M3 := hid (fun v1 v2 w' (q1 : Wd w' v1 (words P1)) (q2 : Wd w' v2 (words Q2)) => bmulW v1 v2 P1 Q2 w' q1 q2 (by omega))
 rw [← hM] at M3; have RS := hid (fun va vd w' (h : Below w.heap.size w w') (q1 : Wd w' va (words 0)) (q2 : Wd w' vd (words 1)) => brset gz z0 z1 z2 false va vd 0 1 w' (hz.below h) q1 q2 (by decide) (by rw [words_0]; simp) (by rw [words_one]; simp) (hvr.below h))
 have NZ0 : Hid (s ≠ 0 → N ≠ 0) := hid (fun h => by
  rw [hN, hH]; have h1 := Nat.gcd_le_left G (show 0 < s.natAbs by omega)
  have h2 := Nat.div_pos h1 (by rw [← hH]; omega)
  omega)
 have R0 : Hid (s = 0 → mkRat (sg false 0) 1 = r) := hid (fun h => by
  rw [AP.1, h, Rat.zero_mkRat]; simp [sg])
 have APH := hid AP; obtain ⟨ax, cx, rfl, -, -⟩ := wx.form; obtain ⟨ay, cy, rfl, -, -⟩ := wy.form; have BX := hid bx; have BY := hid by_; have HZ := hid hz; have hzl := hz.lt; haveI : Has w gx := ⟨bx.lt⟩; haveI : Has w gy := ⟨by_.lt⟩; haveI : Has w gz := ⟨hz.lt⟩; clear AP hr hP hQ hG hP0 hQ0 hG0 hP1 hQ1 hsa hsb hs hH hH0 lG lH lP1 lQ1 lQ2 na nb la lb ls0 ls1 ls hN lN hQ2 hM lM lx ly mx my wx wy ex ey bx by_ hz; generalize (words x.num.natAbs).length = kx at *; generalize (words y.num.natAbs).length = ky at *; generalize decide (x.num < 0) = nx at *; generalize decide (y.num < 0) = ny at *; go_enter Tryz.func159, Tryz.ntmps159; go_wp2_with (first | (go_at_call 126; (with_reducible refine (B1.out _ (Below.refl _ _)).mono ?_); rintro e w1 ⟨vp, rfl, hp1, hb1⟩) | (go_at_call 126; (with_reducible refine (B2.out _ hb1).mono ?_); rintro e w2 ⟨vq, rfl, hq2, hw2⟩; have hb2 := Below.trans hb1 (below_low hw2 hb1.size); have hp2 := hp1.below hw2) | (go_at_call 184; (with_reducible refine (CO.out _ _ _ hb2 hp2 hq2).mono ?_); rintro e w3 ⟨vg, rfl, hg3, -, hw3⟩; have hb3 := Below.trans hb2 (below_low hw3 hb2.size); have hp3 := hp2.below hw3; have hq3 := hq2.below hw3))
 have hA : Bk ((w3.alloc (.cells #[.bool false, .slice none 0 0] 86)).alloc (.cells #[.bool false, .slice none 0 0] 86)) w3.heap.size [.bool false, .slice none 0 0] 86 := ⟨by rw [block_alloc', block_at], by decide⟩
 have hB : Bk ((w3.alloc (.cells #[.bool false, .slice none 0 0] 86)).alloc (.cells #[.bool false, .slice none 0 0] 86)) (w3.heap.size + 1) [.bool false, .slice none 0 0] 86 := ⟨by rw [block_at], by decide⟩
 have d5 : Below w3.heap.size w3 ((w3.alloc (.cells #[.bool false, .slice none 0 0] 86)).alloc (.cells #[.bool false, .slice none 0 0] 86)) := ((Below.refl _ _).alloc (Nat.le_refl _) _).alloc (by simp) _
 generalize ((w3.alloc (.cells #[.bool false, .slice none 0 0] 86)).alloc (.cells #[.bool false, .slice none 0 0] 86)) = w5 at *; clear hp1 hb1 hq2 hw2 hb2 hp2 hw3; have b5 := Below.trans hb3 (below_low d5 hb3.size); have NE : Hid (w3.heap.size ≠ w3.heap.size + 1) := hid (by omega)
 have GB : Hid (w3.heap.size ≤ w3.heap.size + 1) := hid (Nat.le_succ _); have s3 := hb3.size; have NZ : Hid (w3.heap.size ≠ gz) := hid (by omega)
 have GA : Hid (w.heap.size ≤ w3.heap.size) := hid s3; clear s3; have x05 := (BX.out.below b5).cell (i := 0) rfl; have x15 := (BX.out.below b5).cell (i := 1) rfl; go_region_held3 (fun W => W.cell? ⟨gx, 0, none⟩ = some (.bool nx) ∧ W.cell? ⟨gx, 1, none⟩ = some (.slice ax kx cx)) (refine ⟨?_, ?_⟩ <;> (first | assumption | (simp [go_sem, *]; done))) (first | (go_at_call 185; (with_reducible refine (BYQ.out _ _ _ (hq3.below (Below.drew d5)) (hg3.below (Below.drew d5))).mono ?_); rintro e w6 ⟨v6, rfl, h6, hq6⟩; have c6 := Below.trans (Below.drew (Below.refl w5.heap.size w5)) hq6; have d6 := Below.trans d5 (below_low c6 d5.size); have b6 := Below.trans hb3 (below_low d6 hb3.size); have x06 := (BX.out.below b6).cell (i := 0) rfl; have x16 := (BX.out.below b6).cell (i := 1) rfl) | (go_at_call 142; (with_reducible refine (M1.out _ _ b6 h6).mono ?_); rintro e w7 ⟨v7, rfl, h7, -, hq7⟩; have c7 := Below.trans c6 (below_low hq7 c6.size); have d7 := Below.trans d6 (below_low hq7 d6.size); have b7 := Below.trans hb3 (below_low d7 hb3.size); have x07 := (BX.out.below b7).cell (i := 0) rfl; have x17 := (BX.out.below b7).cell (i := 1) rfl) | (go_at_call 171; (with_reducible refine (SA.out _ _ _ _ _ (hA.below c7) h7).mono ?_); rintro e w8 ⟨rfl, hI8, hk8⟩; have d8 := below_keeps d7 hk8 (Nat.le_refl _) d7.size; have b8 := Below.trans hb3 (below_low d8 hb3.size); have hB8 := (hB.below c7).keep hk8 (Nat.le_refl _) (by simp); have x08 := (BX.out.below b8).cell (i := 0) rfl; have x18 := (BX.out.below b8).cell (i := 1) rfl))
 all_goals
  clear x05 x15 x06 x16 x07 x17 x08 x18 h6 h7 hq6 hq7 c6 c7 d5 d6 d7 b5 b6 b7 hk8 hA hB; go_wp2_with fail
  have y08 := (BY.out.below b8).cell (i := 0) rfl; have y18 := (BY.out.below b8).cell (i := 1) rfl; go_region_held3 (fun W => W.cell? ⟨gy, 0, none⟩ = some (.bool ny) ∧ W.cell? ⟨gy, 1, none⟩ = some (.slice ay ky cy)) (refine ⟨?_, ?_⟩ <;> (first | assumption | (simp [go_sem, *]; done))) (first | (go_at_call 185; (with_reducible refine (BYP.out _ _ _ (hp3.below (Below.drew d8)) (hg3.below (Below.drew d8))).mono ?_); rintro e w9 ⟨v9, rfl, h9, hq9⟩; have c9 := Below.trans (Below.drew (Below.refl w8.heap.size w8)) hq9; have d9 := Below.trans d8 (below_low c9 d8.size); have b9 := Below.trans hb3 (below_low d9 hb3.size); have y09 := (BY.out.below b9).cell (i := 0) rfl; have y19 := (BY.out.below b9).cell (i := 1) rfl) | (go_at_call 142; (with_reducible refine (M2.out _ _ b9 h9).mono ?_); rintro e wa ⟨va, rfl, ha, -, hqa⟩; have ca := Below.trans c9 (below_low hqa c9.size); have da := Below.trans d9 (below_low hqa d9.size); have ba := Below.trans hb3 (below_low da hb3.size); have y0a := (BY.out.below ba).cell (i := 0) rfl; have y1a := (BY.out.below ba).cell (i := 1) rfl) | (go_at_call 171; (with_reducible refine (SB.out _ _ _ _ _ (hB8.below ca) ha).mono ?_); rintro e wb ⟨rfl, hJb, hkb⟩; have db := below_keeps da hkb GB.out da.size; have bb := Below.trans hb3 (below_low db hb3.size); have hIb := (hI8.below ca).keep (hB8.below ca) hkb NE.out; have y0b := (BY.out.below bb).cell (i := 0) rfl; have y1b := (BY.out.below bb).cell (i := 1) rfl))
  all_goals
   clear y08 y18 y09 y19 y0a y1a y0b y1b h9 ha hq9 hqa c9 ca d8 d9 da b8 b9 ba hkb hB8 hI8; obtain ⟨vI, hIk, hIw⟩ := id hIb; have hzb : (words 0).length = 0 := by rw [words_0]; rfl
   by_cases hs0 : s = 0
   · have R := R0.out hs0; rw [R] at RS; have HL : Hid ((words s.natAbs).length = 0) := hid (by rw [hs0]; exact hzb)
     clear NZ0 R0 APH R hzb hs0; go_wp2_with (first | (go_at_call 170; (with_reducible refine (AD.out _ _ _ _ _ hIk hIb hJb).mono ?_); rintro e wf ⟨rfl, ⟨vf, hKf, hWf⟩, hkf⟩; obtain ⟨af, cf, rfl, -, -⟩ := hWf.form; have f1 := hKf.cell (i := 1) rfl; rw [HL.out] at f1; have df := below_keeps db hkf (Nat.le_refl _) db.size; have bf := Below.trans hb3 (below_low df hb3.size); clear hWf) | (go_at_call 158; (with_reducible refine (RS.out _ _ _ (bf.alloc bf.size _) (by rw [words_0]; exact Wd.nil _) ?_).mono ?_); (focus (have q : Ro (wf.alloc (.cells #[.int .u32 1] 190)) wf.heap.size [1] := (by unfold Ro; simp only [block_at]; rfl); rw [words_one]; exact q.wd (cap := 1) (Nat.le_refl _))); rintro e wg ⟨rfl, hR, hkg⟩))
     go_ret
     exact ⟨rfl, hR, ((Keeps.of_below bf).alloc bf.size _).trans (hkg.mono (by have := bf.size; simp; omega) (fun _ _ h => h))⟩
   · have hN0 := NZ0.out hs0
     have e1 : (((words s.natAbs).length : Int) == 0) = false := beq_eq_false_iff_ne.2 (by
      have : (words s.natAbs).length ≠ 0 := fun e => hs0 (by have := words_len0.1 e; omega)
      omega)
     have N0 : Hid (decide (N ≠ 0) = true) := hid (decide_eq_true hN0); clear NZ0 R0 RS hzb hs0 hN0; go_wp2_with (first | (go_at_call 170; (with_reducible refine (AD.out _ _ _ _ _ hIk hIb hJb).mono ?_); rintro e wf ⟨rfl, ⟨vf, hKf, hWf⟩, hkf⟩; obtain ⟨af, cf, rfl, -, -⟩ := hWf.form; have f1 := hKf.cell (i := 1) rfl; have df := below_keeps db hkf (Nat.le_refl _) db.size; have bf := Below.trans hb3 (below_low df hb3.size)) | (go_at_call 184; (with_reducible refine (CO2.out _ _ _ bf hWf (hg3.below df)).mono ?_); rintro e wg ⟨vh, rfl, hhg, -, hqg⟩; have dg := Below.trans df (below_low hqg df.size); have bg := Below.trans hb3 (below_low dg hb3.size)))
     have fg0 := (hKf.below hqg).cell (i := 0) rfl; have fg1 := (hKf.below hqg).cell (i := 1) rfl; have DG := Below.drew (Below.refl wg.heap.size wg); clear f1 hIb hJb hkf hIk hIw; go_region_held3 (fun W => W.cell? ⟨w3.heap.size, 0, none⟩ = some (.bool (decide (s < 0))) ∧ W.cell? ⟨w3.heap.size, 1, none⟩ = some (.slice af (words s.natAbs).length cf)) (refine ⟨?_, ?_⟩ <;> (first | assumption | (simp [go_sem, *]; done))) (first | (go_at_call 185; (with_reducible refine (BYA.out _ _ _ ((hWf.below hqg).below DG) (hhg.below DG)).mono ?_); rintro e wh ⟨vN, rfl, hNh, hqh⟩; have ch := Below.trans DG hqh; have dh := Below.trans dg (below_low ch dg.size); have bh := Below.trans hb3 (below_low dh hb3.size); have fh0 := ((hKf.below hqg).below ch).cell (i := 0) rfl; have fh1 := ((hKf.below hqg).below ch).cell (i := 1) rfl) | (go_at_call 188; (with_reducible refine (CP.out _ _ hNh).mono ?_); rintro e wi ⟨gi, rfl, hNi, -, hqi⟩; have ci := Below.trans ch (below_low hqi ch.size); have di := Below.trans dh (below_low hqi dh.size); have bi := Below.trans hb3 (below_low di hb3.size); have fi0 := ((hKf.below hqg).below ci).cell (i := 0) rfl; have fi1 := ((hKf.below hqg).below ci).cell (i := 1) rfl) | (go_at_call 171; (with_reducible refine (SZ.out _ _ bi (hNi.wd (Nat.le_refl _))).mono ?_); rintro e wj ⟨vz, rfl, hZj, hVj, hkj⟩; have hZi := HZ.out.below bi; have hhj := (hhg.below ci).keepB hZi hkj; have hpj := (hp3.below di).keepB hZi hkj; have hqj := (hq3.below di).keepB hZi hkj; have hgj := (hg3.below di).keepB hZi hkj; have fj0 := (((hKf.below hqg).below ci).keep hkj (Nat.le_refl _) (by simpa using NZ.out)).cell (i := 0) rfl; have fj1 := (((hKf.below hqg).below ci).keep hkj (Nat.le_refl _) (by simpa using NZ.out)).cell (i := 1) rfl))
     all_goals
      clear fg0 fg1 fh0 fh1 fi0 fi1 fj0 fj1 DG ch ci dh di dg df hqg hqh hqi hNh hNi hKf hWf; go_wp2_with (first | (go_at_call 185; (with_reducible refine (BYP.out _ _ _ hpj hgj).mono ?_); rintro e wk ⟨vk, rfl, hPk, hqk⟩) | (go_at_call 185; (with_reducible refine (BYH.out _ _ _ (hqj.below hqk) (hhj.below hqk)).mono ?_); rintro e wl ⟨vl, rfl, hQl, hql⟩; have cl := Below.trans hqk (below_low hql hqk.size); have hPl := hPk.below hql) | (go_at_call 142; (with_reducible refine (M3.out _ _ _ hPl hQl).mono ?_); rintro e wm ⟨vM, rfl, hMm, -, hqm⟩; obtain ⟨aM, cM, rfl, -, -⟩ := hMm.form; have cm := Below.trans cl (below_low hqm cl.size); have hZm := hZj.below cm; have hVm := hVj.below cm; have fm := hZm.free 2; have gm := hZm.cell (i := 2) rfl; haveI : Has wm gz := ⟨hZm.lt⟩))
      go_ret
      have hZn := hZm.set 2 (.slice aM (words M).length cM); refine ⟨rfl, ⟨vz, .slice aM (words M).length cM, ?_, ?_, .inr ?_⟩, (((Keeps.of_below bi).trans (hkj.mono bi.size (fun _ _ h => h))).trans ((Keeps.of_below cm).mono (Nat.le_trans bi.size hkj.size) (fun _ _ h => h))).set (Or.inl (by simp)) _ _⟩
      · rw [APH.out.2.1, sg_neg]; exact hZn
      · rw [APH.out.2.1, sg_abs]; exact hVm.setB hZm _ _
      · rw [APH.out.2.2]; exact hMm.setB hZm _ _
end Go.Proofs.YthjeejnggpjnjaaGreatDoor
