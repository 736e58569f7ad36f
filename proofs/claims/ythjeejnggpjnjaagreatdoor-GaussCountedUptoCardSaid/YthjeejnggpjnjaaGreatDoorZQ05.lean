/- A part: FF, DR, DS, FG, FP, EB, FH, FQ. -/
import Derived.Test.YthjeejnggpjnjaaGreatDoorZQ02
import Derived.Test.YthjeejnggpjnjaaGreatDoorZQ04
set_option linter.unusedSimpArgs false
set_option linter.unusedVariables false
set_option maxRecDepth 100000
set_option maxHeartbeats 16000000
set_option synthInstance.maxHeartbeats 2000000
set_option synthInstance.maxSize 100000
namespace Go.Proofs.YthjeejnggpjnjaaGreatDoor
open Go.RowKit
set_option maxRecDepth 100000
def cofr (c : Nat × Nat) : Cx := (frat c.1, frat c.2)
def hor (l : List Cx) (z : Cx) : Cx := l.foldr (fun c v => pls c (tim z v)) (0, 0)
theorem hor_cons (c : Cx) (l : List Cx) (z : Cx) : hor (c :: l) z = pls c (tim z (hor l z)) := rfl
theorem pc_hor (l : List Cx) : PC l.length (hor l) := by
 induction l with
 | nil => exact fun z => rfl
 | cons c l ih => exact ⟨c, hor l, ih, fun z => rfl⟩
def cv (A : List Cx) (t : Qt) : Cx := (psum (fun k => (A.getD k (0, 0)).1) A.length t, psum (fun k => (A.getD k (0, 0)).2) A.length t)
theorem getD_out {A : List Cx} {k : Nat} (h : A.length ≤ k) : A.getD k (0, 0) = (0, 0) := by
 rw [List.getD_eq_getElem?_getD, List.getElem?_eq_none h]; rfl
theorem nextN_getD (A : List Cx) (F S c : Cx) {k : Nat} (hk : k < A.length + 1) :
 (nextN A F S c).getD k (0, 0) = pls (if k = 0 then c else (0, 0)) (pls (tim (A.getD k (0, 0)) F) (if 1 ≤ k then tim (A.getD (k - 1) (0, 0)) S else (0, 0))) := by
 have r : ∀ k, roundN A F S k = pls (tim (A.getD k (0, 0)) F) (if 1 ≤ k then tim (A.getD (k - 1) (0, 0)) S else (0, 0)) := by
  intro k
  have f : firstN A F k = tim (A.getD k (0, 0)) F := by
   unfold firstN
   split
   · unfold addN mulN tim; ext <;> grind
   · rw [getD_out (by omega)]; unfold tim; ext <;> grind
  unfold roundN; rw [f]
  split
  · rw [if_pos (by omega)]; rfl
  · rw [if_neg (by omega)]; unfold pls; ext <;> grind
 unfold nextN; rcases k with _ | k
 · rw [List.getD_cons_zero, r, if_pos rfl]; unfold addN pls; ext <;> grind
 · rw [List.getD_cons_succ, List.getD_eq_getElem?_getD, List.getElem?_map, List.getElem?_range (by omega)]
   show roundN A F S (k + 1) = _
   rw [r, if_neg (show ¬ k + 1 = 0 by omega)]
   unfold pls; ext <;> grind
theorem psum_first (x : Qt) (n : Nat) (t : Qt) : psum (fun k => if k = 0 then x else 0) (n + 1) t = x := by
 induction n with
 | zero =>
   show (0 : Qt) + x * t ^ 0 = x
   rw [Rat.pow_zero]; grind
 | succ n ih => rw [psum, ih, if_neg (by omega)]; grind
theorem psum_up (f : Nat → Qt) (n : Nat) (t : Qt) : psum (fun k => if 1 ≤ k then f (k - 1) else 0) (n + 1) t = t * psum f n t := by
 have := psum_shift 1 f n t; rw [Nat.add_comm 1 n, Rat.pow_one] at this; exact this
theorem cv_next (A : List Cx) (F S c : Cx) (t : Qt) : cv (nextN A F S c) t = pls c (tim (F.1 + t * S.1, F.2 + t * S.2) (cv A t)) := by
 have e1 : psum (fun k => ((nextN A F S c).getD k (0, 0)).1) (A.length + 1) t = c.1 + ((F.1 * psum (fun k => (A.getD k (0, 0)).1) A.length t + (-F.2) * psum (fun k => (A.getD k (0, 0)).2) A.length t) + t * (S.1 * psum (fun k => (A.getD k (0, 0)).1) A.length t + (-S.2) * psum (fun k => (A.getD k (0, 0)).2) A.length t)) := by
  rw [psum_congr (g := fun k => (if k = 0 then c.1 else 0) + ((F.1 * (A.getD k (0, 0)).1 + (-F.2) * (A.getD k (0, 0)).2) + (if 1 ≤ k then (S.1 * (A.getD (k - 1) (0, 0)).1 + (-S.2) * (A.getD (k - 1) (0, 0)).2) else 0))) (fun k hk => ?_)]
  · rw [psum_add, psum_first, psum_add, psum_up (fun k => S.1 * (A.getD k (0, 0)).1 + (-S.2) * (A.getD k (0, 0)).2), psum_add, psum_add, psum_mul, psum_mul, psum_mul, psum_mul]
    rw [psum_more (n := A.length) (m := A.length + 1) (by omega) (fun i hi => by rw [getD_out hi]), psum_more (n := A.length) (m := A.length + 1) (by omega) (fun i hi => by rw [getD_out hi])]
  · rw [nextN_getD A F S c hk]; unfold pls tim
    split <;> split <;> grind
 have e2 : psum (fun k => ((nextN A F S c).getD k (0, 0)).2) (A.length + 1) t = c.2 + ((F.2 * psum (fun k => (A.getD k (0, 0)).1) A.length t + F.1 * psum (fun k => (A.getD k (0, 0)).2) A.length t) + t * (S.2 * psum (fun k => (A.getD k (0, 0)).1) A.length t + S.1 * psum (fun k => (A.getD k (0, 0)).2) A.length t)) := by
  rw [psum_congr (g := fun k => (if k = 0 then c.2 else 0) + ((F.2 * (A.getD k (0, 0)).1 + F.1 * (A.getD k (0, 0)).2) + (if 1 ≤ k then (S.2 * (A.getD (k - 1) (0, 0)).1 + S.1 * (A.getD (k - 1) (0, 0)).2) else 0))) (fun k hk => ?_)]
  · rw [psum_add, psum_first, psum_add, psum_up (fun k => S.2 * (A.getD k (0, 0)).1 + S.1 * (A.getD k (0, 0)).2), psum_add, psum_add, psum_mul, psum_mul, psum_mul, psum_mul]
    rw [psum_more (n := A.length) (m := A.length + 1) (by omega) (fun i hi => by rw [getD_out hi]), psum_more (n := A.length) (m := A.length + 1) (by omega) (fun i hi => by rw [getD_out hi])]
  · rw [nextN_getD A F S c hk]; unfold pls tim
    split <;> split <;> grind
 unfold cv; rw [nextN_len, e1, e2]; unfold pls tim
 ext <;> grind
theorem cv_along (F S : Cx) (l : List (Nat × Nat)) (t : Qt) : cv (alongN F S l) t = hor (l.map cofr) (F.1 + t * S.1, F.2 + t * S.2) := by
 induction l with
 | nil => rfl
 | cons c l ih =>
   show cv (nextN (alongN F S l) F S (cofr c)) t = _
   rw [cv_next, ih]; rfl
theorem den_lcmD (d : Nat) (r : Qt) : d ∣ lcmD d r ∧ r.den ∣ lcmD d r := by
 unfold lcmD; refine ⟨Nat.dvd_mul_right _ _, ?_⟩
 obtain ⟨k, hk⟩ := Nat.gcd_dvd_left d r.den; obtain ⟨m, hm⟩ := Nat.gcd_dvd_right d r.den; have hg : 0 < Nat.gcd d r.den := Nat.gcd_pos_of_pos_right _ r.den_pos; have e : r.den / Nat.gcd d r.den = m := Nat.div_eq_of_eq_mul_right hg hm; rw [e]; refine ⟨k, ?_⟩
 generalize Nat.gcd d r.den = g at *; rw [hk, hm]
 grind
theorem lcmL_den (l : List Qt) (d : Nat) : d ∣ lcmL d l ∧ ∀ x ∈ l, x.den ∣ lcmL d l := by
 induction l generalizing d with
 | nil => exact ⟨Nat.dvd_refl _, fun x h => by cases h⟩
 | cons y l ih =>
   obtain ⟨h1, h2⟩ := ih (lcmD d y); obtain ⟨k1, k2⟩ := den_lcmD d y; refine ⟨Nat.dvd_trans k1 h1, fun x hx => ?_⟩
   rcases List.mem_cons.1 hx with rfl | hx
   · exact Nat.dvd_trans k2 h1
   · exact h2 x hx
theorem lcmL_ne (l : List Qt) {d : Nat} (hd : d ≠ 0) : lcmL d l ≠ 0 := by
 induction l generalizing d with
 | nil => exact hd
 | cons y l ih => exact ih (d := lcmD d y) (lcmD_pos hd)
theorem wholeI_val {D : Nat} {x : Qt} (h : x.den ∣ D) : ((wholeI D x : Int) : Qt) = (D : Qt) * x := by
 obtain ⟨k, rfl⟩ := h; unfold wholeI; have hd : (x.den : Int) ≠ 0 := by have := x.den_pos; omega
 rw [Int.natCast_mul, Int.mul_tdiv_cancel_left _ hd, Rat.intCast_mul, Rat.natCast_mul]
 have e : x * (x.den : Qt) = (x.num : Qt) := by
  have h0 : ((x.den : Nat) : Qt) ≠ 0 := by
   have : (0 : Qt) < ((x.den : Nat) : Qt) := Rat.natCast_pos.2 x.den_pos
   grind
  have h1 : x = (x.num : Qt) / (x.den : Qt) := by
   rw [← Rat.mkRat_eq_div, Rat.mkRat_self]
  have h2 := Rat.div_mul_cancel (a := (x.num : Qt)) h0; rw [← h1] at h2; exact h2
 rw [← e]; show x * _ * ((k : Nat) : Qt) = _
 grind
theorem evI_whole {D : Nat} {m : List Qt} (h : ∀ x ∈ m, x.den ∣ D) (t : Qt) : evI (cutI (m.map (wholeI D))) t = (D : Qt) * psum (fun k => m.getD k 0) m.length t := by
 rw [evI_cut]; unfold evI; rw [← psum_mul, List.length_map]; refine psum_congr (fun i hi => ?_) t
 unfold cofI; rw [List.getD_eq_getElem?_getD, List.getElem?_map, List.getD_eq_getElem?_getD, List.getElem?_eq_getElem hi]; exact wholeI_val (h _ (List.getElem_mem hi))
theorem side_val (l : List (Nat × Nat)) (lo hi : Nat × Nat) (i : Nat) : ∃ D : Qt, 0 < D ∧ (∀ t, evI (sideX l lo hi i) t = D * (hor (l.map cofr) (wayT (cornerF lo hi i) (cornerF lo hi ((i + 1) % 4)) t)).1) ∧ ∀ t, evI (sideY l lo hi i) t = D * (hor (l.map cofr) (wayT (cornerF lo hi i) (cornerF lo hi ((i + 1) % 4)) t)).2 := by
 have hA : ∀ t, cv (lineF l lo hi i) t = hor (l.map cofr) (wayT (cornerF lo hi i) (cornerF lo hi ((i + 1) % 4)) t) := fun t => cv_along _ _ _ t
 unfold sideX sideY wholeX wholeY; generalize lineF l lo hi i = A at *; have hD : wholeD (A.map Prod.fst) (A.map Prod.snd) ≠ 0 := lcmL_ne _ (lcmL_ne _ (by decide))
 have d1 : ∀ x ∈ A.map Prod.fst, x.den ∣ wholeD (A.map Prod.fst) (A.map Prod.snd) := fun x hx => Nat.dvd_trans ((lcmL_den _ _).2 x hx) (lcmL_den _ _).1
 have d2 : ∀ x ∈ A.map Prod.snd, x.den ∣ wholeD (A.map Prod.fst) (A.map Prod.snd) := fun x hx => (lcmL_den _ _).2 x hx
 refine ⟨((wholeD (A.map Prod.fst) (A.map Prod.snd) : Nat) : Qt), Rat.natCast_pos.2 (Nat.pos_of_ne_zero hD), fun t => ?_, fun t => ?_⟩
 · rw [evI_whole d1, ← hA, List.length_map]
   congr 1
   refine psum_congr (fun k hk => ?_) t
   rw [List.getD_eq_getElem?_getD, List.getElem?_map, List.getD_eq_getElem?_getD, List.getElem?_eq_getElem hk]; rfl
 · rw [evI_whole d2, ← hA, List.length_map]
   congr 1
   refine psum_congr (fun k hk => ?_) t
   rw [List.getD_eq_getElem?_getD, List.getElem?_map, List.getD_eq_getElem?_getD, List.getElem?_eq_getElem hk]; rfl
theorem trim_side (l : List (Nat × Nat)) (lo hi : Nat × Nat) (i : Nat) : Trim (sideX l lo hi i) ∧ Trim (sideY l lo hi i) := ⟨trim_cut _, trim_cut _⟩
theorem touch_bord (l : List (Nat × Nat)) (lo hi : Nat × Nat) : touchT l lo hi 4 = false ↔ Bord (hor (l.map cofr)) (cofr lo) (cofr hi) := by
 have one : ∀ i, sideZ (sideX l lo hi i) (sideY l lo hi i) = false ↔ LowC (fun t => hor (l.map cofr) (wayT (cornerF lo hi i) (cornerF lo hi ((i + 1) % 4)) t)) := by
  intro i; obtain ⟨D, hD, h1, h2⟩ := side_val l lo hi i; exact side_touch (F := fun t => hor (l.map cofr) (wayT (cornerF lo hi i) (cornerF lo hi ((i + 1) % 4)) t)) (trim_side l lo hi i).1 (trim_side l lo hi i).2 hD h1 h2
 have e : touchT l lo hi 4 = false ↔ ∀ i, i < 4 → sideZ (sideX l lo hi i) (sideY l lo hi i) = false := by
  unfold touchT; rw [List.any_eq_false]; exact ⟨fun h i hi' => by simpa using h i (List.mem_range.2 hi'), fun h i hi' => by rw [h i (List.mem_range.1 hi')]; decide⟩
 rw [e]
 constructor
 · intro h; exact ⟨(one 0).1 (h 0 (by omega)), (one 1).1 (h 1 (by omega)), (one 2).1 (h 2 (by omega)), (one 3).1 (h 3 (by omega))⟩
 · rintro ⟨h0, h1, h2, h3⟩ i hi'; rcases i with _ | _ | _ | _ | i
   · exact (one 0).2 h0
   · exact (one 1).2 h1
   · exact (one 2).2 h2
   · exact (one 3).2 h3
   · omega
theorem side_cut (l : List (Nat × Nat)) (lo hi : Nat × Nat) (i : Nat) (h : LowC (fun t => hor (l.map cofr) (wayT (cornerF lo hi i) (cornerF lo hi ((i + 1) % 4)) t))) :
 ∃ (V : Qt → Int) (N : Nat), sideT (sideX l lo hi i) (sideY l lo hi i) = V 0 - V 1 ∧ 1 ≤ N ∧ ∀ n, N ≤ n → ∀ a b, 0 ≤ a → a ≤ b → b ≤ 1 → Sd (hor (l.map cofr)) (wayT (cornerF lo hi i) (cornerF lo hi ((i + 1) % 4)) a) (wayT (cornerF lo hi i) (cornerF lo hi ((i + 1) % 4)) b) n = V a - V b := by
 obtain ⟨D, hD, h1, h2⟩ := side_val l lo hi i; exact side_parts (trim_side l lo hi i).1 (trim_side l lo hi i).2 hD h1 h2 h
theorem side_sum (l : List (Nat × Nat)) (lo hi : Nat × Nat) (i : Nat) (h : LowC (fun t => hor (l.map cofr) (wayT (cornerF lo hi i) (cornerF lo hi ((i + 1) % 4)) t))) :
 ∃ N : Nat, 1 ≤ N ∧ ∀ n, N ≤ n → ∀ c, 0 ≤ c → c ≤ 1 → sideT (sideX l lo hi i) (sideY l lo hi i) = Sd (hor (l.map cofr)) (cornerF lo hi i) (wayT (cornerF lo hi i) (cornerF lo hi ((i + 1) % 4)) c) n + Sd (hor (l.map cofr)) (wayT (cornerF lo hi i) (cornerF lo hi ((i + 1) % 4)) c) (cornerF lo hi ((i + 1) % 4)) n := by
 obtain ⟨V, N, h0, h1, h2⟩ := side_cut l lo hi i h; refine ⟨N, h1, fun n hn c c0 c1 => ?_⟩
 have a := h2 n hn 0 c (by grind) c0 c1
 have b := h2 n hn c 1 c0 c1 (by grind)
 rw [wayT_zero] at a; rw [wayT_one] at b; rw [a, b, h0]; omega
theorem Sd_same (F : Cx → Cx) (P : Cx) (n : Nat) : Sd F P P n = 0 := by
 unfold Sd; have e : ∀ t, wayT P P t = P := by intro t; unfold wayT; ext <;> grind
 rw [isum_congr (f := fun _ => 0) (fun i _ => by rw [e, e, dl_up rfl])]
 induction n with
 | zero => rfl
 | succ n ih => rw [isum, ih]; omega
theorem sum_turn (l : List (Nat × Nat)) (lo hi : Nat × Nat) (h : Bord (hor (l.map cofr)) (cofr lo) (cofr hi)) : ∃ N, ∀ n, N ≤ n → sumT l lo hi 4 = Wn (hor (l.map cofr)) (cofr lo) (cofr hi) n := by
 obtain ⟨h0, h1, h2, h3⟩ := h; obtain ⟨N0, p0, q0⟩ := side_sum l lo hi 0 h0; obtain ⟨N1, p1, q1⟩ := side_sum l lo hi 1 h1; obtain ⟨N2, p2, q2⟩ := side_sum l lo hi 2 h2; obtain ⟨N3, p3, q3⟩ := side_sum l lo hi 3 h3; refine ⟨N0 + N1 + N2 + N3, fun n hn => ?_⟩
 have a0 := q0 n (by omega) 0 (by grind) (by grind)
 have a1 := q1 n (by omega) 0 (by grind) (by grind)
 have a2 := q2 n (by omega) 0 (by grind) (by grind)
 have a3 := q3 n (by omega) 0 (by grind) (by grind)
 rw [wayT_zero, Sd_same, Int.zero_add] at a0 a1 a2 a3; rw [sumT, sumT, sumT, sumT, sumT, a0, a1, a2, a3, Int.zero_add]; rfl
def rhe (A D : Nat) : Nat := A / D + (decide (D < A % D * 2) || (decide (A % D * 2 = D) && decide (A / D % 2 = 1))).toNat
theorem rhe_le (A D : Nat) : rhe A D ≤ A / D + 1 := by
 unfold rhe; have : ∀ b : Bool, b.toNat ≤ 1 := by decide
 have := this (decide (D < A % D * 2) || (decide (A % D * 2 = D) && decide (A / D % 2 = 1))); omega
theorem rhe_ge (A D : Nat) : A / D ≤ rhe A D := by unfold rhe; omega
theorem rhe_mono {A D A' D' : Nat} (hD : 0 < D) (hD' : 0 < D') (h : A * D' ≤ A' * D) : rhe A D ≤ rhe A' D' := by
 have e := Nat.div_add_mod A D; have e' := Nat.div_add_mod A' D'; have hr := Nat.mod_lt A hD; have hr' := Nat.mod_lt A' hD'; have u1 := rhe_le A D; have u2 := rhe_ge A' D'; unfold rhe at *; generalize A / D = n at *; generalize A' / D' = n' at *; generalize A % D = r at *; generalize A' % D' = r' at *; subst e e'; have h1 : D * n * D' = n * (D * D') := by grind
 have h2 : D' * n' * D = n' * (D * D') := by grind
 rw [Nat.add_mul, Nat.add_mul, h1, h2] at h; have p : 0 < D * D' := Nat.mul_pos hD hD'; have q' : r' * D < D * D' := by rw [Nat.mul_comm D D']; exact Nat.mul_lt_mul_of_pos_right hr' hD
 rcases Nat.lt_trichotomy n n' with hn | hn | hn
 · omega
 · subst hn; have h3 : r * D' ≤ r' * D := by omega
   refine Nat.add_le_add_left ?_ _
   by_cases c1 : D < r * 2
   · have : D' < r' * 2 := by
      rcases Nat.lt_or_ge D' (r' * 2) with c | c
      · exact c
      · have a1 : D * D' < r * 2 * D' := Nat.mul_lt_mul_of_pos_right c1 hD'; have a2 : r' * 2 * D ≤ D' * D := Nat.mul_le_mul_right _ c; have a3 : r * 2 * D' = 2 * (r * D') := by grind
        have a4 : r' * 2 * D = 2 * (r' * D) := by grind
        rw [Nat.mul_comm D' D] at a2; omega
     rw [decide_eq_true this]; simp only [Bool.true_or, Bool.toNat_true]; exact Bool.toNat_le _
   · rw [decide_eq_false c1, Bool.false_or]; by_cases c2 : r * 2 = D ∧ n % 2 = 1
     · have : D' ≤ r' * 2 := by
        rcases Nat.lt_or_ge (r' * 2) D' with c | c
        · have a1 : D * D' = r * 2 * D' := by rw [c2.1]
          have a2 : r' * 2 * D < D' * D := Nat.mul_lt_mul_of_pos_right c hD; have a3 : r * 2 * D' = 2 * (r * D') := by grind
          have a4 : r' * 2 * D = 2 * (r' * D) := by grind
          rw [Nat.mul_comm D' D] at a2; omega
        · exact c
       rcases Nat.lt_or_ge D' (r' * 2) with c | c
       · rw [decide_eq_true c]; simp only [Bool.true_or, Bool.toNat_true]; exact Bool.toNat_le _
       · rw [decide_eq_true (show r' * 2 = D' by omega), decide_eq_true c2.2, decide_eq_true c2.1]
         simp
     · have : (decide (r * 2 = D) && decide (n % 2 = 1)) = false := by
        rw [Bool.and_eq_false_iff, decide_eq_false_iff_not, decide_eq_false_iff_not]; by_cases x : r * 2 = D
        · exact Or.inr (fun y => c2 ⟨x, y⟩)
        · exact Or.inl x
       rw [this]; exact Nat.zero_le _
 · exfalso
   have : (n' + 1) * (D * D') ≤ n * (D * D') := Nat.mul_le_mul_right _ hn; rw [Nat.add_mul] at this; omega
theorem rhe_scale {A D k : Nat} (hD : 0 < D) (hk : 0 < k) : rhe (A * k) (D * k) = rhe A D := by
 refine Nat.le_antisymm (rhe_mono (Nat.mul_pos hD hk) hD ?_) (rhe_mono hD (Nat.mul_pos hD hk) ?_)
 · exact Nat.le_of_eq (by grind)
 · exact Nat.le_of_eq (by grind)
theorem rhe_exact {n D : Nat} (hD : 0 < D) : rhe (n * D) D = n := by
 unfold rhe; rw [Nat.mul_div_cancel _ hD, Nat.mul_mod_left, decide_eq_false (by omega), decide_eq_false (by omega)]
 rfl
def uA (a : Nat) (u : Int) : Nat := a * 2 ^ (-u).toNat
def uD (d : Nat) (u : Int) : Nat := d * 2 ^ u.toNat
def Fits (a d : Nat) (u : Int) : Prop := -1074 ≤ u ∧ uA a u < 9007199254740992 * uD d u ∧ (u = -1074 ∨ 4503599627370496 * uD d u ≤ uA a u)
theorem uD_pos {d : Nat} (u : Int) (hd : d ≠ 0) : 0 < uD d u := Nat.mul_pos (Nat.pos_of_ne_zero hd) (Nat.pow_pos (by decide))
theorem cmpN_pos (m n : Nat) : decide (0 < cmpN m n) = decide (n < m) := by
 unfold cmpN; by_cases h : m < n
 · rw [if_pos h, decide_eq_false (by omega), decide_eq_false (by omega)]
 · rw [if_neg h]; by_cases h2 : n < m
   · rw [if_pos h2, decide_eq_true (by omega), decide_eq_true h2]
   · rw [if_neg h2, decide_eq_false (by omega), decide_eq_false h2]
theorem cmpN_zero (m n : Nat) : decide (cmpN m n = 0) = decide (m = n) := by
 unfold cmpN; by_cases h : m < n
 · rw [if_pos h, decide_eq_false (by omega), decide_eq_false (by omega)]
 · rw [if_neg h]; by_cases h2 : n < m
   · rw [if_pos h2, decide_eq_false (by omega), decide_eq_false (by omega)]
   · rw [if_neg h2, decide_eq_true (by omega), decide_eq_true (by omega)]
theorem rhe_half (A D : Nat) (hD : 0 < D) : rhe A (D * 2) = A / D / 2 + (decide (A / D % 2 = 1) && (!decide (A % D = 0) || decide (A / D / 2 % 2 = 1))).toNat := by
 unfold rhe; rw [← Nat.div_div_eq_div_mul, Nat.mod_mul]; have hr := Nat.mod_lt A hD; generalize A % D = r at *; generalize A / D = n at *
 congr 1
 congr 1
 rcases Nat.mod_two_eq_zero_or_one n with h | h
 · rw [h, Nat.mul_zero, Nat.add_zero, decide_eq_false (show ¬ D * 2 < r * 2 by omega), decide_eq_false (show ¬ r * 2 = D * 2 by omega)]
   rfl
 · rw [h, Nat.mul_one, decide_eq_true (show (1 : Nat) = 1 from rfl), Bool.true_and]
   by_cases h0 : r = 0
   · subst h0; rw [decide_eq_false (show ¬ D * 2 < (0 + D) * 2 by omega), decide_eq_true (show (0 + D) * 2 = D * 2 by omega), decide_eq_true (show (0 : Nat) = 0 from rfl)]
     rfl
   · rw [decide_eq_true (show D * 2 < (r + D) * 2 by omega), decide_eq_false h0]
     rfl
theorem nA_u (a d : Nat) : nA a d = uA a (nunit a d) := rfl
theorem nD_u (a d : Nat) : nD a d = uD d (nunit a d) := rfl
theorem u_next (a d : Nat) (u : Int) : ∃ k, 0 < k ∧ uA a u = uA a (u + 1) * k ∧ uD d u * 2 = uD d (u + 1) * k := by
 unfold uA uD; by_cases h : 0 ≤ u
 · refine ⟨1, by decide, ?_, ?_⟩
   · rw [show (-u).toNat = 0 by omega, show (-(u + 1)).toNat = 0 by omega, Nat.mul_one, Nat.mul_one]
   · rw [show (u + 1).toNat = u.toNat + 1 by omega, Nat.pow_succ, Nat.mul_one, Nat.mul_assoc]
 · refine ⟨2, by decide, ?_, ?_⟩
   · rw [show (-u).toNat = (-(u + 1)).toNat + 1 by omega, Nat.pow_succ, Nat.mul_assoc]
   · rw [show u.toNat = 0 by omega, show (u + 1).toNat = 0 by omega]
theorem near_spec {a d : Nat} (ha : a ≠ 0) (hd : d ≠ 0) : ∃ u, Fits a d u ∧ nearN a d = (rhe (uA a u) (uD d u), u) := by
 have hp := nD_pos (a := a) hd; unfold nearN nround; have hq := nq_lt ha hd; have hg := nq_ge ha hd; by_cases h : 9007199254740992 ≤ nA a d / nD a d
 · rw [if_pos h, ← rhe_half _ _ hp]; refine ⟨nunit a d + 1, ?_, ?_⟩
   · obtain ⟨k, hk, e1, e2⟩ := u_next a d (nunit a d); rw [← nA_u, ← nD_u] at *; refine ⟨by unfold nunit; omega, ?_, Or.inr ?_⟩
     · rw [Nat.div_lt_iff_lt_mul hp, e1] at hq; have : uA a (nunit a d + 1) * k < 9007199254740992 * uD d (nunit a d + 1) * k := by rw [Nat.mul_assoc, ← e2]; omega
       exact Nat.lt_of_mul_lt_mul_right this
     · rw [Nat.le_div_iff_mul_le hp, e1] at h; have : 4503599627370496 * uD d (nunit a d + 1) * k ≤ uA a (nunit a d + 1) * k := by rw [Nat.mul_assoc, ← e2]; omega
       exact Nat.le_of_mul_le_mul_right this hk
   · obtain ⟨k, hk, e1, e2⟩ := u_next a d (nunit a d); rw [nA_u, nD_u, e1, e2, rhe_scale (uD_pos _ hd) hk]
 · rw [if_neg h, cmpN_pos, cmpN_zero]; refine ⟨nunit a d, ⟨by unfold nunit; omega, ?_, ?_⟩, rfl⟩
   · rw [← nA_u, ← nD_u]; exact (Nat.div_lt_iff_lt_mul hp).1 (by omega)
   · by_cases e : nunit a d = -1074
     · exact Or.inl e
     · refine Or.inr ?_
       rw [← nA_u, ← nD_u]; exact (Nat.le_div_iff_mul_le hp).1 (hg e)
theorem fits_le {a d a' d' : Nat} {u u' : Int} (hd : d ≠ 0) (hd' : d' ≠ 0) (h : a * d' ≤ a' * d) (f : Fits a d u) (f' : Fits a' d' u') : u ≤ u' := by
 by_cases hu : u ≤ u'
 · exact hu
 · exfalso
   obtain ⟨g1, -, g3⟩ := f; obtain ⟨g1', g2', -⟩ := f'; have k1 := g3.resolve_left (by omega)
   unfold uA uD at k1 g2'
   have hpw : 2 ^ u'.toNat * 2 ^ (-u).toNat * 2 ≤ 2 ^ u.toNat * 2 ^ (-u').toNat := by
    rw [← Nat.pow_add, ← Nat.pow_add, ← Nat.pow_succ]; exact Nat.pow_le_pow_right (by decide) (by omega)
   have m0 : 0 < 2 ^ (-u).toNat := Nat.pow_pos (by decide)
   have p0 : 0 < 2 ^ u'.toNat := Nat.pow_pos (by decide)
   generalize 2 ^ u'.toNat = p' at *; generalize 2 ^ (-u).toNat = m at *; generalize 2 ^ u.toNat = p at *; generalize 2 ^ (-u').toNat = m' at *; have s1 : 4503599627370496 * (d * p) * (d' * m') ≤ a * m * (d' * m') := Nat.mul_le_mul_right _ k1; have s2 : a * d' * (m * m') ≤ a' * d * (m * m') := Nat.mul_le_mul_right _ h; have hdm : 0 < d * m := Nat.mul_pos (Nat.pos_of_ne_zero hd) m0; have s3 : a' * m' * (d * m) < 9007199254740992 * (d' * p') * (d * m) := Nat.mul_lt_mul_of_pos_right g2' hdm; have s4 : d * d' * (p' * m * 2) ≤ d * d' * (p * m') := Nat.mul_le_mul_left _ hpw; have e1 : 4503599627370496 * (d * p) * (d' * m') = 4503599627370496 * (d * d' * (p * m')) := by grind
   have e2 : a * m * (d' * m') = a * d' * (m * m') := by grind
   have e3 : a' * m' * (d * m) = a' * d * (m * m') := by grind
   have e4 : 9007199254740992 * (d' * p') * (d * m) = 4503599627370496 * (d * d' * (p' * m * 2)) := by grind
   rw [e1, e2] at s1; rw [e3, e4] at s3; omega
theorem near_of_fits {a d : Nat} {u : Int} (ha : a ≠ 0) (hd : d ≠ 0) (f : Fits a d u) : nearN a d = (rhe (uA a u) (uD d u), u) := by
 obtain ⟨v, fv, e⟩ := near_spec ha hd; have h1 := fits_le hd hd (Nat.le_refl _) f fv; have h2 := fits_le hd hd (Nat.le_refl _) fv f; have : v = u := by omega
 subst this; exact e
theorem fits_hi {a d : Nat} {u : Int} (hd : d ≠ 0) (f : Fits a d u) : rhe (uA a u) (uD d u) ≤ 9007199254740992 := by
 have h1 := (Nat.div_lt_iff_lt_mul (uD_pos u hd)).2 f.2.1; have h2 := rhe_le (uA a u) (uD d u); omega
theorem fits_lo {a d : Nat} {u : Int} (hd : d ≠ 0) (f : Fits a d u) (h : u ≠ -1074) : 4503599627370496 ≤ rhe (uA a u) (uD d u) :=
 Nat.le_trans ((Nat.le_div_iff_mul_le (uD_pos u hd)).2 (f.2.2.resolve_left h)) (rhe_ge _ _)
theorem nfin_mono {a d a' d' : Nat} (ha : a ≠ 0) (hd : d ≠ 0) (ha' : a' ≠ 0) (hd' : d' ≠ 0) (h : a * d' ≤ a' * d) : nfin a d ≤ nfin a' d' := by
 obtain ⟨u, f, e⟩ := near_spec ha hd; obtain ⟨u', f', e'⟩ := near_spec ha' hd'; have hu := fits_le hd hd' h f f'; unfold nfin; rw [e, e']
 dsimp only
 by_cases huu : u = u'
 · subst huu
   have : rhe (uA a u) (uD d u) ≤ rhe (uA a' u) (uD d' u) := by
    refine rhe_mono (uD_pos u hd) (uD_pos u hd') ?_
    unfold uA uD; have := Nat.mul_le_mul_right (2 ^ (-u).toNat * 2 ^ u.toNat) h
    have e1 : a * d' * (2 ^ (-u).toNat * 2 ^ u.toNat) = a * 2 ^ (-u).toNat * (d' * 2 ^ u.toNat) := by
     generalize 2 ^ (-u).toNat = x; generalize 2 ^ u.toNat = y
     grind
    have e2 : a' * d * (2 ^ (-u).toNat * 2 ^ u.toNat) = a' * 2 ^ (-u).toNat * (d * 2 ^ u.toNat) := by
     generalize 2 ^ (-u).toNat = x; generalize 2 ^ u.toNat = y
     grind
    omega
   generalize rhe (uA a u) (uD d u) = n at *; generalize rhe (uA a' u) (uD d' u) = n' at *; by_cases h0 : n = 0
   · rw [if_pos h0]; exact Nat.zero_le _
   · rw [if_neg h0, if_neg (by omega)]
     omega
 · have a1 := fits_hi hd f; have a2 := fits_lo hd' f' (by have := f.1; omega)
   have := f.1; generalize rhe (uA a u) (uD d u) = n at *; generalize rhe (uA a' u') (uD d' u') = n' at *; by_cases h0 : n = 0
   · rw [if_pos h0]; exact Nat.zero_le _
   · rw [if_neg h0, if_neg (by omega)]
     have : (u + 1074).toNat + 1 ≤ (u' + 1074).toNat := by omega
     generalize (u + 1074).toNat = x at *; generalize (u' + 1074).toNat = y at *; omega
theorem nfin_self {a d f p : Nat} (hd : d ≠ 0) (ha : a ≠ 0) (h : a * 2 ^ (1075 - p) = f * 2 ^ (p - 1075) * d) (hp : 1 ≤ p) (hp2 : p < 2047) (hf : f < 9007199254740992) (hf0 : f ≠ 0) (hn : p = 1 ∨ 4503599627370496 ≤ f) : nfin a d = f + (p - 1) * 4503599627370496 := by
 have hA : uA a ((p : Int) - 1075) = f * uD d ((p : Int) - 1075) := by
  unfold uA uD; rw [show (-((p : Int) - 1075)).toNat = 1075 - p by omega, show ((p : Int) - 1075).toNat = p - 1075 by omega, h]
  rw [Nat.mul_assoc, Nat.mul_comm d]
 have hu := uD_pos ((p : Int) - 1075) hd
 have fit : Fits a d ((p : Int) - 1075) := by
  refine ⟨by omega, ?_, ?_⟩
  · rw [hA]; exact Nat.mul_lt_mul_of_pos_right hf hu
  · rcases hn with hn | hn
    · exact Or.inl (by omega)
    · exact Or.inr (by rw [hA]; exact Nat.mul_le_mul_right _ hn)
 unfold nfin; rw [near_of_fits ha hd fit, hA, rhe_exact hu]
 dsimp only
 rw [if_neg hf0, show ((p : Int) - 1075 + 1074).toNat = p - 1 by omega]
 have : (p - 1) * 4503599627370496 ≤ 2045 * 4503599627370496 := Nat.mul_le_mul_right _ (by omega)
 omega
theorem srung_nb (x : _root_.Rat) : srung (nbits x) = if x.num < 0 then -((fmag x : Nat) : Int) else ((fmag x : Nat) : Int) := by
 have h1 := fmag_le x; unfold nbits; by_cases h0 : fmag x = 0
 · rw [if_pos h0, h0, show srung 0 = 0 by decide]
   split <;> rfl
 · rw [if_neg h0, fbits_eq]; unfold srung; by_cases h : x.num < 0
   · rw [if_pos h, if_pos h, if_neg (by omega)]
     omega
   · rw [if_neg h, if_neg h, if_pos (by omega)]
theorem fmag_mono {x y : _root_.Rat} (h : x.num.natAbs * y.den ≤ y.num.natAbs * x.den) : fmag x ≤ fmag y := by
 unfold fmag; by_cases hx : x.num = 0
 · rw [if_pos hx]; exact Nat.zero_le _
 · by_cases hy : y.num = 0
   · exfalso
     rw [hy, show (0 : Int).natAbs = 0 from rfl, Nat.zero_mul] at h
     have := Nat.mul_pos (Int.natAbs_pos.2 hx) y.den_pos; omega
   · rw [if_neg hx, if_neg hy]; exact nfin_mono (fun h => hx (Int.natAbs_eq_zero.1 h)) x.den_nz (fun h => hy (Int.natAbs_eq_zero.1 h)) y.den_nz h
theorem srung_mono {x y : _root_.Rat} (h : x ≤ y) : srung (nbits x) ≤ srung (nbits y) := by
 rw [Rat.le_iff] at h; rw [srung_nb, srung_nb]; have hx := x.den_pos; have hy := y.den_pos; by_cases h1 : x.num < 0
 · by_cases h2 : y.num < 0
   · rw [if_pos h1, if_pos h2]
     have : fmag y ≤ fmag x := by
      refine fmag_mono ?_
      have e1 : ((y.num.natAbs * x.den : Nat) : Int) = -(y.num * (x.den : Int)) := by
       rw [Int.natCast_mul, Int.ofNat_natAbs_of_nonpos (by omega), Int.neg_mul]
      have e2 : ((x.num.natAbs * y.den : Nat) : Int) = -(x.num * (y.den : Int)) := by
       rw [Int.natCast_mul, Int.ofNat_natAbs_of_nonpos (by omega), Int.neg_mul]
      omega
     omega
   · rw [if_pos h1, if_neg h2]; omega
 · by_cases h2 : y.num < 0
   · exfalso
     have p1 : 0 ≤ x.num * (y.den : Int) := Int.mul_nonneg (by omega) (by omega)
     have p2 : y.num * (x.den : Int) < 0 := Int.mul_neg_of_neg_of_pos h2 (by omega)
     omega
   · rw [if_neg h1, if_neg h2]
     have : fmag x ≤ fmag y := by
      refine fmag_mono ?_
      have e1 : ((y.num.natAbs * x.den : Nat) : Int) = y.num * (x.den : Int) := by
       rw [Int.natCast_mul, Int.natAbs_of_nonneg (by omega)]
      have e2 : ((x.num.natAbs * y.den : Nat) : Int) = x.num * (y.den : Int) := by
       rw [Int.natCast_mul, Int.natAbs_of_nonneg (by omega)]
      omega
     omega
theorem sg_zero (b : Bool) : sg b 0 = 0 := by cases b <;> rfl
theorem sg_sign {b : Bool} {m : Nat} (h : 0 < m) : (sg b m < 0) = (b = true) := by
 cases b
 · simp [sg]
 · simp [sg]; omega
theorem mkRat_iff (z z' : Int) {d d' : Nat} (h : d ≠ 0) (h' : d' ≠ 0) : mkRat z d = mkRat z' d' ↔ z * (d' : Int) = z' * (d : Int) := Rat.mkRat_eq_iff h h'
theorem frat_cross (a : Nat) : (frat a).num.natAbs * 2 ^ (1075 - fpow a) = fnum a * 2 ^ (fpow a - 1075) * (frat a).den := by
 have h := mkRat_iff (frat a).num (sg (fneg a) (fnum a * 2 ^ (fpow a - 1075))) (frat a).den_nz (two_ne (1075 - fpow a)); rw [Rat.mkRat_self] at h; have h2 := congrArg Int.natAbs (h.1 rfl); rw [Int.natAbs_mul, Int.natAbs_mul, Int.natAbs_natCast, Int.natAbs_natCast, sg_abs] at h2; exact h2
theorem frat_num_zero (a : Nat) : ((frat a).num = 0) = (fnum a = 0) := by
 refine propext ⟨fun h => ?_, fun h => ?_⟩
 · have e := frat_cross a; rw [h, show (0 : Int).natAbs = 0 from rfl, Nat.zero_mul] at e
   rcases Nat.mul_eq_zero.1 e.symm with h1 | h1
   · rcases Nat.mul_eq_zero.1 h1 with h2 | h2
     · exact h2
     · exact absurd h2 (two_ne _)
   · exact absurd h1 (frat a).den_nz
 · unfold frat; rw [h, Nat.zero_mul, sg_zero, Rat.zero_mkRat]; rfl
theorem frat_neg_num (a : Nat) (h : fnum a ≠ 0) : ((frat a).num < 0) = (fneg a = true) := by
 have hp : 0 < fnum a * 2 ^ (fpow a - 1075) := Nat.mul_pos (Nat.pos_of_ne_zero h) (Nat.pow_pos (by decide))
 rw [← sg_sign (b := fneg a) hp]; have hh := mkRat_iff (frat a).num (sg (fneg a) (fnum a * 2 ^ (fpow a - 1075))) (frat a).den_nz (two_ne (1075 - fpow a)); rw [Rat.mkRat_self] at hh; have h2 := hh.1 rfl; have hd : (0 : Int) < ((frat a).den : Int) := by have := (frat a).den_pos; omega
 have h2p : (0 : Int) < ((2 ^ (1075 - fpow a) : Nat) : Int) := by have := Nat.pow_pos (a := 2) (n := 1075 - fpow a) (by decide); omega
 generalize ((2 ^ (1075 - fpow a) : Nat) : Int) = D at *; generalize sg (fneg a) (fnum a * 2 ^ (fpow a - 1075)) = S at *; generalize ((frat a).den : Int) = E at *; refine propext ⟨fun hn => ?_, fun hn => ?_⟩
 · have := Int.mul_neg_of_neg_of_pos hn h2p; rcases Int.lt_or_le S 0 with hs | hs
   · exact hs
   · have := Int.mul_nonneg hs (Int.le_of_lt hd); omega
 · have := Int.mul_neg_of_neg_of_pos hn hd; rcases Int.lt_or_le (frat a).num 0 with hs | hs
   · exact hs
   · have := Int.mul_nonneg hs (Int.le_of_lt h2p); omega
theorem fmag_self {a : Nat} (ha : a < 18446744073709551616) (h : finB a = true) : fmag (frat a) = a % 9223372036854775808 := by
 unfold finB at h; rw [decide_eq_true_eq] at h; unfold fmag; by_cases h0 : (frat a).num = 0
 · rw [if_pos h0]; rw [frat_num_zero] at h0; unfold fnum fman fexp at h0
   split at h0 <;> omega
 · rw [if_neg h0]; have hf : fnum a ≠ 0 := fun e => h0 (by rw [frat_num_zero]; exact e)
   have hc := frat_cross a; rw [nfin_self (f := fnum a) (p := fpow a) (frat a).den_nz (fun e => h0 (Int.natAbs_eq_zero.1 e)) hc (fpow_lt a).1 (by unfold fpow fexp; split <;> omega) (fnum_lt a) hf (by unfold fpow fnum fman; split <;> omega)]
   unfold fnum fpow fman fexp
   split <;> omega
theorem nb_self {a : Nat} (ha : a < 18446744073709551616) (h : finB a = true) : nbits (frat a) = (if a % 9223372036854775808 = 0 then 0 else a) ∧ nfB (frat a) = true := by
 have e := fmag_self ha h
 constructor
 · unfold nbits; rw [e]; by_cases h0 : a % 9223372036854775808 = 0
   · rw [if_pos h0, if_pos h0]
   · rw [if_neg h0, if_neg h0, fbits_eq, e]
     have hf : fnum a ≠ 0 := by
      intro hh; have : (frat a).num = 0 := by rw [frat_num_zero]; exact hh
      unfold fmag at e; rw [if_pos this] at e; omega
     have hn := frat_neg_num a hf; unfold fneg at hn; rw [decide_eq_true_eq] at hn
     split
     · rename_i hh; rw [hn] at hh; omega
     · rename_i hh; rw [hn] at hh; omega
 · unfold nfB finB; rw [fbits_mod, e]; exact h
theorem srung_frat {x : Nat} (hx : x < 18446744073709551616) (h : finB x = true) : srung (nbits (frat x)) = srung x := by
 rw [(nb_self hx h).1]; unfold srung
 split
 · split <;> split <;> omega
 · rfl
theorem ge_lt {x y : Nat} (hx : x < 18446744073709551616) (hy : y < 18446744073709551616) (mx : finB x = true) (my : finB y = true) : geB x y = false ↔ frat x < frat y := by
 have fx := mx; have fy := my; unfold finB at fx fy; rw [decide_eq_true_eq] at fx fy; have o := forder2 x y hx hy fx fy; unfold geB; have e : FloatKind.f64.format.order x y = some (ordI (srung x) (srung y)) := o; rw [e]
 have key : frat x < frat y ↔ srung x < srung y := by
  constructor
  · intro h; rcases Int.lt_trichotomy (srung x) (srung y) with k | k | k
    · exact k
    · exfalso
      have ex := (nb_self hx mx).1; have ey := (nb_self hy my).1
      have : nbits (frat x) = nbits (frat y) := by
       rw [ex, ey]; unfold srung at k
       split at k <;> split at k <;> split <;> split <;> omega
      have e2 : frat (nbits (frat x)) = frat (nbits (frat y)) := by rw [this]
      rw [ex, ey] at e2
      have z : ∀ b : Nat, frat (if b % 9223372036854775808 = 0 then 0 else b) = frat b := by
       intro b
       split
       · rename_i h0; have e1 : fexp b = 0 := by unfold fexp; omega
         have e2 : fnum b = 0 := by unfold fnum; rw [if_pos e1]; unfold fman; omega
         unfold frat; rw [e2, show fnum 0 = 0 by decide, Nat.zero_mul, Nat.zero_mul, sg_zero, sg_zero, Rat.zero_mkRat, Rat.zero_mkRat]
       · rfl
      rw [z, z] at e2; rw [e2] at h; exact Rat.lt_irrefl h
    · exfalso
      have := srung_mono (Rat.le_of_lt h); rw [srung_frat hx mx, srung_frat hy my] at this; omega
  · intro h; rcases Rat.le_total (a := frat y) (b := frat x) with k | k
    · exfalso
      have := srung_mono k; rw [srung_frat hx mx, srung_frat hy my] at this; omega
    · rcases Rat.le_iff_lt_or_eq.1 k with q | q
      · exact q
      · exfalso
        have a := srung_frat hx mx; rw [q, srung_frat hy my] at a; omega
 rw [key]; unfold ordI; by_cases k : srung x < srung y
 · rw [if_pos k]; exact ⟨fun _ => k, fun _ => rfl⟩
 · rw [if_neg k]
   constructor
   · intro h
     split at h <;> exact absurd h (by decide)
   · intro h; exact absurd h k
def qx (x : Int × Int) : Cx := ((x.1 : Qt), (x.2 : Qt))
theorem hor_zero {l : List Cx} (h : ∀ c ∈ l, c = (0, 0)) (z : Cx) : hor l z = (0, 0) := by
 induction l with
 | nil => rfl
 | cons c l ih =>
   rw [hor_cons, ih (fun d hd => h d (List.mem_cons_of_mem _ hd)), h c List.mem_cons_self]
   unfold pls tim; ext <;> grind
def cpow (z : Cx) : Nat → Cx
 | 0 => (1, 0)
 | n + 1 => tim z (cpow z n)
theorem hor_set (S : List (Int × Int)) (j : Nat) (x : Int × Int) (z : Cx) (hj : j < S.length) : hor ((S.set j (gadd (S.getD j (0, 0)) x)).map qx) z = pls (hor (S.map qx) z) (tim (cpow z j) (qx x)) := by
 induction S generalizing j with
 | nil => simp at hj
 | cons c S ih =>
   cases j with
   | zero =>
     rw [List.set_cons_zero, List.map_cons, List.map_cons, hor_cons, hor_cons, List.getD_cons_zero]; unfold cpow qx gadd pls tim; simp only [Rat.intCast_add]
     ext <;> grind
   | succ j =>
     rw [List.set_cons_succ, List.map_cons, List.map_cons, hor_cons, hor_cons, List.getD_cons_succ, ih j (by simpa using hj)]
     show pls (qx c) (tim z (pls (hor (S.map qx) z) (tim (cpow z j) (qx x)))) = pls (pls (qx c) (tim z (hor (S.map qx) z))) (tim (tim z (cpow z j)) (qx x))
     generalize hor (S.map qx) z = a; generalize cpow z j = b; generalize qx x = d; generalize qx c = e; unfold pls tim; ext <;> grind
def horN (B : List (Int × Int)) (z : Cx) : Nat → Cx
 | 0 => (0, 0)
 | k + 1 => pls (horN B z k) (tim (cpow z k) (qx (B.getD k (0, 0))))
theorem horN_cons (c : Int × Int) (B : List (Int × Int)) (z : Cx) (k : Nat) : horN (c :: B) z (k + 1) = pls (qx c) (tim z (horN B z k)) := by
 induction k with
 | zero => unfold horN horN cpow pls tim; simp only [List.getD_cons_zero]; ext <;> grind
 | succ k ih =>
   rw [horN, ih, horN, List.getD_cons_succ]; show pls (pls (qx c) (tim z (horN B z k))) (tim (tim z (cpow z k)) (qx (B.getD k (0, 0)))) = _
   generalize horN B z k = a; generalize cpow z k = b; generalize qx (B.getD k (0, 0)) = d; generalize qx c = e; unfold pls tim; ext <;> grind
theorem horN_all (B : List (Int × Int)) (z : Cx) : horN B z B.length = hor (B.map qx) z := by
 induction B with
 | nil => rfl
 | cons c B ih => rw [List.length_cons, horN_cons, ih, List.map_cons, hor_cons]
theorem qx_mul (x y : Int × Int) : qx (gmul x y) = tim (qx x) (qx y) := by
 unfold qx gmul tim; simp only [Rat.intCast_add, Rat.intCast_sub, Rat.intCast_mul]
theorem cpow_add (z : Cx) (i k : Nat) : cpow z (i + k) = tim (cpow z i) (cpow z k) := by
 induction i with
 | zero => rw [Nat.zero_add]; unfold cpow tim; ext <;> grind
 | succ i ih =>
   rw [Nat.succ_add, cpow, ih, cpow]; generalize cpow z i = a; generalize cpow z k = b; unfold tim; ext <;> grind
theorem hor_row (A B S : List (Int × Int)) (z : Cx) (i k : Nat) (h : i + k ≤ S.length) : hor ((rowC A B S i k).map qx) z = pls (hor (S.map qx) z) (tim (tim (cpow z i) (qx (A.getD i (0, 0)))) (horN B z k)) := by
 induction k with
 | zero =>
   rw [rowC, horN]; generalize hor (S.map qx) z = a; generalize tim (cpow z i) (qx (A.getD i (0, 0))) = b; unfold pls tim; ext <;> grind
 | succ k ih =>
   rw [rowC]; unfold stepC; rw [hor_set _ _ _ _ (by rw [rowC_len]; omega), ih (by omega), horN, cpow_add, qx_mul]
   generalize hor (S.map qx) z = a; generalize cpow z i = b; generalize qx (A.getD i (0, 0)) = c; generalize horN B z k = d; generalize cpow z k = e; generalize qx (B.getD k (0, 0)) = f; unfold pls tim; ext <;> grind
theorem hor_all (A B : List (Int × Int)) (z : Cx) (n i : Nat) (h : i + B.length ≤ n + 1) (hB : 1 ≤ B.length) : hor ((allC A B n i).map qx) z = tim (horN A z i) (hor (B.map qx) z) := by
 induction i with
 | zero =>
   rw [allC, horN, hor_zero (fun c hc => by
    obtain ⟨x, hx, rfl⟩ := List.mem_map.1 hc; rw [List.eq_of_mem_replicate hx]
    rfl)]
   unfold tim; ext <;> grind
 | succ i ih =>
   rw [allC, hor_row _ _ _ _ _ _ (by rw [allC_len]; omega), ih (by omega), horN_all, horN]
   generalize hor (B.map qx) z = a; generalize horN A z i = b; generalize cpow z i = c; generalize qx (A.getD i (0, 0)) = d; unfold pls tim; ext <;> grind
theorem hor_conv {A B : List (Int × Int)} (z : Cx) (hA : 1 ≤ A.length) (hB : 1 ≤ B.length) : hor ((convI A B).map qx) z = tim (hor (A.map qx) z) (hor (B.map qx) z) := by
 unfold convI; rw [hor_all A B z _ _ (by omega) hB, horN_all]
theorem convI_len {A B : List (Int × Int)} : (convI A B).length = A.length + B.length - 1 := allC_len _ _ _ _
theorem isI_bits {b : Nat} {n : Int} (h : IsI b n) (hn : n.natAbs ≤ 9007199254740992) (h0 : n ≠ 0) : b = floatOfInt .f64 n := by
 have h2 := int_isI hn
 have key : ∀ {c : Nat}, IsI c n → c = nbits (n : Qt) := by
  intro c hc; have e := (nb_self hc.1 hc.2.1).1; rw [hc.2.2] at e
  split at e
  · exfalso
    rename_i hz
    have z : frat c = 0 := by
     have e1 : fexp c = 0 := by unfold fexp; omega
     have e2 : fnum c = 0 := by unfold fnum; rw [if_pos e1]; unfold fman; omega
     unfold frat; rw [e2, Nat.zero_mul, sg_zero, Rat.zero_mkRat]
    rw [hc.2.2] at z; exact h0 (Rat.intCast_eq_zero_iff.1 z)
  · exact e.symm
 rw [key h, key h2]
theorem isI_nought {b : Nat} (h : IsI b 0) : b % 9223372036854775808 = 0 := by
 have e := (nb_self h.1 h.2.1).1; rw [h.2.2] at e
 split at e
 · assumption
 · rw [← e]; decide +kernel
theorem nought_frat {b : Nat} (hz : b % 9223372036854775808 = 0) : frat b = 0 := by
 have e1 : fexp b = 0 := by unfold fexp; omega
 have e2 : fnum b = 0 := by unfold fnum; rw [if_pos e1]; unfold fman; omega
 unfold frat; rw [e2, Nat.zero_mul, sg_zero, Rat.zero_mkRat]
theorem isI_mid {b : Nat} {n : Int} (h : IsI b n) (hn : n.natAbs ≤ 1099511627776) : midB b = true := by
 by_cases h0 : n = 0
 · subst h0; unfold midB; rw [isI_nought h]; rfl
 · rw [isI_bits h (by omega) h0]
   have d : floatOfInt .f64 n = Ieee.double.nearest (decide (n < 0)) n.natAbs ((0 : Nat) - (0 : Nat) : Int) := rfl; obtain ⟨L, f, e1, e2, e3, e4⟩ := near_whole (decide (n < 0)) (mag := n.natAbs) (k := n.natAbs) (a := 0) (b := 0) (by omega) (by omega) rfl
   have d2 : floatOfInt .f64 n = Ieee.double.word (decide (n < 0)) ((L + 1023) * 4503599627370496 + f) := d.trans e1; rw [d2, word_eq]
   have hL : L ≤ 40 ∧ (L = 40 → f = 0) := by
    have p : n.natAbs * 4503599627370496 ≤ 1099511627776 * 4503599627370496 := Nat.mul_le_mul_right _ hn; rw [e4] at p
    constructor
    · rcases Nat.lt_or_ge 40 L with q | q
      · exfalso
        have : (2 : Nat) ^ 41 ≤ 2 ^ L := Nat.pow_le_pow_right (by decide) q
        have r : 4503599627370496 * 2 ^ 41 ≤ (4503599627370496 + f) * 2 ^ L := Nat.mul_le_mul (by omega) this
        have s := Nat.le_trans r p; exact absurd s (by decide)
      · exact q
    · rintro rfl; have e : (2 : Nat) ^ 40 = 1099511627776 := by decide
      rw [e, Nat.mul_comm 1099511627776] at p; have := Nat.le_of_mul_le_mul_right p (by decide)
      omega
   obtain ⟨hL1, hL2⟩ := hL; obtain ⟨r, hr⟩ : ∃ r, r = (L + 1023) * 4503599627370496 + f := ⟨_, rfl⟩; rw [← hr]
   have hr2 : 4607182418800017408 ≤ r ∧ r ≤ 4787326403894837248 := by
    clear e4 d d2 e1; rcases Nat.lt_or_eq_of_le hL1 with q | q
    · omega
    · have := hL2 q; omega
   have hm : (if decide (n < 0) = true then 9223372036854775808 + r else r) % 9223372036854775808 = r := by split <;> omega
   unfold midB; rw [hm, Bool.or_eq_true, Bool.and_eq_true, decide_eq_true_eq, decide_eq_true_eq, decide_eq_true_eq]; omega
theorem zc_mid {m : List (Nat × Nat)} {S : List (Int × Int)} (h : Zc m S) (hS : BsC 1099511627776 S) : allM m = true := by
 refine allM_good (fun j c hj hc => ?_)
 obtain ⟨u, hu, iu⟩ := h.at (j := j) (by rw [← h.1]; exact hj)
 rw [hc] at hu; obtain rfl := Option.some.inj hu; have b := hS j; unfold midC; rw [isI_mid iu.1 b.1, isI_mid iu.2 b.2]; rfl
theorem zc_nought {u : Nat × Nat} {x : Int × Int} (h : IsIC u x) : noughtC u = true ↔ x = (0, 0) := by
 unfold noughtC; rw [Bool.and_eq_true, decide_eq_true_eq, decide_eq_true_eq]
 constructor
 · rintro ⟨h1, h2⟩; have a := nought_frat h1; have b := nought_frat h2; rw [h.1.2.2] at a; rw [h.2.2.2] at b; exact Prod.ext (Rat.intCast_eq_zero_iff.1 a) (Rat.intCast_eq_zero_iff.1 b)
 · rintro rfl; exact ⟨isI_nought h.1, isI_nought h.2⟩
theorem zc_some {m : List (Nat × Nat)} {S : List (Int × Int)} (h : Zc m S) : someB m = true ↔ ∃ x ∈ S, x ≠ (0, 0) := by
 unfold someB; rw [List.any_eq_true]
 constructor
 · rintro ⟨u, hu, hn⟩; obtain ⟨j, hj⟩ := List.getElem?_of_mem hu; have hl := (List.getElem?_eq_some_iff.1 hj).1; rw [h.1] at hl; obtain ⟨u', hu', iu⟩ := h.2 j _ (List.getElem?_eq_getElem hl); rw [hj] at hu'; obtain rfl := Option.some.inj hu'; refine ⟨_, List.getElem_mem hl, fun e => ?_⟩
   rw [(zc_nought iu).2 e] at hn; exact absurd hn (by decide)
 · rintro ⟨x, hx, hn⟩; obtain ⟨j, hj⟩ := List.getElem?_of_mem hx; obtain ⟨u, hu, iu⟩ := h.2 j x hj; refine ⟨u, List.mem_of_getElem? hu, ?_⟩
   cases hh : noughtC u
   · rfl
   · exact absurd ((zc_nought iu).1 hh) hn
theorem zc_map {m : List (Nat × Nat)} {S : List (Int × Int)} (h : Zc m S) : m.map cofr = S.map qx := by
 refine List.ext_getElem? (fun j => ?_)
 rw [List.getElem?_map, List.getElem?_map]; cases hs : S[j]? with
 | none =>
   rw [List.getElem?_eq_none_iff] at hs; rw [List.getElem?_eq_none (by rw [h.1]; exact hs)]
   rfl
 | some x =>
   obtain ⟨u, hu, iu⟩ := h.2 j x hs; rw [hu]; show some (cofr u) = some (qx x)
   unfold cofr qx; rw [iu.1.2.2, iu.2.2.2]
theorem lowC_mul {n k : Nat} {F G : Cx → Cx} (hF : PC n F) (hG : PC k G) (P Q : Cx) : LowC (fun t => tim (F (wayT P Q t)) (G (wayT P Q t))) ↔ LowC (fun t => F (wayT P Q t)) ∧ LowC (fun t => G (wayT P Q t)) := by
 obtain ⟨R1, r1, h1⟩ := inB_of P; obtain ⟨R2, r2, h2⟩ := inB_of Q; obtain ⟨L1, B, _, hB, hb⟩ := hF.lip (R1 + R2); obtain ⟨L2, C, _, hC, hc⟩ := hG.lip (R1 + R2); have inn : ∀ t, 0 ≤ t → t ≤ 1 → InB (R1 + R2) (wayT P Q t) := fun t a b => inB_way (h1.mono (by grind)) (h2.mono (by grind)) a b
 constructor
 · rintro ⟨m, hm, h⟩
   have key : ∀ t, 0 ≤ t → t ≤ 1 → m ≤ nrm (F (wayT P Q t)) * nrm (G (wayT P Q t)) := fun t a b => by
    have := h t a b
    rwa [nrm_tim] at this
   constructor
   · refine ⟨m / (C + 1), by rw [Rat.lt_div_iff (by grind), Rat.zero_mul]; exact hm, fun t a b => ?_⟩
     refine Rat.le_of_mul_le_mul_right (c := C + 1) ?_ (by grind)
     rw [Rat.div_mul_cancel (by grind)]
     have q := (hc _ _ (inn t a b) (inn t a b)).1; have := Rat.mul_le_mul_of_nonneg_left q (nrm_nonneg (F (wayT P Q t))); have := key t a b; have := nrm_nonneg (F (wayT P Q t))
     grind
   · refine ⟨m / (B + 1), by rw [Rat.lt_div_iff (by grind), Rat.zero_mul]; exact hm, fun t a b => ?_⟩
     refine Rat.le_of_mul_le_mul_right (c := B + 1) ?_ (by grind)
     rw [Rat.div_mul_cancel (by grind)]
     have q := (hb _ _ (inn t a b) (inn t a b)).1; have := Rat.mul_le_mul_of_nonneg_right q (nrm_nonneg (G (wayT P Q t))); have := key t a b; have := nrm_nonneg (G (wayT P Q t))
     grind
 · rintro ⟨⟨m, hm, h⟩, ⟨m', hm', h'⟩⟩; refine ⟨m * m', Rat.mul_pos hm hm', fun t a b => ?_⟩
   rw [nrm_tim]; have p := Rat.mul_le_mul_of_nonneg_left (h' t a b) (Rat.le_of_lt hm); have q := Rat.mul_le_mul_of_nonneg_right (h t a b) (nrm_nonneg (G (wayT P Q t))); exact Rat.le_trans p q
theorem bord_mul {n k : Nat} {F G : Cx → Cx} (hF : PC n F) (hG : PC k G) (lo hi : Cx) : Bord (fun z => tim (F z) (G z)) lo hi ↔ Bord F lo hi ∧ Bord G lo hi := by
 unfold Bord; rw [lowC_mul hF hG, lowC_mul hF hG, lowC_mul hF hG, lowC_mul hF hG]; exact ⟨fun ⟨⟨a, b⟩, ⟨c, d⟩, ⟨e, f⟩, ⟨g, h⟩⟩ => ⟨⟨a, c, e, g⟩, ⟨b, d, f, h⟩⟩, fun ⟨⟨a, c, e, g⟩, ⟨b, d, f, h⟩⟩ => ⟨⟨a, b⟩, ⟨c, d⟩, ⟨e, f⟩, ⟨g, h⟩⟩⟩
theorem zerosN_end {l : List (Nat × Nat)} {lo hi : Nat × Nat} (h1 : 1 ≤ l.length) (h2 : l.length ≤ 17) (hM : allM l = true) : askE l lo hi = if someB l = false then 80 else endE lo hi := by
 unfold askE; rw [if_neg (by omega), if_neg (by rw [hM]; decide)]
theorem zerosN_val {l : List (Nat × Nat)} {lo hi : Nat × Nat} (h1 : 1 ≤ l.length) (h2 : l.length ≤ 17) (hM : allM l = true) :
 (someB l = false → zerosN l lo hi = (0, 80)) ∧ (someB l = true → endE lo hi ≠ 0 → zerosN l lo hi = (0, endE lo hi)) ∧ (someB l = true → endE lo hi = 0 → ¬ Bord (hor (l.map cofr)) (cofr lo) (cofr hi) → zerosN l lo hi = (0, 32)) ∧ (someB l = true → endE lo hi = 0 → Bord (hor (l.map cofr)) (cofr lo) (cofr hi) → zerosN l lo hi = ((sumT l lo hi 4).tdiv 4, 0)) := by
 have a := zerosN_end (lo := lo) (hi := hi) h1 h2 hM; refine ⟨fun h => ?_, fun h k => ?_, fun h k b => ?_, fun h k b => ?_⟩
 · rw [h, if_pos rfl] at a; unfold zerosN; rw [a, if_pos (by decide)]
 · rw [h, if_neg (by decide)] at a
   unfold zerosN; rw [a, if_pos k]
 · rw [h, if_neg (by decide), k] at a
   unfold zerosN; rw [a, if_neg (by decide), if_pos]
   cases ht : touchT l lo hi 4
   · exact absurd ((touch_bord l lo hi).1 ht) b
   · rfl
 · rw [h, if_neg (by decide), k] at a
   unfold zerosN; rw [a, if_neg (by decide), if_neg (by rw [(touch_bord l lo hi).2 b]; decide)]
def ClS (W : World) (a : Option Addr) (l : List (Nat × Nat)) : Prop := l ≠ [] → ∃ g off, a = some ⟨g, off, none⟩ ∧ ClC W g off l
theorem clS_rw {W : World} {a : Option Addr} {n cap : Nat} {l : List (Nat × Nat)} (h : Rw 29 EC W (.slice a n cap) l) : ClS W a l := by
 intro h0; obtain ⟨a', cap', he, -, h3⟩ := h; simp only [Value.slice.injEq] at he; obtain ⟨rfl, -, -⟩ := he; obtain ⟨g, off, C, rfl, hC, hl⟩ := h3 (List.length_pos_iff.2 h0); refine ⟨g, off, rfl, ⟨⟨C, hC, fun i x hx => ?_⟩⟩⟩
 obtain ⟨u, q1, q2⟩ := hl i x hx; rw [show u = .complex .f64 x.1 x.2 from q2] at q1
 exact q1
theorem gaZerosNil {w : World} {ad : Option Addr} {cap : Nat} {v0 v1 : Value} :
 Calls Tryz.prog 18 #[.slice ad 0 cap, .agg #[v0, v1]] w fun e w' => e = .returned (.tuple #[.int .i64 0, .int .i64 4]) ∧ Kp0 w w' := by
 go_enter Tryz.func18, Tryz.ntmps18; go_wp2_with (go_at_call 63; (with_reducible refine Calls.mono (gaAskMany (.inl (by decide))) ?_); rintro e wa ⟨rfl, _⟩)
 all_goals first
  | (go_ret2
     exact ⟨rfl, ⟨Gr.out⟩⟩)
  | (exfalso; simp_all; done)
theorem gaZerosS {w : World} {ad : Option Addr} {cap : Nat} {l : List (Nat × Nat)} {a b c d : Nat} (h : ClS w ad l) [hv : VrC w] (hl : okB l) (ha : a < 18446744073709551616) (hb : b < 18446744073709551616) (hc' : c < 18446744073709551616) (hd : d < 18446744073709551616) :
 Calls Tryz.prog 18 #[.slice ad l.length cap, .agg #[.complex .f64 a b, .complex .f64 c d]] w fun e w' => e = .returned (.tuple #[.int .i64 (zerosN l (a, b) (c, d)).1, .int .i64 (zerosN l (a, b) (c, d)).2]) ∧ Kp0 w w' := by
 by_cases h0 : l = []
 · have e : zerosN l (a, b) (c, d) = (0, 4) := by
    have k : askE l (a, b) (c, d) = 4 := by unfold askE; rw [if_pos (.inl (by rw [h0]; decide))]
    unfold zerosN; rw [k]; rfl
   rw [e, h0]; exact gaZerosNil
 · obtain ⟨g, off, rfl, cl⟩ := h h0; exact gaZeros (hc := cl) hl ha hb hc' hd
theorem bk_rw {w : World} {g cap : Nat} {m : List (Nat × Nat)} (h : Bk w g (m.map cV) 29) (hc : m.length ≤ cap) : Rw 29 EC w (.slice (some ⟨g, 0, none⟩) m.length cap) m :=
 ⟨_, _, rfl, hc, fun _ => ⟨g, 0, _, rfl, h.1, fun i x hx => ⟨.complex .f64 x.1 x.2, by rw [Nat.zero_add, List.getElem?_toArray]; exact cv_at hx, rfl⟩⟩⟩
theorem zc_ok {m : List (Nat × Nat)} {S : List (Int × Int)} (h : Zc m S) : okB m := by
 intro u hu; obtain ⟨j, hj⟩ := List.getElem?_of_mem hu; have hl := (List.getElem?_eq_some_iff.1 hj).1; rw [h.1] at hl; obtain ⟨u', hu', iu⟩ := h.2 j _ (List.getElem?_eq_getElem hl); rw [hj] at hu'; obtain rfl := Option.some.inj hu'; exact ⟨iu.1.1, iu.2.1⟩
theorem bs_of {l : List (Int × Int)} {c : Nat} (h : ∀ x ∈ l, x.1.natAbs ≤ c ∧ x.2.natAbs ≤ c) : BsC c l := by
 intro j; rw [List.getD_eq_getElem?_getD]; cases hq : l[j]? with
 | none => exact ⟨Nat.zero_le _, Nat.zero_le _⟩
 | some x => exact h x (List.mem_of_getElem? hq)
theorem pr_of {A B : List (Int × Int)} {a b : Nat} (hA : BsC a A) (hB : BsC b B) : PrC (a * b) A B := by
 intro i k; have x := hA i; have y := hB k; refine ⟨?_, ?_, ?_, ?_⟩ <;> (rw [Int.natAbs_mul]; exact Nat.mul_le_mul (by omega) (by omega))
theorem small_bs {m : Nat} {l : List (Int × Int)} (h : smallB (m : Int) l = true) : BsC m l := bs_of (fun x hx => by
 have := smallB_iff.1 h x hx
 omega)
end Go.Proofs.YthjeejnggpjnjaaGreatDoor
