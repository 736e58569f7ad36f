/- A part: FG. -/
import Derived.Test.YthjeejnggpjnjaaGreatDoorZC23
set_option linter.unusedSimpArgs false
set_option linter.unusedVariables false
set_option maxRecDepth 100000
set_option maxHeartbeats 16000000
set_option synthInstance.maxHeartbeats 2000000
set_option synthInstance.maxSize 100000
namespace Go.Proofs.YthjeejnggpjnjaaGreatDoor
open Go.RowKit
theorem Sd_mid (l : List (Nat × Nat)) (lo hi : Nat × Nat) (i : Nat) {M : Cx} {c : Qt} (h : LowC (fun t => hor (l.map cofr) (wayT (cornerF lo hi i) (cornerF lo hi ((i + 1) % 4)) t))) (c0 : 0 ≤ c) (c1 : c ≤ 1) (hM : wayT (cornerF lo hi i) (cornerF lo hi ((i + 1) % 4)) c = M) :
 ∃ N : Nat, ∀ n, N ≤ n → sideT (sideX l lo hi i) (sideY l lo hi i) = Sd (hor (l.map cofr)) (cornerF lo hi i) M n + Sd (hor (l.map cofr)) M (cornerF lo hi ((i + 1) % 4)) n := by
 obtain ⟨N, -, h⟩ := side_sum l lo hi i h; exact ⟨N, fun n hn => by rw [← hM]; exact h n hn c c0 c1⟩
theorem ratio_of {x y w : Qt} (h1 : x ≤ w) (h2 : w ≤ y) (h : x < y) : ∃ c : Qt, 0 ≤ c ∧ c ≤ 1 ∧ x + c * (y - x) = w ∧ y + (1 - c) * (x - y) = w := by
 have hp : 0 < y - x := by grind
 have e : (w - x) / (y - x) * (y - x) = w - x := Rat.div_mul_cancel (by grind)
 exact ⟨(w - x) / (y - x), Rat.le_of_mul_le_mul_right (c := y - x) (by grind) hp, Rat.le_of_mul_le_mul_right (c := y - x) (by grind) hp, by grind, by grind⟩
theorem cut_x {l : List (Nat × Nat)} {lo hi : Nat × Nat} {v : Nat} (h1 : frat lo.1 < frat v) (h2 : frat v < frat hi.1) (h3 : frat lo.2 < frat hi.2)
 (hB : Bord (hor (l.map cofr)) (cofr lo) (cofr (v, hi.2))) (hC : Bord (hor (l.map cofr)) (cofr (v, lo.2)) (cofr hi)) :
 Bord (hor (l.map cofr)) (cofr lo) (cofr hi) ∧ sumT l lo hi 4 = sumT l lo (v, hi.2) 4 + sumT l (v, lo.2) hi 4 := by
 have hA : Bord (hor (l.map cofr)) (cofr lo) (cofr hi) := by
  obtain ⟨m1, p1, b1⟩ := bord_at hB h1 h3; obtain ⟨m2, p2, b2⟩ := bord_at hC h2 h3; obtain ⟨m, p, q1, q2⟩ := min_pos p1 p2; refine bord_of (m := m) (Rat.le_of_lt (by show frat lo.1 < frat hi.1; grind)) (Rat.le_of_lt h3) p (fun z hz hb => ?_)
  obtain ⟨⟨z1, z2⟩, z3⟩ := hz; rcases Rat.le_total (a := z.1) (b := frat v) with k | k
  · refine Rat.le_trans q1 (b1 z ⟨⟨z1, k⟩, z3⟩ ?_)
    rcases hb with e | e | e | e
    · exact .inl e
    · have e' : z.1 = frat hi.1 := e
      grind
    · exact .inr (.inr (.inl e))
    · exact .inr (.inr (.inr e))
  · refine Rat.le_trans q2 (b2 z ⟨⟨k, z2⟩, z3⟩ ?_)
    rcases hb with e | e | e | e
    · have e' : z.1 = frat lo.1 := e
      grind
    · exact .inr (.inl e)
    · exact .inr (.inr (.inl e))
    · exact .inr (.inr (.inr e))
 refine ⟨hA, ?_⟩
 obtain ⟨N1, s1⟩ := sum_turn l lo (v, hi.2) hB; obtain ⟨N2, s2⟩ := sum_turn l (v, lo.2) hi hC; obtain ⟨c, c0, c1, e1, e2⟩ := ratio_of (Rat.le_of_lt h1) (Rat.le_of_lt h2) (show frat lo.1 < frat hi.1 by grind)
 obtain ⟨N3, t0⟩ := Sd_mid l lo hi 0 (M := cofr (v, lo.2)) hA.1 c0 c1 (by show wayT (frat lo.1, frat lo.2) (frat hi.1, frat lo.2) c = (frat v, frat lo.2); unfold wayT; ext <;> grind)
 obtain ⟨N4, t1⟩ := Sd_mid l lo hi 1 (M := cofr hi) (c := 1) hA.2.1 (by grind) (by grind) (wayT_one _ _)
 obtain ⟨N5, t2⟩ := Sd_mid l lo hi 2 (M := cofr (v, hi.2)) (c := 1 - c) hA.2.2.1 (by grind) (by grind) (by show wayT (frat hi.1, frat hi.2) (frat lo.1, frat hi.2) (1 - c) = (frat v, frat hi.2); unfold wayT; ext <;> grind)
 obtain ⟨N6, t3⟩ := Sd_mid l lo hi 3 (M := cofr lo) (c := 1) hA.2.2.2 (by grind) (by grind) (wayT_one _ _)
 have hn : 1 ≤ N1 + N2 + N3 + N4 + N5 + N6 + 1 := by omega
 generalize hN : N1 + N2 + N3 + N4 + N5 + N6 + 1 = n at hn; rw [s1 n (by omega), s2 n (by omega), sumT, sumT, sumT, sumT, sumT, t0 n (by omega), t1 n (by omega), t2 n (by omega), t3 n (by omega)]
 have r := Sd_rev (hor (l.map cofr)) (cofr (v, lo.2)) (cofr (v, hi.2)) hn; have z1 : Sd (hor (l.map cofr)) (cofr hi) (cornerF lo hi ((1 + 1) % 4)) n = 0 := Sd_same _ _ _; have z2 : Sd (hor (l.map cofr)) (cofr lo) (cornerF lo hi ((3 + 1) % 4)) n = 0 := Sd_same _ _ _; rw [z1, z2]; unfold Wn; show 0 + (Sd (hor (l.map cofr)) (cofr lo) (cofr (v, lo.2)) n + Sd (hor (l.map cofr)) (cofr (v, lo.2)) (cofr (hi.1, lo.2)) n) + (Sd (hor (l.map cofr)) (cofr (hi.1, lo.2)) (cofr hi) n + 0) + (Sd (hor (l.map cofr)) (cofr hi) (cofr (v, hi.2)) n + Sd (hor (l.map cofr)) (cofr (v, hi.2)) (cofr (lo.1, hi.2)) n) + (Sd (hor (l.map cofr)) (cofr (lo.1, hi.2)) (cofr lo) n + 0) = Sd (hor (l.map cofr)) (cofr lo) (cofr (v, lo.2)) n + Sd (hor (l.map cofr)) (cofr (v, lo.2)) (cofr (v, hi.2)) n + Sd (hor (l.map cofr)) (cofr (v, hi.2)) (cofr (lo.1, hi.2)) n + Sd (hor (l.map cofr)) (cofr (lo.1, hi.2)) (cofr lo) n + (Sd (hor (l.map cofr)) (cofr (v, lo.2)) (cofr (hi.1, lo.2)) n + Sd (hor (l.map cofr)) (cofr (hi.1, lo.2)) (cofr hi) n + Sd (hor (l.map cofr)) (cofr hi) (cofr (v, hi.2)) n + Sd (hor (l.map cofr)) (cofr (v, hi.2)) (cofr (v, lo.2)) n)
 omega
theorem cut_y {l : List (Nat × Nat)} {lo hi : Nat × Nat} {v : Nat} (h1 : frat lo.2 < frat v) (h2 : frat v < frat hi.2) (h3 : frat lo.1 < frat hi.1)
 (hB : Bord (hor (l.map cofr)) (cofr lo) (cofr (hi.1, v))) (hC : Bord (hor (l.map cofr)) (cofr (lo.1, v)) (cofr hi)) :
 Bord (hor (l.map cofr)) (cofr lo) (cofr hi) ∧ sumT l lo hi 4 = sumT l lo (hi.1, v) 4 + sumT l (lo.1, v) hi 4 := by
 have hA : Bord (hor (l.map cofr)) (cofr lo) (cofr hi) := by
  obtain ⟨m1, p1, b1⟩ := bord_at hB h3 h1; obtain ⟨m2, p2, b2⟩ := bord_at hC h3 h2; obtain ⟨m, p, q1, q2⟩ := min_pos p1 p2; refine bord_of (m := m) (Rat.le_of_lt h3) (Rat.le_of_lt (by show frat lo.2 < frat hi.2; grind)) p (fun z hz hb => ?_)
  obtain ⟨z3, ⟨z1, z2⟩⟩ := hz; rcases Rat.le_total (a := z.2) (b := frat v) with k | k
  · refine Rat.le_trans q1 (b1 z ⟨z3, ⟨z1, k⟩⟩ ?_)
    rcases hb with e | e | e | e
    · exact .inl e
    · exact .inr (.inl e)
    · exact .inr (.inr (.inl e))
    · have e' : z.2 = frat hi.2 := e
      grind
  · refine Rat.le_trans q2 (b2 z ⟨z3, ⟨k, z2⟩⟩ ?_)
    rcases hb with e | e | e | e
    · exact .inl e
    · exact .inr (.inl e)
    · have e' : z.2 = frat lo.2 := e
      grind
    · exact .inr (.inr (.inr e))
 refine ⟨hA, ?_⟩
 obtain ⟨N1, s1⟩ := sum_turn l lo (hi.1, v) hB; obtain ⟨N2, s2⟩ := sum_turn l (lo.1, v) hi hC; obtain ⟨c, c0, c1, e1, e2⟩ := ratio_of (Rat.le_of_lt h1) (Rat.le_of_lt h2) (show frat lo.2 < frat hi.2 by grind)
 obtain ⟨N3, t0⟩ := Sd_mid l lo hi 0 (M := cofr (hi.1, lo.2)) (c := 1) hA.1 (by grind) (by grind) (wayT_one _ _)
 obtain ⟨N4, t1⟩ := Sd_mid l lo hi 1 (M := cofr (hi.1, v)) hA.2.1 c0 c1 (by show wayT (frat hi.1, frat lo.2) (frat hi.1, frat hi.2) c = (frat hi.1, frat v); unfold wayT; ext <;> grind)
 obtain ⟨N5, t2⟩ := Sd_mid l lo hi 2 (M := cofr (lo.1, hi.2)) (c := 1) hA.2.2.1 (by grind) (by grind) (wayT_one _ _)
 obtain ⟨N6, t3⟩ := Sd_mid l lo hi 3 (M := cofr (lo.1, v)) (c := 1 - c) hA.2.2.2 (by grind) (by grind) (by show wayT (frat lo.1, frat hi.2) (frat lo.1, frat lo.2) (1 - c) = (frat lo.1, frat v); unfold wayT; ext <;> grind)
 have hn : 1 ≤ N1 + N2 + N3 + N4 + N5 + N6 + 1 := by omega
 generalize hN : N1 + N2 + N3 + N4 + N5 + N6 + 1 = n at hn; rw [s1 n (by omega), s2 n (by omega), sumT, sumT, sumT, sumT, sumT, t0 n (by omega), t1 n (by omega), t2 n (by omega), t3 n (by omega)]
 have r := Sd_rev (hor (l.map cofr)) (cofr (lo.1, v)) (cofr (hi.1, v)) hn; have z1 : Sd (hor (l.map cofr)) (cofr (hi.1, lo.2)) (cornerF lo hi ((0 + 1) % 4)) n = 0 := Sd_same _ _ _; have z2 : Sd (hor (l.map cofr)) (cofr (lo.1, hi.2)) (cornerF lo hi ((2 + 1) % 4)) n = 0 := Sd_same _ _ _; rw [z1, z2]; unfold Wn; show 0 + (Sd (hor (l.map cofr)) (cofr lo) (cofr (hi.1, lo.2)) n + 0) + (Sd (hor (l.map cofr)) (cofr (hi.1, lo.2)) (cofr (hi.1, v)) n + Sd (hor (l.map cofr)) (cofr (hi.1, v)) (cofr hi) n) + (Sd (hor (l.map cofr)) (cofr hi) (cofr (lo.1, hi.2)) n + 0) + (Sd (hor (l.map cofr)) (cofr (lo.1, hi.2)) (cofr (lo.1, v)) n + Sd (hor (l.map cofr)) (cofr (lo.1, v)) (cofr lo) n) = Sd (hor (l.map cofr)) (cofr lo) (cofr (hi.1, lo.2)) n + Sd (hor (l.map cofr)) (cofr (hi.1, lo.2)) (cofr (hi.1, v)) n + Sd (hor (l.map cofr)) (cofr (hi.1, v)) (cofr (lo.1, v)) n + Sd (hor (l.map cofr)) (cofr (lo.1, v)) (cofr lo) n + (Sd (hor (l.map cofr)) (cofr (lo.1, v)) (cofr (hi.1, v)) n + Sd (hor (l.map cofr)) (cofr (hi.1, v)) (cofr hi) n + Sd (hor (l.map cofr)) (cofr hi) (cofr (lo.1, hi.2)) n + Sd (hor (l.map cofr)) (cofr (lo.1, hi.2)) (cofr (lo.1, v)) n)
 omega
theorem sum_bound {l : List (Nat × Nat)} {lo hi : Nat × Nat} (h1 : frat lo.1 < frat hi.1) (h2 : frat lo.2 < frat hi.2) (hl : 1 ≤ l.length) (hB : Bord (hor (l.map cofr)) (cofr lo) (cofr hi)) : ∃ k : Int, sumT l lo hi 4 = 4 * k ∧ 0 ≤ k ∧ k < l.length := by
 have hp : PC ((l.length - 1) + 1) (hor (l.map cofr)) := by
  have := pc_hor (l.map cofr); rw [List.length_map] at this
  rwa [show l.length - 1 + 1 = l.length by omega]
 obtain ⟨N1, s1⟩ := sum_turn l lo hi hB; obtain ⟨N2, s2⟩ := Bord.cls hp hB; obtain ⟨N3, s3⟩ := Wn_bound (lo := cofr lo) (hi := cofr hi) hp h1 h2 hB; have a := s1 (N1 + N2 + N3) (by omega)
 obtain ⟨k, hk⟩ := Wn_four (s2 (N1 + N2 + N3) (by omega))
 have b := s3 (N1 + N2 + N3) (by omega)
 clear s1 s2 s3 hB hp; rw [a]; rw [hk] at b ⊢; clear a hk; exact ⟨k, rfl, by omega, by omega⟩
theorem mid_fin {x : Nat} (h : midB x = true) : finB x = true := by
 unfold midB at h; rw [Bool.or_eq_true, Bool.and_eq_true, decide_eq_true_eq, decide_eq_true_eq, decide_eq_true_eq] at h; unfold finB; rw [decide_eq_true_eq]; omega
theorem srung_frat {x : Nat} (hx : x < 18446744073709551616) (h : finB x = true) : srung (nbits (frat x)) = srung x := by
 rw [(nb_self hx h).1]; unfold srung
 split
 · split <;> split <;> omega
 · rfl
theorem ge_lt {x y : Nat} (hx : x < 18446744073709551616) (hy : y < 18446744073709551616) (mx : finB x = true) (my : finB y = true) : geB x y = false ↔ frat x < frat y := by
 have fx := mx; have fy := my; unfold finB at fx fy; rw [decide_eq_true_eq] at fx fy; have o := forder2 x y hx hy fx fy; unfold geB; have e : FloatKind.f64.format.order x y = some (ordI (srung x) (srung y)) := o; rw [e]
 have key : frat x < frat y ↔ srung x < srung y := by
  constructor
  · intro h; rcases Int.lt_trichotomy (srung x) (srung y) with k | k | k
    · exact k
    · exfalso
      have ex := (nb_self hx mx).1; have ey := (nb_self hy my).1
      have : nbits (frat x) = nbits (frat y) := by
       rw [ex, ey]; unfold srung at k
       split at k <;> split at k <;> split <;> split <;> omega
      have e2 : frat (nbits (frat x)) = frat (nbits (frat y)) := by rw [this]
      rw [ex, ey] at e2
      have z : ∀ b : Nat, frat (if b % 9223372036854775808 = 0 then 0 else b) = frat b := by
       intro b
       split
       · rename_i h0; have e1 : fexp b = 0 := by unfold fexp; omega
         have e2 : fnum b = 0 := by unfold fnum; rw [if_pos e1]; unfold fman; omega
         unfold frat; rw [e2, show fnum 0 = 0 by decide, Nat.zero_mul, Nat.zero_mul, sg_zero, sg_zero, Rat.zero_mkRat, Rat.zero_mkRat]
       · rfl
      rw [z, z] at e2; rw [e2] at h; exact Rat.lt_irrefl h
    · exfalso
      have := srung_mono (Rat.le_of_lt h); rw [srung_frat hx mx, srung_frat hy my] at this; omega
  · intro h; rcases Rat.le_total (a := frat y) (b := frat x) with k | k
    · exfalso
      have := srung_mono k; rw [srung_frat hx mx, srung_frat hy my] at this; omega
    · rcases Rat.le_iff_lt_or_eq.1 k with q | q
      · exact q
      · exfalso
        have a := srung_frat hx mx; rw [q, srung_frat hy my] at a; omega
 rw [key]; unfold ordI; by_cases k : srung x < srung y
 · rw [if_pos k]; exact ⟨fun _ => k, fun _ => rfl⟩
 · rw [if_neg k]
   constructor
   · intro h
     split at h <;> exact absurd h (by decide)
   · intro h; exact absurd h k
theorem askE_cases (l : List (Nat × Nat)) (lo hi : Nat × Nat) : askE l lo hi ≠ 32 := by
 unfold askE endE
 split
 · decide
 · split
   · decide
   · split
     · decide
     · split
       · decide
       · split <;> decide
theorem ask_box {l : List (Nat × Nat)} {lo hi : Nat × Nat} (h : askE l lo hi = 0) (b1 : lo.1 < 18446744073709551616) (b2 : lo.2 < 18446744073709551616) (b3 : hi.1 < 18446744073709551616) (b4 : hi.2 < 18446744073709551616) :
 (1 ≤ l.length ∧ l.length ≤ 17) ∧ frat lo.1 < frat hi.1 ∧ frat lo.2 < frat hi.2 := by
 obtain ⟨h1, h2, h3, h4⟩ := askE_ok h; refine ⟨h1, ?_⟩
 unfold midC at h3 h4; rw [Bool.and_eq_true] at h3 h4; unfold askE at h
 split at h
 · exact absurd h (by decide)
 · split at h
   · exact absurd h (by decide)
   · split at h
     · exact absurd h (by decide)
     · unfold endE at h
       split at h
       · exact absurd h (by decide)
       · split at h
         · exact absurd h (by decide)
         · rename_i k; exact ⟨(ge_lt b1 b3 (mid_fin h3.1) (mid_fin h4.1)).1 (by cases hh : geB lo.1 hi.1 <;> first | rfl | exact absurd (Or.inl hh) k), (ge_lt b2 b4 (mid_fin h3.2) (mid_fin h4.2)).1 (by cases hh : geB lo.2 hi.2 <;> first | rfl | exact absurd (Or.inr hh) k)⟩
theorem zerosN_err {l : List (Nat × Nat)} {lo hi : Nat × Nat} (h : (zerosN l lo hi).2 ≠ 0) : (zerosN l lo hi).1 = 0 := by
 unfold zerosN at *
 split
 · rfl
 · rename_i k; rw [if_neg k] at h
   split
   · rfl
   · rename_i k2; rw [if_neg k2] at h; exact absurd rfl h
theorem zerosN_ok {l : List (Nat × Nat)} {lo hi : Nat × Nat} (h : (zerosN l lo hi).2 = 0) : askE l lo hi = 0 ∧ Bord (hor (l.map cofr)) (cofr lo) (cofr hi) ∧ (zerosN l lo hi).1 = (sumT l lo hi 4).tdiv 4 := by
 unfold zerosN at *
 split at h
 · rename_i k; exact absurd h k
 · rename_i k; rw [if_neg k]
   split at h
   · exact absurd h (by decide)
   · rename_i k2; rw [if_neg k2]; exact ⟨Classical.not_not.1 k, (touch_bord l lo hi).1 (by simpa using k2), rfl⟩
theorem zerosN_border {l : List (Nat × Nat)} {lo hi : Nat × Nat} (h : (zerosN l lo hi).2 = 32) : askE l lo hi = 0 ∧ ¬ Bord (hor (l.map cofr)) (cofr lo) (cofr hi) := by
 unfold zerosN at h
 split at h
 · exact absurd h (askE_cases l lo hi)
 · rename_i k
   split at h
   · rename_i k2; refine ⟨Classical.not_not.1 k, fun hb => ?_⟩
     rw [(touch_bord l lo hi).2 hb] at k2; exact absurd k2 (by decide)
   · exact absurd (show (0 : Int) = 32 from h) (by decide)
def cutB (hi : Nat × Nat) (v : Nat) (ac : Bool) : Nat × Nat := if ac = true then (hi.1, v) else (v, hi.2)
theorem cut_law {l : List (Nat × Nat)} {lo hi : Nat × Nat} {v : Nat} (ac : Bool) (b1 : lo.1 < 18446744073709551616) (b2 : lo.2 < 18446744073709551616) (b3 : hi.1 < 18446744073709551616) (b4 : hi.2 < 18446744073709551616) (bv : v < 18446744073709551616) :
 ((zerosN l lo hi).2 ≠ 0 → (zerosN l lo hi).1 = 0 ∧ ((zerosN l lo hi).2 = 32 → (zerosN l lo (cutB hi v ac)).2 = 0 → (zerosN l (cutB lo v ac) hi).2 ≠ 0)) ∧
 ((zerosN l lo hi).2 = 0 → 0 ≤ (zerosN l lo hi).1 ∧ (zerosN l lo hi).1 < l.length ∧ ((zerosN l lo (cutB hi v ac)).2 = 0 → (zerosN l (cutB lo v ac) hi).2 = 0 → (zerosN l lo (cutB hi v ac)).1 + (zerosN l (cutB lo v ac) hi).1 = (zerosN l lo hi).1)) := by
 have cut : (zerosN l lo (cutB hi v ac)).2 = 0 → (zerosN l (cutB lo v ac) hi).2 = 0 → askE l lo hi = 0 → Bord (hor (l.map cofr)) (cofr lo) (cofr hi) ∧ sumT l lo hi 4 = sumT l lo (cutB hi v ac) 4 + sumT l (cutB lo v ac) hi 4 := by
  intro hB hC h0; obtain ⟨-, x1, x2⟩ := ask_box h0 b1 b2 b3 b4; obtain ⟨aB, bB, -⟩ := zerosN_ok hB; obtain ⟨aC, bC, -⟩ := zerosN_ok hC; cases ac with
  | false =>
    have q1 := (ask_box aB b1 b2 bv b4).2; have q2 := (ask_box aC bv b2 b3 b4).2; exact cut_x q1.1 q2.1 x2 bB bC
  | true =>
    have q1 := (ask_box aB b1 b2 b3 bv).2; have q2 := (ask_box aC b1 bv b3 b4).2; exact cut_y q1.2 q2.2 x1 bB bC
 refine ⟨fun h => ⟨zerosN_err h, fun h32 hB hC => ?_⟩, fun h => ?_⟩
 · obtain ⟨h0, nb⟩ := zerosN_border h32; exact nb (cut hB hC h0).1
 · obtain ⟨h0, hb, e⟩ := zerosN_ok h; obtain ⟨hl, x1, x2⟩ := ask_box h0 b1 b2 b3 b4; obtain ⟨k, k1, k2, k3⟩ := sum_bound x1 x2 hl.1 hb; have ek : (zerosN l lo hi).1 = k := by rw [e, k1, Int.mul_tdiv_cancel_left _ (by decide)]
   refine ⟨by omega, by omega, fun hB hC => ?_⟩
   obtain ⟨aB, bB, eB⟩ := zerosN_ok hB; obtain ⟨aC, bC, eC⟩ := zerosN_ok hC; have hs := (cut hB hC h0).2; have bx : (cutB hi v ac).1 < 18446744073709551616 ∧ (cutB hi v ac).2 < 18446744073709551616 := by unfold cutB; split <;> exact ⟨by assumption, by assumption⟩
   have by' : (cutB lo v ac).1 < 18446744073709551616 ∧ (cutB lo v ac).2 < 18446744073709551616 := by unfold cutB; split <;> exact ⟨by assumption, by assumption⟩
   have yB := ask_box aB b1 b2 bx.1 bx.2; have yC := ask_box aC by'.1 by'.2 b3 b4
   obtain ⟨m, m1, -, -⟩ := sum_bound yB.2.1 yB.2.2 yB.1.1 bB; obtain ⟨n, n1, -, -⟩ := sum_bound yC.2.1 yC.2.2 yC.1.1 bC; rw [eB, eC, ek, m1, n1, Int.mul_tdiv_cancel_left _ (by decide), Int.mul_tdiv_cancel_left _ (by decide)]
   omega
end Go.Proofs.YthjeejnggpjnjaaGreatDoor
