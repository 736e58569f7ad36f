/- A part: FP, EB, FH, FQ. -/
import Derived.Test.YthjeejnggpjnjaaGreatDoorZP03
import Derived.Test.YthjeejnggpjnjaaGreatDoorZP06
set_option linter.unusedSimpArgs false
set_option linter.unusedVariables false
set_option maxRecDepth 100000
set_option maxHeartbeats 16000000
set_option synthInstance.maxHeartbeats 2000000
set_option synthInstance.maxSize 100000
namespace Go.Proofs.YthjeejnggpjnjaaGreatDoor
open Go.RowKit
def qx (x : Int × Int) : Cx := ((x.1 : Qt), (x.2 : Qt))
theorem hor_zero {l : List Cx} (h : ∀ c ∈ l, c = (0, 0)) (z : Cx) : hor l z = (0, 0) := by
 induction l with
 | nil => rfl
 | cons c l ih =>
   rw [hor_cons, ih (fun d hd => h d (List.mem_cons_of_mem _ hd)), h c List.mem_cons_self]
   unfold pls tim; ext <;> grind
def cpow (z : Cx) : Nat → Cx
 | 0 => (1, 0)
 | n + 1 => tim z (cpow z n)
theorem hor_set (S : List (Int × Int)) (j : Nat) (x : Int × Int) (z : Cx) (hj : j < S.length) : hor ((S.set j (gadd (S.getD j (0, 0)) x)).map qx) z = pls (hor (S.map qx) z) (tim (cpow z j) (qx x)) := by
 induction S generalizing j with
 | nil => simp at hj
 | cons c S ih =>
   cases j with
   | zero =>
     rw [List.set_cons_zero, List.map_cons, List.map_cons, hor_cons, hor_cons, List.getD_cons_zero]; unfold cpow qx gadd pls tim; simp only [Rat.intCast_add]
     ext <;> grind
   | succ j =>
     rw [List.set_cons_succ, List.map_cons, List.map_cons, hor_cons, hor_cons, List.getD_cons_succ, ih j (by simpa using hj)]
     show pls (qx c) (tim z (pls (hor (S.map qx) z) (tim (cpow z j) (qx x)))) = pls (pls (qx c) (tim z (hor (S.map qx) z))) (tim (tim z (cpow z j)) (qx x))
     generalize hor (S.map qx) z = a; generalize cpow z j = b; generalize qx x = d; generalize qx c = e; unfold pls tim; ext <;> grind
def horN (B : List (Int × Int)) (z : Cx) : Nat → Cx
 | 0 => (0, 0)
 | k + 1 => pls (horN B z k) (tim (cpow z k) (qx (B.getD k (0, 0))))
theorem horN_cons (c : Int × Int) (B : List (Int × Int)) (z : Cx) (k : Nat) : horN (c :: B) z (k + 1) = pls (qx c) (tim z (horN B z k)) := by
 induction k with
 | zero => unfold horN horN cpow pls tim; simp only [List.getD_cons_zero]; ext <;> grind
 | succ k ih =>
   rw [horN, ih, horN, List.getD_cons_succ]; show pls (pls (qx c) (tim z (horN B z k))) (tim (tim z (cpow z k)) (qx (B.getD k (0, 0)))) = _
   generalize horN B z k = a; generalize cpow z k = b; generalize qx (B.getD k (0, 0)) = d; generalize qx c = e; unfold pls tim; ext <;> grind
theorem horN_all (B : List (Int × Int)) (z : Cx) : horN B z B.length = hor (B.map qx) z := by
 induction B with
 | nil => rfl
 | cons c B ih => rw [List.length_cons, horN_cons, ih, List.map_cons, hor_cons]
theorem qx_mul (x y : Int × Int) : qx (gmul x y) = tim (qx x) (qx y) := by
 unfold qx gmul tim; simp only [Rat.intCast_add, Rat.intCast_sub, Rat.intCast_mul]
theorem cpow_add (z : Cx) (i k : Nat) : cpow z (i + k) = tim (cpow z i) (cpow z k) := by
 induction i with
 | zero => rw [Nat.zero_add]; unfold cpow tim; ext <;> grind
 | succ i ih =>
   rw [Nat.succ_add, cpow, ih, cpow]; generalize cpow z i = a; generalize cpow z k = b; unfold tim; ext <;> grind
theorem hor_row (A B S : List (Int × Int)) (z : Cx) (i k : Nat) (h : i + k ≤ S.length) : hor ((rowC A B S i k).map qx) z = pls (hor (S.map qx) z) (tim (tim (cpow z i) (qx (A.getD i (0, 0)))) (horN B z k)) := by
 induction k with
 | zero =>
   rw [rowC, horN]; generalize hor (S.map qx) z = a; generalize tim (cpow z i) (qx (A.getD i (0, 0))) = b; unfold pls tim; ext <;> grind
 | succ k ih =>
   rw [rowC]; unfold stepC; rw [hor_set _ _ _ _ (by rw [rowC_len]; omega), ih (by omega), horN, cpow_add, qx_mul]
   generalize hor (S.map qx) z = a; generalize cpow z i = b; generalize qx (A.getD i (0, 0)) = c; generalize horN B z k = d; generalize cpow z k = e; generalize qx (B.getD k (0, 0)) = f; unfold pls tim; ext <;> grind
theorem hor_all (A B : List (Int × Int)) (z : Cx) (n i : Nat) (h : i + B.length ≤ n + 1) (hB : 1 ≤ B.length) : hor ((allC A B n i).map qx) z = tim (horN A z i) (hor (B.map qx) z) := by
 induction i with
 | zero =>
   rw [allC, horN, hor_zero (fun c hc => by
    obtain ⟨x, hx, rfl⟩ := List.mem_map.1 hc; rw [List.eq_of_mem_replicate hx]
    rfl)]
   unfold tim; ext <;> grind
 | succ i ih =>
   rw [allC, hor_row _ _ _ _ _ _ (by rw [allC_len]; omega), ih (by omega), horN_all, horN]
   generalize hor (B.map qx) z = a; generalize horN A z i = b; generalize cpow z i = c; generalize qx (A.getD i (0, 0)) = d; unfold pls tim; ext <;> grind
theorem hor_conv {A B : List (Int × Int)} (z : Cx) (hA : 1 ≤ A.length) (hB : 1 ≤ B.length) : hor ((convI A B).map qx) z = tim (hor (A.map qx) z) (hor (B.map qx) z) := by
 unfold convI; rw [hor_all A B z _ _ (by omega) hB, horN_all]
theorem convI_len {A B : List (Int × Int)} : (convI A B).length = A.length + B.length - 1 := allC_len _ _ _ _
theorem allC_low (A B : List (Int × Int)) (n i j : Nat) (hi : ∀ k, k < i → A.getD k (0, 0) = (0, 0)) (hj : ∀ k, k < j → B.getD k (0, 0) = (0, 0)) (hn : i + j < n) (hjB : j < B.length) (hiA : i < A.length) (m : Nat) (hm : m ≤ A.length) :
 (allC A B n m).getD (i + j) (0, 0) = if i < m then gmul (A.getD i (0, 0)) (B.getD j (0, 0)) else (0, 0) := by
 have z1 : ∀ y : Int × Int, gmul (0, 0) y = (0, 0) := by intro y; unfold gmul; simp
 have z2 : ∀ y : Int × Int, gmul y (0, 0) = (0, 0) := by intro y; unfold gmul; simp
 have z3 : ∀ y : Int × Int, gadd y (0, 0) = y := by intro y; unfold gadd; simp
 have z4 : ∀ y : Int × Int, gadd (0, 0) y = y := by intro y; unfold gadd; simp
 have row : ∀ (S : List (Int × Int)) (i' k : Nat), S.length = n → k ≤ B.length → (rowC A B S i' k).getD (i + j) (0, 0) = if i' ≤ i + j ∧ i + j - i' < k then gadd (S.getD (i + j) (0, 0)) (gmul (A.getD i' (0, 0)) (B.getD (i + j - i') (0, 0))) else S.getD (i + j) (0, 0) := by
  intro S i' k hS
  induction k with
  | zero => intro _; rw [rowC, if_neg (by omega)]
  | succ k ih =>
    intro hk; rw [rowC]; unfold stepC; rw [getD_set, rowC_len]; by_cases e : i' + k = i + j
    · rw [if_pos ⟨e, by omega⟩, e, ih (by omega), if_neg (by omega), if_pos (by omega), show i + j - i' = k by omega]
    · rw [if_neg (fun h => e h.1), ih (by omega)]
      by_cases f : i' ≤ i + j ∧ i + j - i' < k
      · rw [if_pos f, if_pos (by omega)]
      · rw [if_neg f, if_neg (by omega)]
 induction m with
 | zero =>
   rw [allC, if_neg (by omega), List.getD_eq_getElem?_getD, List.getElem?_replicate]
   split <;> rfl
 | succ m ih =>
   rw [allC, row (allC A B n m) m B.length (allC_len _ _ _ _) (Nat.le_refl _), ih (by omega)]
   rcases Nat.lt_trichotomy m i with q | q | q
   · rw [if_neg (show ¬ i < m + 1 by omega)]
     simp only [if_neg (show ¬ i < m by omega)]
     rw [hi m q, z1, z3]
     split <;> rfl
   · subst q; rw [if_pos (Nat.lt_succ_self m)]; simp only [if_neg (Nat.lt_irrefl m)]; rw [if_pos (show m ≤ m + j ∧ m + j - m < B.length by omega), z4, show m + j - m = j by omega]
   · rw [if_pos (show i < m + 1 by omega)]
     simp only [if_pos q]
     split
     · rename_i hc; rw [hj (i + j - m) (by omega), z2, z3]
     · rfl
theorem gmul_ne {x y : Int × Int} (hx : x ≠ (0, 0)) (hy : y ≠ (0, 0)) : gmul x y ≠ (0, 0) := by
 intro h; have e := qx_mul x y; rw [h] at e; have n := nrm_tim (qx x) (qx y); rw [← e, show nrm (qx (0, 0)) = 0 by decide +kernel] at n
 have q : ∀ x : Int × Int, x ≠ (0, 0) → 0 < nrm (qx x) := by
  intro x hx; refine nrm_pos (fun k => hx ?_)
  unfold qx at k; simp only [Prod.mk.injEq] at k; exact Prod.ext (Rat.intCast_inj.1 k.1) (Rat.intCast_inj.1 k.2)
 have := Rat.mul_pos (q x hx) (q y hy); rw [← n] at this; exact Rat.lt_irrefl this
theorem first_ne {A : List (Int × Int)} (h : ∃ x ∈ A, x ≠ (0, 0)) : ∃ i, i < A.length ∧ A.getD i (0, 0) ≠ (0, 0) ∧ ∀ k, k < i → A.getD k (0, 0) = (0, 0) := by
 obtain ⟨x, hx, h0⟩ := h; obtain ⟨n, hn⟩ := List.getElem?_of_mem hx; have e : A.getD n (0, 0) = x := by rw [List.getD_eq_getElem?_getD, hn]; rfl
 obtain ⟨i, h1, h2, h3⟩ := least (P := fun i => A.getD i (0, 0) ≠ (0, 0)) (n := n) (by rw [e]; exact h0)
 exact ⟨i, by have := (List.getElem?_eq_some_iff.1 hn).1; omega, h2, fun k hk => Classical.not_not.1 (h3 k hk)⟩
theorem conv_ne {A B : List (Int × Int)} (hA : ∃ x ∈ A, x ≠ (0, 0)) (hB : ∃ x ∈ B, x ≠ (0, 0)) : ∃ x ∈ convI A B, x ≠ (0, 0) := by
 obtain ⟨i, i1, i2, i3⟩ := first_ne hA; obtain ⟨j, j1, j2, j3⟩ := first_ne hB; have h := allC_low A B (A.length + B.length - 1) i j i3 j3 (by omega) j1 i1 A.length (Nat.le_refl _)
 rw [if_pos i1] at h; refine ⟨gmul (A.getD i (0, 0)) (B.getD j (0, 0)), ?_, gmul_ne i2 j2⟩
 rw [← h, List.getD_eq_getElem?_getD]; have hl : i + j < (convI A B).length := by rw [convI_len]; omega
 unfold convI at hl ⊢; rw [List.getElem?_eq_getElem hl]; exact List.getElem_mem hl
theorem isI_bits {b : Nat} {n : Int} (h : IsI b n) (hn : n.natAbs ≤ 9007199254740992) (h0 : n ≠ 0) : b = floatOfInt .f64 n := by
 have h2 := int_isI hn
 have key : ∀ {c : Nat}, IsI c n → c = nbits (n : Qt) := by
  intro c hc; have e := (nb_self hc.1 hc.2.1).1; rw [hc.2.2] at e
  split at e
  · exfalso
    rename_i hz
    have z : frat c = 0 := by
     have e1 : fexp c = 0 := by unfold fexp; omega
     have e2 : fnum c = 0 := by unfold fnum; rw [if_pos e1]; unfold fman; omega
     unfold frat; rw [e2, Nat.zero_mul, sg_zero, Rat.zero_mkRat]
    rw [hc.2.2] at z; exact h0 (Rat.intCast_eq_zero_iff.1 z)
  · exact e.symm
 rw [key h, key h2]
theorem isI_nought {b : Nat} (h : IsI b 0) : b % 9223372036854775808 = 0 := by
 have e := (nb_self h.1 h.2.1).1; rw [h.2.2] at e
 split at e
 · assumption
 · rw [← e]; decide +kernel
theorem nought_frat {b : Nat} (hz : b % 9223372036854775808 = 0) : frat b = 0 := by
 have e1 : fexp b = 0 := by unfold fexp; omega
 have e2 : fnum b = 0 := by unfold fnum; rw [if_pos e1]; unfold fman; omega
 unfold frat; rw [e2, Nat.zero_mul, sg_zero, Rat.zero_mkRat]
theorem isI_mid {b : Nat} {n : Int} (h : IsI b n) (hn : n.natAbs ≤ 1099511627776) : midB b = true := by
 by_cases h0 : n = 0
 · subst h0; unfold midB; rw [isI_nought h]; rfl
 · rw [isI_bits h (by omega) h0]
   have d : floatOfInt .f64 n = Ieee.double.nearest (decide (n < 0)) n.natAbs ((0 : Nat) - (0 : Nat) : Int) := rfl; obtain ⟨L, f, e1, e2, e3, e4⟩ := near_whole (decide (n < 0)) (mag := n.natAbs) (k := n.natAbs) (a := 0) (b := 0) (by omega) (by omega) rfl
   have d2 : floatOfInt .f64 n = Ieee.double.word (decide (n < 0)) ((L + 1023) * 4503599627370496 + f) := d.trans e1; rw [d2, word_eq]
   have hL : L ≤ 40 ∧ (L = 40 → f = 0) := by
    have p : n.natAbs * 4503599627370496 ≤ 1099511627776 * 4503599627370496 := Nat.mul_le_mul_right _ hn; rw [e4] at p
    constructor
    · rcases Nat.lt_or_ge 40 L with q | q
      · exfalso
        have : (2 : Nat) ^ 41 ≤ 2 ^ L := Nat.pow_le_pow_right (by decide) q
        have r : 4503599627370496 * 2 ^ 41 ≤ (4503599627370496 + f) * 2 ^ L := Nat.mul_le_mul (by omega) this
        have s := Nat.le_trans r p; exact absurd s (by decide)
      · exact q
    · rintro rfl; have e : (2 : Nat) ^ 40 = 1099511627776 := by decide
      rw [e, Nat.mul_comm 1099511627776] at p; have := Nat.le_of_mul_le_mul_right p (by decide)
      omega
   obtain ⟨hL1, hL2⟩ := hL; obtain ⟨r, hr⟩ : ∃ r, r = (L + 1023) * 4503599627370496 + f := ⟨_, rfl⟩; rw [← hr]
   have hr2 : 4607182418800017408 ≤ r ∧ r ≤ 4787326403894837248 := by
    clear e4 d d2 e1; rcases Nat.lt_or_eq_of_le hL1 with q | q
    · omega
    · have := hL2 q; omega
   have hm : (if decide (n < 0) = true then 9223372036854775808 + r else r) % 9223372036854775808 = r := by split <;> omega
   unfold midB; rw [hm, Bool.or_eq_true, Bool.and_eq_true, decide_eq_true_eq, decide_eq_true_eq, decide_eq_true_eq]; omega
theorem zc_mid {m : List (Nat × Nat)} {S : List (Int × Int)} (h : Zc m S) (hS : BsC 1099511627776 S) : allM m = true := by
 refine allM_good (fun j c hj hc => ?_)
 obtain ⟨u, hu, iu⟩ := h.at (j := j) (by rw [← h.1]; exact hj)
 rw [hc] at hu; obtain rfl := Option.some.inj hu; have b := hS j; unfold midC; rw [isI_mid iu.1 b.1, isI_mid iu.2 b.2]; rfl
theorem zc_nought {u : Nat × Nat} {x : Int × Int} (h : IsIC u x) : noughtC u = true ↔ x = (0, 0) := by
 unfold noughtC; rw [Bool.and_eq_true, decide_eq_true_eq, decide_eq_true_eq]
 constructor
 · rintro ⟨h1, h2⟩; have a := nought_frat h1; have b := nought_frat h2; rw [h.1.2.2] at a; rw [h.2.2.2] at b; exact Prod.ext (Rat.intCast_eq_zero_iff.1 a) (Rat.intCast_eq_zero_iff.1 b)
 · rintro rfl; exact ⟨isI_nought h.1, isI_nought h.2⟩
theorem zc_some {m : List (Nat × Nat)} {S : List (Int × Int)} (h : Zc m S) : someB m = true ↔ ∃ x ∈ S, x ≠ (0, 0) := by
 unfold someB; rw [List.any_eq_true]
 constructor
 · rintro ⟨u, hu, hn⟩; obtain ⟨j, hj⟩ := List.getElem?_of_mem hu; have hl := (List.getElem?_eq_some_iff.1 hj).1; rw [h.1] at hl; obtain ⟨u', hu', iu⟩ := h.2 j _ (List.getElem?_eq_getElem hl); rw [hj] at hu'; obtain rfl := Option.some.inj hu'; refine ⟨_, List.getElem_mem hl, fun e => ?_⟩
   rw [(zc_nought iu).2 e] at hn; exact absurd hn (by decide)
 · rintro ⟨x, hx, hn⟩; obtain ⟨j, hj⟩ := List.getElem?_of_mem hx; obtain ⟨u, hu, iu⟩ := h.2 j x hj; refine ⟨u, List.mem_of_getElem? hu, ?_⟩
   cases hh : noughtC u
   · rfl
   · exact absurd ((zc_nought iu).1 hh) hn
theorem zc_map {m : List (Nat × Nat)} {S : List (Int × Int)} (h : Zc m S) : m.map cofr = S.map qx := by
 refine List.ext_getElem? (fun j => ?_)
 rw [List.getElem?_map, List.getElem?_map]; cases hs : S[j]? with
 | none =>
   rw [List.getElem?_eq_none_iff] at hs; rw [List.getElem?_eq_none (by rw [h.1]; exact hs)]
   rfl
 | some x =>
   obtain ⟨u, hu, iu⟩ := h.2 j x hs; rw [hu]; show some (cofr u) = some (qx x)
   unfold cofr qx; rw [iu.1.2.2, iu.2.2.2]
theorem zc_fbit {l : List (Int × Int)} (h : ∀ x ∈ l, x.1.natAbs ≤ 9007199254740992 ∧ x.2.natAbs ≤ 9007199254740992) : Zc (l.map (fun x => (floatOfInt .f64 x.1, floatOfInt .f64 x.2))) l := by
 refine ⟨List.length_map _, fun j x hx => ⟨_, by rw [List.getElem?_map, hx]; rfl, ?_⟩⟩
 have := h x (List.mem_of_getElem? hx); exact ⟨int_isI this.1, int_isI this.2⟩
theorem lowC_mul {n k : Nat} {F G : Cx → Cx} (hF : PC n F) (hG : PC k G) (P Q : Cx) : LowC (fun t => tim (F (wayT P Q t)) (G (wayT P Q t))) ↔ LowC (fun t => F (wayT P Q t)) ∧ LowC (fun t => G (wayT P Q t)) := by
 obtain ⟨R1, r1, h1⟩ := inB_of P; obtain ⟨R2, r2, h2⟩ := inB_of Q; obtain ⟨L1, B, _, hB, hb⟩ := hF.lip (R1 + R2); obtain ⟨L2, C, _, hC, hc⟩ := hG.lip (R1 + R2); have inn : ∀ t, 0 ≤ t → t ≤ 1 → InB (R1 + R2) (wayT P Q t) := fun t a b => inB_way (h1.mono (by grind)) (h2.mono (by grind)) a b
 constructor
 · rintro ⟨m, hm, h⟩
   have key : ∀ t, 0 ≤ t → t ≤ 1 → m ≤ nrm (F (wayT P Q t)) * nrm (G (wayT P Q t)) := fun t a b => by
    have := h t a b
    rwa [nrm_tim] at this
   constructor
   · refine ⟨m / (C + 1), by rw [Rat.lt_div_iff (by grind), Rat.zero_mul]; exact hm, fun t a b => ?_⟩
     refine Rat.le_of_mul_le_mul_right (c := C + 1) ?_ (by grind)
     rw [Rat.div_mul_cancel (by grind)]
     have q := (hc _ _ (inn t a b) (inn t a b)).1; have := Rat.mul_le_mul_of_nonneg_left q (nrm_nonneg (F (wayT P Q t))); have := key t a b; have := nrm_nonneg (F (wayT P Q t))
     grind
   · refine ⟨m / (B + 1), by rw [Rat.lt_div_iff (by grind), Rat.zero_mul]; exact hm, fun t a b => ?_⟩
     refine Rat.le_of_mul_le_mul_right (c := B + 1) ?_ (by grind)
     rw [Rat.div_mul_cancel (by grind)]
     have q := (hb _ _ (inn t a b) (inn t a b)).1; have := Rat.mul_le_mul_of_nonneg_right q (nrm_nonneg (G (wayT P Q t))); have := key t a b; have := nrm_nonneg (G (wayT P Q t))
     grind
 · rintro ⟨⟨m, hm, h⟩, ⟨m', hm', h'⟩⟩; refine ⟨m * m', Rat.mul_pos hm hm', fun t a b => ?_⟩
   rw [nrm_tim]; have p := Rat.mul_le_mul_of_nonneg_left (h' t a b) (Rat.le_of_lt hm); have q := Rat.mul_le_mul_of_nonneg_right (h t a b) (nrm_nonneg (G (wayT P Q t))); exact Rat.le_trans p q
theorem bord_mul {n k : Nat} {F G : Cx → Cx} (hF : PC n F) (hG : PC k G) (lo hi : Cx) : Bord (fun z => tim (F z) (G z)) lo hi ↔ Bord F lo hi ∧ Bord G lo hi := by
 unfold Bord; rw [lowC_mul hF hG, lowC_mul hF hG, lowC_mul hF hG, lowC_mul hF hG]; exact ⟨fun ⟨⟨a, b⟩, ⟨c, d⟩, ⟨e, f⟩, ⟨g, h⟩⟩ => ⟨⟨a, c, e, g⟩, ⟨b, d, f, h⟩⟩, fun ⟨⟨a, c, e, g⟩, ⟨b, d, f, h⟩⟩ => ⟨⟨a, b⟩, ⟨c, d⟩, ⟨e, f⟩, ⟨g, h⟩⟩⟩
theorem sum_mul {l1 l2 l3 : List (Nat × Nat)} {lo hi : Nat × Nat} (h : ∀ z, hor (l3.map cofr) z = tim (hor (l1.map cofr) z) (hor (l2.map cofr) z)) (b1 : Bord (hor (l1.map cofr)) (cofr lo) (cofr hi)) (b2 : Bord (hor (l2.map cofr)) (cofr lo) (cofr hi)) :
 sumT l3 lo hi 4 = sumT l1 lo hi 4 + sumT l2 lo hi 4 := by
 have e : hor (l3.map cofr) = fun z => tim (hor (l1.map cofr) z) (hor (l2.map cofr) z) := funext h
 have b3 : Bord (hor (l3.map cofr)) (cofr lo) (cofr hi) := by rw [e]; exact (bord_mul (pc_hor _) (pc_hor _) _ _).2 ⟨b1, b2⟩
 obtain ⟨N1, s1⟩ := sum_turn l1 lo hi b1; obtain ⟨N2, s2⟩ := sum_turn l2 lo hi b2; obtain ⟨N3, s3⟩ := sum_turn l3 lo hi b3; obtain ⟨N4, c1⟩ := Bord.cls (pc_hor (l1.map cofr)) b1; obtain ⟨N5, c2⟩ := Bord.cls (pc_hor (l2.map cofr)) b2; have m := Wn_mul (c1 (N1 + N2 + N3 + N4 + N5) (by omega)) (c2 (N1 + N2 + N3 + N4 + N5) (by omega))
 rw [s1 (N1 + N2 + N3 + N4 + N5) (by omega), s2 (N1 + N2 + N3 + N4 + N5) (by omega), s3 (N1 + N2 + N3 + N4 + N5) (by omega), e, m]
theorem sum_four {l : List (Nat × Nat)} {lo hi : Nat × Nat} (h : Bord (hor (l.map cofr)) (cofr lo) (cofr hi)) : ∃ k : Int, sumT l lo hi 4 = 4 * k := by
 obtain ⟨N1, s1⟩ := sum_turn l lo hi h; obtain ⟨N2, c1⟩ := Bord.cls (pc_hor (l.map cofr)) h; obtain ⟨k, hk⟩ := Wn_four (c1 (N1 + N2) (by omega))
 exact ⟨k, by rw [s1 (N1 + N2) (by omega), hk]⟩
theorem zerosN_end {l : List (Nat × Nat)} {lo hi : Nat × Nat} (h1 : 1 ≤ l.length) (h2 : l.length ≤ 17) (hM : allM l = true) : askE l lo hi = if someB l = false then 80 else endE lo hi := by
 unfold askE; rw [if_neg (by omega), if_neg (by rw [hM]; decide)]
theorem endE_cases (lo hi : Nat × Nat) : endE lo hi = 0 ∨ endE lo hi = 5 ∨ endE lo hi = 110 := by
 unfold endE
 split
 · exact .inr (.inl rfl)
 · split
   · exact .inr (.inr rfl)
   · exact .inl rfl
theorem zerosN_val {l : List (Nat × Nat)} {lo hi : Nat × Nat} (h1 : 1 ≤ l.length) (h2 : l.length ≤ 17) (hM : allM l = true) :
 (someB l = false → zerosN l lo hi = (0, 80)) ∧ (someB l = true → endE lo hi ≠ 0 → zerosN l lo hi = (0, endE lo hi)) ∧ (someB l = true → endE lo hi = 0 → ¬ Bord (hor (l.map cofr)) (cofr lo) (cofr hi) → zerosN l lo hi = (0, 32)) ∧ (someB l = true → endE lo hi = 0 → Bord (hor (l.map cofr)) (cofr lo) (cofr hi) → zerosN l lo hi = ((sumT l lo hi 4).tdiv 4, 0)) := by
 have a := zerosN_end (lo := lo) (hi := hi) h1 h2 hM; refine ⟨fun h => ?_, fun h k => ?_, fun h k b => ?_, fun h k b => ?_⟩
 · rw [h, if_pos rfl] at a; unfold zerosN; rw [a, if_pos (by decide)]
 · rw [h, if_neg (by decide)] at a
   unfold zerosN; rw [a, if_pos k]
 · rw [h, if_neg (by decide), k] at a
   unfold zerosN; rw [a, if_neg (by decide), if_pos]
   cases ht : touchT l lo hi 4
   · exact absurd ((touch_bord l lo hi).1 ht) b
   · rfl
 · rw [h, if_neg (by decide), k] at a
   unfold zerosN; rw [a, if_neg (by decide), if_neg (by rw [(touch_bord l lo hi).2 b]; decide)]
theorem prod_law {A B : List (Int × Int)} {l1 l2 l3 : List (Nat × Nat)} {lo hi : Nat × Nat} (z1 : Zc l1 A) (z2 : Zc l2 B) (z3 : Zc l3 (convI A B)) (hA1 : 1 ≤ A.length) (hA2 : A.length ≤ 5) (hB1 : 1 ≤ B.length) (hB2 : B.length ≤ 5) (bA : BsC 1099511627776 A) (bB : BsC 1099511627776 B) (bC : BsC 1099511627776 (convI A B)) :
 ((zerosN l1 lo hi).2 = 80 ∨ (zerosN l2 lo hi).2 = 80 → (zerosN l3 lo hi).2 = 80) ∧
 ((zerosN l1 lo hi).2 ≠ 80 → (zerosN l2 lo hi).2 ≠ 80 → ((zerosN l1 lo hi).2 ≠ 0 → (zerosN l1 lo hi).2 ≠ 32 → (zerosN l2 lo hi).2 = (zerosN l1 lo hi).2 ∧ (zerosN l3 lo hi).2 = (zerosN l1 lo hi).2) ∧
   ((zerosN l1 lo hi).2 = 0 ∨ (zerosN l1 lo hi).2 = 32 → ((zerosN l1 lo hi).2 = 32 ∨ (zerosN l2 lo hi).2 = 32 → (zerosN l3 lo hi).2 = 32 ∧ (zerosN l3 lo hi).1 = 0) ∧
     ((zerosN l1 lo hi).2 ≠ 32 → (zerosN l2 lo hi).2 ≠ 32 → (zerosN l3 lo hi).2 = 0 ∧ (zerosN l3 lo hi).1 = (zerosN l1 lo hi).1 + (zerosN l2 lo hi).1))) := by
 have len1 : l1.length = A.length := z1.1; have len2 : l2.length = B.length := z2.1; have len3 : l3.length = A.length + B.length - 1 := by rw [z3.1, convI_len]
 obtain ⟨a1, a2, a3, a4⟩ := zerosN_val (lo := lo) (hi := hi) (l := l1) (by omega) (by omega) (zc_mid z1 bA)
 obtain ⟨b1, b2, b3, b4⟩ := zerosN_val (lo := lo) (hi := hi) (l := l2) (by omega) (by omega) (zc_mid z2 bB)
 obtain ⟨c1, c2, c3, c4⟩ := zerosN_val (lo := lo) (hi := hi) (l := l3) (by omega) (by omega) (zc_mid z3 bC)
 have hh : ∀ z, hor (l3.map cofr) z = tim (hor (l1.map cofr) z) (hor (l2.map cofr) z) := by
  intro z; rw [zc_map z1, zc_map z2, zc_map z3]; exact hor_conv z hA1 hB1
 have hbm : Bord (hor (l3.map cofr)) (cofr lo) (cofr hi) ↔ Bord (hor (l1.map cofr)) (cofr lo) (cofr hi) ∧ Bord (hor (l2.map cofr)) (cofr lo) (cofr hi) := by
  rw [show hor (l3.map cofr) = fun z => tim (hor (l1.map cofr) z) (hor (l2.map cofr) z) from funext hh]
  exact bord_mul (pc_hor _) (pc_hor _) _ _
 have allz : ∀ {m : List (Nat × Nat)} {S : List (Int × Int)}, Zc m S → someB m = false → ∀ x ∈ S, x = (0, 0) := by
  intro m S h hs x hx; refine Classical.byContradiction fun k => ?_
  rw [(zc_some h).2 ⟨x, hx, k⟩] at hs; exact absurd hs (by decide)
 have zero3 : someB l1 = false ∨ someB l2 = false → someB l3 = false := by
  intro h; cases h3 : someB l3 with
  | false => rfl
  | true =>
    exfalso
    obtain ⟨x, hx, hn⟩ := (zc_some z3).1 h3
    have z : ∀ S : List (Int × Int), (∀ i k, gmul (A.getD i (0, 0)) (B.getD k (0, 0)) = (0, 0)) → ∀ n i, ∀ y ∈ allC A B n i, y = (0, 0) := by
     intro S hg n i
     have step : ∀ T : List (Int × Int), (∀ y ∈ T, y = (0, 0)) → ∀ i k, ∀ y ∈ rowC A B T i k, y = (0, 0) := by
      intro T hT i k
      induction k with
      | zero => exact hT
      | succ k ih =>
        intro y hy; rw [rowC] at hy; unfold stepC at hy; rw [hg] at hy; rcases List.mem_or_eq_of_mem_set hy with q | q
        · exact ih y q
        · rw [q]
          have : (rowC A B T i k).getD (i + k) (0, 0) = (0, 0) := by
           rw [List.getD_eq_getElem?_getD]; cases hq : (rowC A B T i k)[i + k]? with
           | none => rfl
           | some w => exact ih w (List.mem_of_getElem? hq)
          rw [this]; rfl
     induction i with
     | zero => intro y hy; exact List.eq_of_mem_replicate hy
     | succ i ih => exact step _ ih _ _
    have gz : ∀ {S : List (Int × Int)}, (∀ y ∈ S, y = (0, 0)) → ∀ i, S.getD i (0, 0) = (0, 0) := by
     intro S hS i; rw [List.getD_eq_getElem?_getD]; cases hq : S[i]? with
     | none => rfl
     | some w => exact hS w (List.mem_of_getElem? hq)
    refine hn (z [] (fun i k => ?_) _ _ x hx)
    rcases h with h | h
    · rw [gz (allz z1 h)]; unfold gmul; simp
    · rw [gz (allz z2 h)]; unfold gmul; simp
 cases s1 : someB l1 with
 | false =>
   have e1 := a1 s1; have e3 := c1 (zero3 (.inl s1)); rw [e1, e3]; exact ⟨fun _ => rfl, fun h => absurd rfl h⟩
 | true =>
   cases s2 : someB l2 with
   | false =>
     have e2 := b1 s2; have e3 := c1 (zero3 (.inr s2)); rw [e2, e3]; exact ⟨fun _ => rfl, fun _ h => absurd rfl h⟩
   | true =>
     have s3 : someB l3 = true := (zc_some z3).2 (conv_ne ((zc_some z1).1 s1) ((zc_some z2).1 s2)); rcases endE_cases lo hi with k | k
     · by_cases B1 : Bord (hor (l1.map cofr)) (cofr lo) (cofr hi)
       · by_cases B2 : Bord (hor (l2.map cofr)) (cofr lo) (cofr hi)
         · rw [a4 s1 k B1, b4 s2 k B2, c4 s3 k (hbm.2 ⟨B1, B2⟩), sum_mul hh B1 B2]; obtain ⟨p, hp⟩ := sum_four B1; obtain ⟨q, hq⟩ := sum_four B2; rw [hp, hq, ← Int.mul_add, Int.mul_tdiv_cancel_left _ (by decide), Int.mul_tdiv_cancel_left _ (by decide), Int.mul_tdiv_cancel_left _ (by decide)]
           exact ⟨fun h => by rcases h with h | h <;> exact absurd (show (0 : Int) = 80 from h) (by decide), fun _ _ => ⟨fun h => absurd rfl h, fun _ => ⟨fun h => by rcases h with h | h <;> exact absurd (show (0 : Int) = 32 from h) (by decide), fun _ _ => ⟨rfl, rfl⟩⟩⟩⟩
         · rw [a4 s1 k B1, b3 s2 k B2, c3 s3 k (fun h => B2 (hbm.1 h).2)]
           exact ⟨fun h => by rcases h with h | h <;> first | exact absurd (show (0 : Int) = 80 from h) (by decide) | exact absurd (show (32 : Int) = 80 from h) (by decide), fun _ _ => ⟨fun h => absurd rfl h, fun _ => ⟨fun _ => ⟨rfl, rfl⟩, fun _ h => absurd rfl h⟩⟩⟩
       · rw [a3 s1 k B1, c3 s3 k (fun h => B1 (hbm.1 h).1)]
         refine ⟨fun h => ?_, fun _ _ => ⟨fun _ h => absurd rfl h, fun _ => ⟨fun _ => ⟨rfl, rfl⟩, fun h => absurd rfl h⟩⟩⟩
         rcases h with h | h
         · exact absurd h (by decide)
         · by_cases B2 : Bord (hor (l2.map cofr)) (cofr lo) (cofr hi)
           · rw [b4 s2 k B2] at h; exact absurd (show (0 : Int) = 80 from h) (by decide)
           · rw [b3 s2 k B2] at h; exact absurd h (by decide)
     · have kn : endE lo hi ≠ 0 := by rcases k with k | k <;> rw [k] <;> decide
       rw [a2 s1 kn, b2 s2 kn, c2 s3 kn]; have n80 : endE lo hi ≠ 80 := by rcases k with k | k <;> rw [k] <;> decide
       have n32 : endE lo hi ≠ 32 := by rcases k with k | k <;> rw [k] <;> decide
       exact ⟨fun h => by rcases h with h | h <;> exact absurd h n80, fun _ _ => ⟨fun _ _ => ⟨rfl, rfl⟩, fun h => by rcases h with h | h <;> first | exact absurd h kn | exact absurd h n32⟩⟩
def ClS (W : World) (a : Option Addr) (l : List (Nat × Nat)) : Prop := l ≠ [] → ∃ g off, a = some ⟨g, off, none⟩ ∧ ClC W g off l
theorem clS_rw {W : World} {a : Option Addr} {n cap : Nat} {l : List (Nat × Nat)} (h : Rw 29 EC W (.slice a n cap) l) : ClS W a l := by
 intro h0; obtain ⟨a', cap', he, -, h3⟩ := h; simp only [Value.slice.injEq] at he; obtain ⟨rfl, -, -⟩ := he; obtain ⟨g, off, C, rfl, hC, hl⟩ := h3 (List.length_pos_iff.2 h0); refine ⟨g, off, rfl, ⟨⟨C, hC, fun i x hx => ?_⟩⟩⟩
 obtain ⟨u, q1, q2⟩ := hl i x hx; rw [show u = .complex .f64 x.1 x.2 from q2] at q1
 exact q1
theorem gaZerosNil {w : World} {ad : Option Addr} {cap : Nat} {v0 v1 : Value} :
 Calls Tryz.prog 18 #[.slice ad 0 cap, .agg #[v0, v1]] w fun e w' => e = .returned (.tuple #[.int .i64 0, .int .i64 4]) ∧ Kp0 w w' := by
 go_enter Tryz.func18, Tryz.ntmps18; go_wp2_with (go_at_call 63; (with_reducible refine Calls.mono (gaAskMany (.inl (by decide))) ?_); rintro e wa ⟨rfl, _⟩)
 all_goals first
  | (go_ret2
     exact ⟨rfl, ⟨Gr.out⟩⟩)
  | (exfalso; simp_all; done)
theorem gaZerosS {w : World} {ad : Option Addr} {cap : Nat} {l : List (Nat × Nat)} {a b c d : Nat} (h : ClS w ad l) [hv : VrC w] (hl : okB l) (ha : a < 18446744073709551616) (hb : b < 18446744073709551616) (hc' : c < 18446744073709551616) (hd : d < 18446744073709551616) :
 Calls Tryz.prog 18 #[.slice ad l.length cap, .agg #[.complex .f64 a b, .complex .f64 c d]] w fun e w' => e = .returned (.tuple #[.int .i64 (zerosN l (a, b) (c, d)).1, .int .i64 (zerosN l (a, b) (c, d)).2]) ∧ Kp0 w w' := by
 by_cases h0 : l = []
 · have e : zerosN l (a, b) (c, d) = (0, 4) := by
    have k : askE l (a, b) (c, d) = 4 := by unfold askE; rw [if_pos (.inl (by rw [h0]; decide))]
    unfold zerosN; rw [k]; rfl
   rw [e, h0]; exact gaZerosNil
 · obtain ⟨g, off, rfl, cl⟩ := h h0; exact gaZeros (hc := cl) hl ha hb hc' hd
theorem bk_rw {w : World} {g cap : Nat} {m : List (Nat × Nat)} (h : Bk w g (m.map cV) 29) (hc : m.length ≤ cap) : Rw 29 EC w (.slice (some ⟨g, 0, none⟩) m.length cap) m :=
 ⟨_, _, rfl, hc, fun _ => ⟨g, 0, _, rfl, h.1, fun i x hx => ⟨.complex .f64 x.1 x.2, by rw [Nat.zero_add, List.getElem?_toArray]; exact cv_at hx, rfl⟩⟩⟩
theorem zc_ok {m : List (Nat × Nat)} {S : List (Int × Int)} (h : Zc m S) : okB m := by
 intro u hu; obtain ⟨j, hj⟩ := List.getElem?_of_mem hu; have hl := (List.getElem?_eq_some_iff.1 hj).1; rw [h.1] at hl; obtain ⟨u', hu', iu⟩ := h.2 j _ (List.getElem?_eq_getElem hl); rw [hj] at hu'; obtain rfl := Option.some.inj hu'; exact ⟨iu.1.1, iu.2.1⟩
theorem zerosN_bound {l : List (Nat × Nat)} {lo hi : Nat × Nat} (b1 : lo.1 < 18446744073709551616) (b2 : lo.2 < 18446744073709551616) (b3 : hi.1 < 18446744073709551616) (b4 : hi.2 < 18446744073709551616) : 0 ≤ (zerosN l lo hi).1 ∧ (zerosN l lo hi).1 ≤ 17 := by
 by_cases h : (zerosN l lo hi).2 = 0
 · obtain ⟨h0, hb, e⟩ := zerosN_ok h; obtain ⟨hl, x1, x2⟩ := ask_box h0 b1 b2 b3 b4; obtain ⟨k, k1, k2, k3⟩ := sum_bound x1 x2 hl.1 hb; rw [e, k1, Int.mul_tdiv_cancel_left _ (by decide)]
   omega
 · rw [zerosN_err h]; omega
theorem bs_of {l : List (Int × Int)} {c : Nat} (h : ∀ x ∈ l, x.1.natAbs ≤ c ∧ x.2.natAbs ≤ c) : BsC c l := by
 intro j; rw [List.getD_eq_getElem?_getD]; cases hq : l[j]? with
 | none => exact ⟨Nat.zero_le _, Nat.zero_le _⟩
 | some x => exact h x (List.mem_of_getElem? hq)
theorem pr_of {A B : List (Int × Int)} {a b : Nat} (hA : BsC a A) (hB : BsC b B) : PrC (a * b) A B := by
 intro i k; have x := hA i; have y := hB k; refine ⟨?_, ?_, ?_, ?_⟩ <;> (rw [Int.natAbs_mul]; exact Nat.mul_le_mul (by omega) (by omega))
theorem small_bs {m : Nat} {l : List (Int × Int)} (h : smallB (m : Int) l = true) : BsC m l := bs_of (fun x hx => by
 have := smallB_iff.1 h x hx
 omega)
theorem lawProd {w : World} {a1 a2 : Option Addr} {c1 c2 x y u z : Nat} {A B : List (Int × Int)} [hv : VrB w] (h1 : Gl w a1 A) (h2 : Gl w a2 B) (n1 : A.length ≤ 1048575) (n2 : B.length ≤ 1048575) (o1 : ok16 A) (o2 : ok16 B) (hx : x < 18446744073709551616) (hy : y < 18446744073709551616) (hu : u < 18446744073709551616) (hz : z < 18446744073709551616) :
 Calls Tryz.prog 5 #[.slice a1 A.length c1, .slice a2 B.length c2, .agg #[.int .u64 (x : Int), .int .u64 (y : Int), .int .u64 (u : Int), .int .u64 (z : Int)]] w fun e w' => e = .returned (.bool true) ∧ Kp0 w w' := by
 have S1 := hid (fun (W : World) (k : Gr w W) => lwSmall (cap := c1) (m := 1000) (h1.grow k) (Nat.le_succ_of_le n1) ⟨by decide, by decide⟩ o1)
 have S2 := hid (fun (W : World) (k : Gr w W) => lwSmall (cap := c2) (m := 1000) (h2.grow k) (Nat.le_succ_of_le n2) ⟨by decide, by decide⟩ o2)
 have F1 := hid (fun (W : World) (k : Gr w W) => lwOf (cap := c1) (h1.grow k) n1)
 have F2 := hid (fun (W : World) (k : Gr w W) => lwOf (cap := c2) (h2.grow k) n2)
 obtain ⟨na, hna⟩ : ∃ na, na = A.length := ⟨_, rfl⟩; obtain ⟨nb, hnb⟩ : ∃ nb, nb = B.length := ⟨_, rfl⟩; have HL1 := hid hna; have HL2 := hid hnb; have N1 := hid n1; have N2 := hid n2; rw [← hna] at S1 F1 ⊢; rw [← hnb] at S2 F2 ⊢; have T1 := hid (fun k : smallB 1000 A = true => small_bs (m := 1000) k)
 have T2 := hid (fun k : smallB 1000 B = true => small_bs (m := 1000) k)
 generalize smallB 1000 A = V1 at *; generalize smallB 1000 B = V2 at *; clear h1 h2 o1 o2 n1 n2 hna hnb; by_cases g1 : na < 1
 · have g1' : (na : Int) < 1 := by omega
   clear g1; go_enter Tryz.func5, Tryz.ntmps5; go_wp2_with (first | (go_at_call 12; (with_reducible refine Calls.mono (lwAwake (hv := ⟨VrC.out⟩)) ?_); rintro e wc ⟨rfl, _⟩) | (go_at_call 21; (with_reducible refine Calls.mono (S1.out _ inferInstance) ?_); rintro e wc ⟨rfl, _⟩) | (go_at_call 21; (with_reducible refine Calls.mono (S2.out _ inferInstance) ?_); rintro e wc ⟨rfl, _⟩))
   go_ret
   exact ⟨rfl, ⟨Gr.out⟩⟩
 by_cases g2 : nb < 1
 · have g1' : ¬ (na : Int) < 1 := by omega
   have g2' : (nb : Int) < 1 := by omega
   clear g1 g2; go_enter Tryz.func5, Tryz.ntmps5; go_wp2_with (first | (go_at_call 12; (with_reducible refine Calls.mono (lwAwake (hv := ⟨VrC.out⟩)) ?_); rintro e wc ⟨rfl, _⟩) | (go_at_call 21; (with_reducible refine Calls.mono (S1.out _ inferInstance) ?_); rintro e wc ⟨rfl, _⟩) | (go_at_call 21; (with_reducible refine Calls.mono (S2.out _ inferInstance) ?_); rintro e wc ⟨rfl, _⟩))
   go_ret
   exact ⟨rfl, ⟨Gr.out⟩⟩
 by_cases g3 : 5 < na
 · have g1' : ¬ (na : Int) < 1 := by omega
   have g2' : ¬ (nb : Int) < 1 := by omega
   have g3' : (5 : Int) < (na : Int) := by omega
   clear g1 g2 g3; go_enter Tryz.func5, Tryz.ntmps5; go_wp2_with (first | (go_at_call 12; (with_reducible refine Calls.mono (lwAwake (hv := ⟨VrC.out⟩)) ?_); rintro e wc ⟨rfl, _⟩) | (go_at_call 21; (with_reducible refine Calls.mono (S1.out _ inferInstance) ?_); rintro e wc ⟨rfl, _⟩) | (go_at_call 21; (with_reducible refine Calls.mono (S2.out _ inferInstance) ?_); rintro e wc ⟨rfl, _⟩))
   go_ret
   exact ⟨rfl, ⟨Gr.out⟩⟩
 by_cases g4 : 5 < nb
 · have g1' : ¬ (na : Int) < 1 := by omega
   have g2' : ¬ (nb : Int) < 1 := by omega
   have g3' : ¬ (5 : Int) < (na : Int) := by omega
   have g4' : (5 : Int) < (nb : Int) := by omega
   clear g1 g2 g3 g4; go_enter Tryz.func5, Tryz.ntmps5; go_wp2_with (first | (go_at_call 12; (with_reducible refine Calls.mono (lwAwake (hv := ⟨VrC.out⟩)) ?_); rintro e wc ⟨rfl, _⟩) | (go_at_call 21; (with_reducible refine Calls.mono (S1.out _ inferInstance) ?_); rintro e wc ⟨rfl, _⟩) | (go_at_call 21; (with_reducible refine Calls.mono (S2.out _ inferInstance) ?_); rintro e wc ⟨rfl, _⟩))
   go_ret
   exact ⟨rfl, ⟨Gr.out⟩⟩
 have g1' : ¬ (na : Int) < 1 := by omega
 have g2' : ¬ (nb : Int) < 1 := by omega
 have g3' : ¬ (5 : Int) < (na : Int) := by omega
 have g4' : ¬ (5 : Int) < (nb : Int) := by omega
 cases V1 with
 | false =>
   clear g1 g2 g3 g4; go_enter Tryz.func5, Tryz.ntmps5; go_wp2_with (first | (go_at_call 12; (with_reducible refine Calls.mono (lwAwake (hv := ⟨VrC.out⟩)) ?_); rintro e wc ⟨rfl, _⟩) | (go_at_call 21; (with_reducible refine Calls.mono (S1.out _ inferInstance) ?_); rintro e wc ⟨rfl, _⟩) | (go_at_call 21; (with_reducible refine Calls.mono (S2.out _ inferInstance) ?_); rintro e wc ⟨rfl, _⟩))
   go_ret
   exact ⟨rfl, ⟨Gr.out⟩⟩
 | true =>
 cases V2 with
 | false =>
   clear g1 g2 g3 g4; go_enter Tryz.func5, Tryz.ntmps5; go_wp2_with (first | (go_at_call 12; (with_reducible refine Calls.mono (lwAwake (hv := ⟨VrC.out⟩)) ?_); rintro e wc ⟨rfl, _⟩) | (go_at_call 21; (with_reducible refine Calls.mono (S1.out _ inferInstance) ?_); rintro e wc ⟨rfl, _⟩) | (go_at_call 21; (with_reducible refine Calls.mono (S2.out _ inferInstance) ?_); rintro e wc ⟨rfl, _⟩))
   go_ret
   exact ⟨rfl, ⟨Gr.out⟩⟩
 | true =>
 have bA := T1.out rfl; have bB := T2.out rfl; have la1 : 1 ≤ A.length := by have := HL1.out; omega
 have la2 : A.length ≤ 5 := by have := HL1.out; omega
 have lb1 : 1 ≤ B.length := by have := HL2.out; omega
 have lb2 : B.length ≤ 5 := by have := HL2.out; omega
 have z1 : Zc (A.map fbit) A := zc_fbit (fun p hp => by
  obtain ⟨j, hj⟩ := List.getElem?_of_mem hp; have := bA j; rw [List.getD_eq_getElem?_getD, hj] at this; have t : p.1.natAbs ≤ 1000 ∧ p.2.natAbs ≤ 1000 := this
  omega)
 have z2 : Zc (B.map fbit) B := zc_fbit (fun p hp => by
  obtain ⟨j, hj⟩ := List.getElem?_of_mem hp; have := bB j; rw [List.getD_eq_getElem?_getD, hj] at this; have t : p.1.natAbs ≤ 1000 ∧ p.2.natAbs ≤ 1000 := this
  omega)
 have hp : PrC 1000000 A B := pr_of bA bB
 have bC : BsC 1099511627776 (convI A B) := fun j => by
  have := allC_bs (A.length + B.length - 1) A.length hp j; have e : A.length * B.length ≤ 5 * 5 := Nat.mul_le_mul la2 lb2; have e2 : A.length * B.length * (2 * 1000000) ≤ 5 * 5 * (2 * 1000000) := Nat.mul_le_mul_right _ e; unfold convI; omega
 have up : ∀ {l : List (Int × Int)}, BsC 1000 l → BsC 1099511627776 l := fun h j => by have := h j; omega
 have PL := hid (fun (m : List (Nat × Nat)) (z3 : Zc m (convI A B)) => prod_law (lo := (x, y)) (hi := (u, z)) z1 z2 z3 la1 la2 lb1 lb2 (up bA) (up bB) bC)
 have NB1 := zerosN_bound (l := A.map fbit) (lo := (x, y)) (hi := (u, z)) hx hy hu hz; have NB2 := zerosN_bound (l := B.map fbit) (lo := (x, y)) (hi := (u, z)) hx hy hu hz; have TM := hid (fun (W : World) (aa ab : Option Addr) (ca cb : Nat) (ha : Rw 29 EC W (.slice aa (A.map fbit).length ca) (A.map fbit)) (hb : Rw 29 EC W (.slice ab (B.map fbit).length cb) (B.map fbit)) => lwTimes ha hb z1 z2 la1 (by omega) lb1 lb2 hp (by omega))
 have Z1 := hid (fun (W : World) (a' : Option Addr) (cap' : Nat) (q : VrC W) (k : ClS W a' (A.map fbit)) => show Calls Tryz.prog 18 #[.slice a' (A.map fbit).length cap', (.agg #[.complex .f64 x y, .complex .f64 u z])] W (fun e w' => e = .returned (.tuple #[.int .i64 (zerosN (A.map fbit) (x, y) (u, z)).1, .int .i64 (zerosN (A.map fbit) (x, y) (u, z)).2]) ∧ Kp0 W w') from gaZerosS (hv := q) k (zc_ok z1) hx hy hu hz)
 have Z2 := hid (fun (W : World) (a' : Option Addr) (cap' : Nat) (q : VrC W) (k : ClS W a' (B.map fbit)) => show Calls Tryz.prog 18 #[.slice a' (B.map fbit).length cap', (.agg #[.complex .f64 x y, .complex .f64 u z])] W (fun e w' => e = .returned (.tuple #[.int .i64 (zerosN (B.map fbit) (x, y) (u, z)).1, .int .i64 (zerosN (B.map fbit) (x, y) (u, z)).2]) ∧ Kp0 W w') from gaZerosS (hv := q) k (zc_ok z2) hx hy hu hz)
 have Z3 := hid (fun (m : List (Nat × Nat)) (z3 : Zc m (convI A B)) (W : World) (a' : Option Addr) (cap' : Nat) (q : VrC W) (k : ClS W a' m) => show Calls Tryz.prog 18 #[.slice a' m.length cap', (.agg #[.complex .f64 x y, .complex .f64 u z])] W (fun e w' => e = .returned (.tuple #[.int .i64 (zerosN m (x, y) (u, z)).1, .int .i64 (zerosN m (x, y) (u, z)).2]) ∧ Kp0 W w') from gaZerosS (hv := q) k (zc_ok z3) hx hy hu hz)
 rw [List.length_map, List.length_map] at TM; rw [List.length_map] at Z1 Z2; rw [← HL1.out] at TM Z1; rw [← HL2.out] at TM Z2; generalize (zerosN (A.map fbit) (x, y) (u, z)).1 = n1 at *; generalize (zerosN (A.map fbit) (x, y) (u, z)).2 = e1 at *; generalize (zerosN (B.map fbit) (x, y) (u, z)).1 = n2 at *; generalize (zerosN (B.map fbit) (x, y) (u, z)).2 = e2 at *; have NB := hid (And.intro NB1 NB2); clear NB1 NB2 bA bB la1 la2 lb1 lb2 z1 z2 hp bC up hx hy hu hz g1 g2 g3 g4 T1 T2; go_enter Tryz.func5, Tryz.ntmps5; go_upto_region 7 with (first | (go_at_call 12; (with_reducible refine Calls.mono (lwAwake (hv := ⟨VrC.out⟩)) ?_); rintro e wc ⟨rfl, _⟩) | (go_at_call 21; (with_reducible refine Calls.mono (S1.out _ inferInstance) ?_); rintro e wc ⟨rfl, _⟩) | (go_at_call 21; (with_reducible refine Calls.mono (S2.out _ inferInstance) ?_); rintro e wc ⟨rfl, _⟩) | (go_at_call 22; (with_reducible refine Calls.mono (F1.out _ inferInstance) ?_); rintro e wn ⟨v1, rfl, hv1, _⟩; obtain ⟨aV1, cV1, rfl, _⟩ := hv1.rw.form; rw [List.length_map, ← HL1.out] at hv1 ⊢; have HV1 := hid hv1; clear hv1))
 go_upto_region 8 with (go_at_call 22; (with_reducible refine Calls.mono (F2.out _ inferInstance) ?_); rintro e wn ⟨v2, rfl, hv2, _⟩; obtain ⟨aV2, cV2, rfl, _⟩ := hv2.rw.form; rw [List.length_map, ← HL2.out] at hv2 ⊢; have HV2 := hid hv2; clear hv2)
 go_upto_region 9 with (first | (go_at_call 19; (with_reducible refine Calls.mono (lwBox) ?_); rintro e wc ⟨rfl, _⟩) | (go_at_call 18; (with_reducible refine Calls.mono (Z1.out _ _ _ inferInstance (clS_rw (HV1.out.rw.below eok_EC Gr.out))) ?_); rintro e wz ⟨rfl, _⟩))
 go_upto_region 10 with (first | (go_at_call 19; (with_reducible refine Calls.mono (lwBox) ?_); rintro e wc ⟨rfl, _⟩) | (go_at_call 18; (with_reducible refine Calls.mono (Z2.out _ _ _ inferInstance (clS_rw (HV2.out.rw.below eok_EC Gr.out))) ?_); rintro e wz ⟨rfl, _⟩))
 clear Z1 Z2 F1 F2 S1 S2; go_cut [14, 15] from 65 (fun s14 s15 wx => ∃ m, s14 = .int .i64 (zerosN m (x, y) (u, z)).1 ∧ s15 = .int .i64 (zerosN m (x, y) (u, z)).2 ∧ Hid (Zc m (convI A B)) ∧ Kp0 wz wx)
 case first =>
  go_region_held3 (fun W => W.cell? ⟨w.heap.size, 0, none⟩ = some (.int .u64 (x : Int)) ∧ W.cell? ⟨w.heap.size, 1, none⟩ = some (.int .u64 (y : Int)) ∧ W.cell? ⟨w.heap.size, 2, none⟩ = some (.int .u64 (u : Int)) ∧ W.cell? ⟨w.heap.size, 3, none⟩ = some (.int .u64 (z : Int))) (refine ⟨?_, ?_, ?_, ?_⟩ <;> (first | exact Bk.cell BkC.out rfl | (simp [go_sem]; done))) (first | (go_at_call 19; (with_reducible refine Calls.mono (lwBox) ?_); rintro e wc ⟨rfl, _⟩) | (go_at_call 23; (with_reducible refine Calls.mono (TM.out _ _ _ _ _ (HV1.out.rw.below eok_EC Gr.out) (HV2.out.rw.below eok_EC Gr.out)) ?_); rintro e wt ⟨gT, nT, mT, rfl, hnT, hbT, hzT, _⟩; obtain rfl := hnT; have ZT := hid hzT; clear hzT; haveI bT : BkC wt gT (mT.map cV) 29 := ⟨hbT⟩; clear hbT) | (go_at_call 18; (with_reducible refine Calls.mono (Z3.out _ ZT.out _ _ _ inferInstance (clS_rw (bk_rw BkC.out (Nat.le_refl _)))) ?_); rintro e wy ⟨rfl, _⟩))
  all_goals (go_wp2_with fail; go_meet; exact ⟨_, rfl, rfl, hid ZT.out, ⟨Gr.out⟩⟩)
 case rest =>
 obtain ⟨m, rfl, rfl, hm, iq⟩ := hcut; obtain ⟨L1, L2⟩ := PL.out m hm.out; generalize hwq : wc = wq at *; clear hwq PL TM Z3 HV1 HV2 hm; generalize (zerosN m (x, y) (u, z)).1 = n3 at *; generalize (zerosN m (x, y) (u, z)).2 = e3 at *; by_cases t1 : e1 = 80
 · have q := L1 (.inl t1); subst t1; subst q; clear L1 L2; go_wp2_with fail
   go_ret
   exact ⟨rfl, ⟨Gr.out⟩⟩
 have t1' : (e1 == 80) = false := beq_eq_false_iff_ne.2 t1; by_cases t2 : e2 = 80
 · have q := L1 (.inr t2); subst t2; subst q; clear L1 L2; go_wp2_with fail
   go_ret
   exact ⟨rfl, ⟨Gr.out⟩⟩
 have t2' : (e2 == 80) = false := beq_eq_false_iff_ne.2 t2; obtain ⟨M1, M2⟩ := L2 t1 t2; clear L1 L2; by_cases t3 : e1 = 0
 · obtain ⟨M3, M4⟩ := M2 (.inl t3); by_cases t4 : e2 = 32
   · obtain ⟨q1, q2⟩ := M3 (.inr t4); subst t3; subst t4; subst q1; subst q2; clear M1 M2 M3 M4; go_wp2_with fail
     go_ret
     exact ⟨rfl, ⟨Gr.out⟩⟩
   · obtain ⟨q1, q2⟩ := M4 (by rw [t3]; decide) t4
     have t4' : (e2 == 32) = false := beq_eq_false_iff_ne.2 t4; have wr1 : IntKind.i64.wrap (n1 + n2) = n1 + n2 := by rw [IntKind.wrap_i64]; have := NB.out; omega
     subst t3; subst q1; subst q2; clear M1 M2 M3 M4; go_wp2_with fail
     go_ret
     exact ⟨rfl, ⟨Gr.out⟩⟩
 have t3' : (e1 == 0) = false := beq_eq_false_iff_ne.2 t3; by_cases t5 : e1 = 32
 · obtain ⟨M3, M4⟩ := M2 (.inr t5); obtain ⟨q1, q2⟩ := M3 (.inl t5); subst t5; subst q1; subst q2; clear M1 M2 M3 M4; go_wp2_with fail
   go_ret
   exact ⟨rfl, ⟨Gr.out⟩⟩
 have t5' : (e1 == 32) = false := beq_eq_false_iff_ne.2 t5; obtain ⟨q1, q2⟩ := M1 t3 t5; subst q1; subst q2; clear M1 M2; have b0 : (e3 != 0) = true := by rw [bne, t3']; rfl
 have b32 : (e3 != 32) = true := by rw [bne, t5']; rfl
 go_wp2_with fail
 go_ret
 exact ⟨rfl, ⟨Gr.out⟩⟩
end Go.Proofs.YthjeejnggpjnjaaGreatDoor
