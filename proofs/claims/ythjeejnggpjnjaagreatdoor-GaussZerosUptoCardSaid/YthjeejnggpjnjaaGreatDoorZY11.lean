/- A part: AL, AM, AN, AO, AP. -/
import Derived.Test.YthjeejnggpjnjaaGreatDoorZY10
import Derived.Lib.Strings
import Derived.Lib.IndexBytes
import Derived.Laws.BytesString
set_option linter.unusedSimpArgs false
set_option linter.unusedVariables false
set_option maxRecDepth 100000
set_option maxHeartbeats 16000000
set_option synthInstance.maxHeartbeats 2000000
set_option synthInstance.maxSize 100000
namespace Go.Proofs.YthjeejnggpjnjaaGreatDoor
open Go.RowKit
theorem nfin_lt (a d : Nat) : nfin a d ≤ 9218868437227405312 := by
 unfold nfin
 split <;> omega
theorem nfin_eq (a d q r : Nat) (cc u : Int) (hu : u = nunit a d) (hq : q = nA a d / nD a d) (hr : r = nA a d % nD a d) (hcc : cc = cmpN (r * 2) (nD a d)) :
 nfin a d = if (nround q (decide (r = 0)) cc u).1 = 0 then 0 else min ((nround q (decide (r = 0)) cc u).1 + ((nround q (decide (r = 0)) cc u).2 + 1074).toNat * 4503599627370496) 9218868437227405312 := by
 subst hu hq hr hcc; rfl
theorem cmpN_le (m n : Nat) : -1 ≤ cmpN m n ∧ cmpN m n ≤ 1 := by
 unfold cmpN
 split
 · omega
 · split <;> omega
theorem nunit_le (a d : Nat) (la : (words a).length ≤ 17179869184) : -1074 ≤ nunit a d ∧ nunit a d ≤ 549755813888 ∧ bl a ≤ 549755813888 := by
 have := bl_lenW a; unfold nunit; omega
theorem bnear (b : Bool) (va vd : Value) (a d : Nat) (w : World) (ha : Wd w va (words a)) (hd : Wd w vd (words d)) (ha0 : a ≠ 0) (hd0 : d ≠ 0) (la : (words a).length ≤ 17179869184) (ld : (words d).length ≤ 17179869184) :
 Calls Tryz.prog 125 #[.bool b, va, vd] w (NearPost b (nfin a d) w) := by
 obtain ⟨u, hu⟩ : ∃ u, u = nunit a d := ⟨_, rfl⟩; obtain ⟨q, hq⟩ : ∃ q, q = nA a d / nD a d := ⟨_, rfl⟩; obtain ⟨r, hr⟩ : ∃ r, r = nA a d % nD a d := ⟨_, rfl⟩; obtain ⟨cc, hcc⟩ : ∃ cc, cc = cmpN (r * 2) (nD a d) := ⟨_, rfl⟩; obtain ⟨F, hF⟩ : ∃ F, F = nfin a d := ⟨_, rfl⟩; have HFE := hF.trans (nfin_eq a d q r cc u hu hq hr hcc); have FB : F ≤ 9218868437227405312 := by rw [hF]; exact nfin_lt a d
 rw [← hF]; clear hF; have q1b := nq_lt ha0 hd0; have q2 := fun h => nq_ge ha0 hd0 h
 rw [← hq] at q1b q2; rw [← hu] at q2
 have Q2 : u = -1074 ∨ 4503599627370496 ≤ q := by
  by_cases h : u = -1074
  · exact .inl h
  · exact .inr (q2 h)
 have hub := nunit_le a d la; rw [← hu] at hub; have hbD : bl d ≤ 549755813888 := (nunit_le d a ld).2.2; have hmax : max ((bl a : Int) - bl d - 53) (-1074) = u := by rw [hu]; rfl
 have hcb := cmpN_le (r * 2) (nD a d); rw [← hcc] at hcb; have lr2 := len_shift r 1; rw [Nat.pow_one] at lr2; have lq : (words q).length ≤ 1099511627776 := by have := words_len_le (n := q) (k := 2) (by omega); omega
 have ex0 : (((words r).length : Int) == 0) = decide (r = 0) := by
  rw [Bool.eq_iff_iff, beq_iff_eq, decide_eq_true_iff]; have := words_len0 (n := r); omega
 have hD0 := nD_pos (a := a) hd0; have hrD : r < nD a d := by rw [hr]; exact Nat.mod_lt _ hD0
 have hrl := len_mono (Nat.le_of_lt hrD)
 have e0 : (((words a).length : Int) == 0) = false := beq_eq_false_iff_ne.2 (by
  have := words_len0 (n := a)
  omega)
 have lD : (words (nD a d)).length ≤ 34359738369 := by
  unfold nD; rw [← hu]; have := len_shift d u.toNat; omega
 clear q2; obtain ⟨aa, ca, rfl, -, -⟩ := ha.form; obtain ⟨ad, cd, rfl, -, -⟩ := hd.form; rcases Int.lt_or_le u 0 with hun | hup
 · skip
   obtain ⟨k, hk⟩ : ∃ k, k = (-u).toNat := ⟨_, rfl⟩; have hk2 : -u = (k : Int) := by omega
   have EA : nA a d = a * 2 ^ k := by unfold nA; rw [← hu, ← hk]
   have ED : nD a d = d := by unfold nD; rw [← hu, show u.toNat = 0 by omega, Nat.pow_zero, Nat.mul_one]
   rw [EA, ED] at hq hr; rw [ED] at hcc hD0; have kb : k ≤ 549755813888 := by omega
   have kb2 : k ≤ 1074 := by omega
   have lU := len_shift a k; have lU2 : (words (a * 2 ^ k)).length ≤ 34359738369 := by omega
   clear EA ED hk lU; refine bnearCoreN b aa ad (words a).length ca (words d).length cd k q r (words r) (words q) (words (a * 2 ^ k)) (words d) (bl a) (bl d) u cc (decide (r = 0)) F (words r).length w q1b hub.1 hub.2.1 hub.2.2 hbD (by omega) hk2 hmax hcb.1 hcb.2 (hid (bbitLen _ a w ha (by omega))) (hid (bbitLen _ d w hd (by omega))) (hid ?_) (hid ?_) (hid ?_) (hid ?_) (hid ?_) (hid ?_) e0 ex0 (hid HFE) (hid (isinf_any F (by omega))) (hid (isinf_any _ (neg_lt F (by omega)))) Q2
   · refine (bup _ a k w ha (by omega) (by omega)).mono ?_
     rintro e w' ⟨v, rfl, h1, -, h2⟩; exact ⟨v, rfl, h1, h2⟩
   · intro v w' h h1; refine (bdiv v _ (a * 2 ^ k) d w' h1 (hd.below h) (by omega) (by omega) hd0).mono ?_
     rintro e w'' ⟨q', r', rfl, g1, g2, -, -, g3⟩; rw [← hq] at g1; rw [← hr] at g2; obtain ⟨ar, cr, rfl, -, -⟩ := g2.form; exact ⟨q', ar, cr, rfl, g1, g2, g3⟩
   · intro w' h; exact hd.below h
   · intro v w' h; refine (btoUint v q w' h lq).mono ?_
     rintro e w'' ⟨rfl, rfl⟩; rw [Nat.mod_eq_of_lt (by omega)]
     exact ⟨rfl, rfl⟩
   · intro v w' h; refine (bup v r 1 w' h (by omega) (by omega)).mono ?_
     rintro e w'' ⟨v', rfl, h1, -, h2⟩; rw [Nat.pow_one] at h1; exact ⟨v', rfl, h1, h2⟩
   · intro v1 v2 w' h1 h2; rw [hcc]; exact bcmp v1 v2 (r * 2) (d) w' h1 h2 (by omega) (by omega)
 · skip
   obtain ⟨k, hk⟩ : ∃ k, k = (u).toNat := ⟨_, rfl⟩; have hk2 : u = (k : Int) := by omega
   have EA : nA a d = a := by unfold nA; rw [← hu, show (-u).toNat = 0 by omega, Nat.pow_zero, Nat.mul_one]
   have ED : nD a d = d * 2 ^ k := by unfold nD; rw [← hu, ← hk]
   rw [EA, ED] at hq hr; rw [ED] at hcc hD0; have kb : k ≤ 549755813888 := by omega
   have kb2 : k ≤ 549755813888 := by omega
   have lU := len_shift d k; have lU2 : (words (d * 2 ^ k)).length ≤ 34359738369 := by omega
   clear EA ED hk lU; refine bnearCoreP b aa ad (words a).length ca (words d).length cd k q r (words r) (words q) (words (d * 2 ^ k)) (words a) (bl a) (bl d) u cc (decide (r = 0)) F (words r).length w q1b hub.1 hub.2.1 hub.2.2 hbD (by omega) hk2 hmax hcb.1 hcb.2 (hid (bbitLen _ a w ha (by omega))) (hid (bbitLen _ d w hd (by omega))) (hid ?_) (hid ?_) (hid ?_) (hid ?_) (hid ?_) (hid ?_) e0 ex0 (hid HFE) (hid (isinf_any F (by omega))) (hid (isinf_any _ (neg_lt F (by omega)))) Q2
   · refine (bup _ d k w hd (by omega) (by omega)).mono ?_
     rintro e w' ⟨v, rfl, h1, -, h2⟩; exact ⟨v, rfl, h1, h2⟩
   · intro v w' h h1; refine (bdiv _ v a (d * 2 ^ k) w' (ha.below h) h1 (by omega) (by omega) (by omega)).mono ?_
     rintro e w'' ⟨q', r', rfl, g1, g2, -, -, g3⟩; rw [← hq] at g1; rw [← hr] at g2; obtain ⟨ar, cr, rfl, -, -⟩ := g2.form; exact ⟨q', ar, cr, rfl, g1, g2, g3⟩
   · intro w' h; exact trivial
   · intro v w' h; refine (btoUint v q w' h lq).mono ?_
     rintro e w'' ⟨rfl, rfl⟩; rw [Nat.mod_eq_of_lt (by omega)]
     exact ⟨rfl, rfl⟩
   · intro v w' h; refine (bup v r 1 w' h (by omega) (by omega)).mono ?_
     rintro e w'' ⟨v', rfl, h1, -, h2⟩; rw [Nat.pow_one] at h1; exact ⟨v', rfl, h1, h2⟩
   · intro v1 v2 w' h1 h2; rw [hcc]; exact bcmp v1 v2 (r * 2) (d * 2 ^ k) w' h1 h2 (by omega) (by omega)
theorem bnear0 (va vd : Value) (w : World) (ha : Wd w va (words 0)) :
 Calls Tryz.prog 125 #[.bool false, va, vd] w (NearPost false 0 w) := by
 obtain ⟨aa, ca, rfl, -, -⟩ := ha.form; rw [show (words 0).length = 0 by rw [words_0]; rfl]
 clear ha; go_enter Tryz.func125, Tryz.ntmps125; go_wp2_with fail
 go_ret2
 exact ⟨⟨_, rfl⟩, Below.refl _ _⟩
theorem brfloat (gx : Nat) (x : _root_.Rat) (w : World) (hx : Ra 88 w gx x) (lx : (words x.num.natAbs).length ≤ 17179869184) (mx : (words x.den).length ≤ 17179869184) :
 Calls Tryz.prog 76 #[.pointer (some ⟨gx, 0, none⟩)] w (NearPost (decide (x.num < 0)) (if x.num = 0 then 0 else nfin x.num.natAbs x.den) w) := by
 obtain ⟨vx, dx, bx, wx, ex⟩ := hx; have B1 := hid (fun w' (h : Below w.heap.size w w') => bbelow gx _ vx dx x.den w' (bx.below h) (ex.below h) x.den_nz)
 have NE : Hid (∀ v w', Below w.heap.size w w' → Wd w' v (words x.den) → Calls Tryz.prog 125 #[.bool (decide (x.num < 0)), vx, v] w' (NearPost (decide (x.num < 0)) (if x.num = 0 then 0 else nfin x.num.natAbs x.den) w')) := hid (by
  intro v w' h hv; by_cases h0 : x.num = 0
  · rw [if_pos h0, decide_eq_false (by omega)]
    exact bnear0 vx v w' (by have := wx.below h; rw [h0] at this; exact this)
  · rw [if_neg h0]; exact bnear _ vx v x.num.natAbs x.den w' (wx.below h) hv (by omega) x.den_nz lx mx)
 obtain ⟨ax, cx, rfl, -, -⟩ := wx.form; have BX := hid bx; have x0 := bx.cell (i := 0) rfl; have x1 := bx.cell (i := 1) rfl; haveI : Has w gx := ⟨bx.lt⟩; generalize (if x.num = 0 then 0 else nfin x.num.natAbs x.den) = F at *
 generalize decide (x.num < 0) = nx at *; unfold NearPost at NE ⊢; generalize (if nx = true then Op.negFloat .f64 F else F) = V at *
 clear bx wx ex lx mx; go_enter Tryz.func76, Tryz.ntmps76; go_wp2_with fail
 go_region_held3 (fun W => W.cell? ⟨gx, 0, none⟩ = some (.bool nx) ∧ W.cell? ⟨gx, 1, none⟩ = some (.slice ax (words x.num.natAbs).length cx)) (refine ⟨?_, ?_⟩ <;> (first | assumption | (simp [go_sem, *]; done))) (first | (go_at_call 126; (with_reducible refine (B1.out _ ?_).mono ?_); (focus (exact Below.drew (Below.refl _ _))); rintro e w1 ⟨v1, rfl, h1, q1⟩; have b1 := Below.trans (Below.drew (Below.refl w.heap.size w)) q1; have x01 := (BX.out.below b1).cell (i := 0) rfl; have x11 := (BX.out.below b1).cell (i := 1) rfl) | (go_at_call 125; (with_reducible refine (NE.out _ _ b1 h1).mono ?_); rintro e w2 ⟨⟨xb, rfl⟩, q2⟩; have b2 := Below.trans b1 (below_low q2 b1.size); have x02 := (BX.out.below b2).cell (i := 0) rfl; have x12 := (BX.out.below b2).cell (i := 1) rfl))
 go_wp2_with fail
 go_ret2
 exact ⟨⟨_, rfl⟩, b2⟩
def dval (l : List UInt8) : Nat := l.foldl (fun v c => 10 * v + (c.toNat - 48)) 0
def isdig (l : List UInt8) : Prop := ∀ c ∈ l, 48 ≤ c.toNat ∧ c.toNat ≤ 57
def figs (n : Nat) : List UInt8 := if h : n = 0 then [] else figs (n / 10) ++ [UInt8.ofNat (48 + n % 10)]
termination_by n
decreasing_by exact Nat.div_lt_self (Nat.pos_of_ne_zero h) (by decide)
theorem figs_0 : figs 0 = [] := by rw [figs]; rfl
theorem figs_pos {n : Nat} (h : n ≠ 0) : figs n = figs (n / 10) ++ [UInt8.ofNat (48 + n % 10)] := by rw [figs, dif_neg h]
theorem dval_snoc (l : List UInt8) (c : UInt8) : dval (l ++ [c]) = 10 * dval l + (c.toNat - 48) := by simp [dval]
theorem dval_foldl (l : List UInt8) (v : Nat) : l.foldl (fun v c => 10 * v + (c.toNat - 48)) v = 10 ^ l.length * v + dval l := by
 induction l generalizing v with
 | nil => simp [dval]
 | cons c l ih =>
   simp only [List.foldl_cons, List.length_cons, dval]; rw [ih, ih (10 * 0 + (c.toNat - 48))]; rw [Nat.pow_succ, Nat.mul_add, Nat.mul_add, Nat.mul_assoc]; omega
theorem dval_append (a b : List UInt8) : dval (a ++ b) = 10 ^ b.length * dval a + dval b := by
 rw [dval, List.foldl_append, dval_foldl]; rfl
theorem figs_len {n k : Nat} : n < 10 ^ k ↔ (figs n).length ≤ k := by
 induction k generalizing n with
 | zero =>
   by_cases h : n = 0
   · subst h; simp [figs_0]
   · rw [figs_pos h]; simp; omega
 | succ k ih =>
   by_cases h : n = 0
   · subst h; simp [figs_0, Nat.pow_pos]
   · rw [figs_pos h, List.length_append, List.length_singleton, Nat.add_le_add_iff_right, ← ih, Nat.pow_succ, Nat.div_lt_iff_lt_mul (by decide)]
def padf (k n : Nat) : List UInt8 := List.replicate (k - (figs n).length) 48 ++ figs n
theorem figs_split (n k : Nat) (h : n / 10 ^ k ≠ 0) : figs n = figs (n / 10 ^ k) ++ padf k (n % 10 ^ k) := by
 induction k generalizing n with
 | zero => rw [Nat.pow_zero, Nat.div_one, Nat.mod_one]; simp [padf, figs_0]
 | succ k ih =>
   have hn : n ≠ 0 := fun e => h (by rw [e]; exact Nat.zero_div _)
   have e1 : n / 10 / 10 ^ k = n / 10 ^ (k + 1) := by rw [Nat.div_div_eq_div_mul, Nat.pow_succ, Nat.mul_comm]
   have h2 : n / 10 / 10 ^ k ≠ 0 := by rw [e1]; exact h
   have i := ih (n / 10) h2; rw [figs_pos hn, i, e1, List.append_assoc]
   congr 1
   have e2 : n % 10 ^ (k + 1) = 10 * (n / 10 % 10 ^ k) + n % 10 := by
    rw [Nat.pow_succ, Nat.mul_comm, Nat.mod_mul, Nat.add_comm]
   have e3 : n % 10 ^ (k + 1) / 10 = n / 10 % 10 ^ k := by omega
   have e4 : n % 10 ^ (k + 1) % 10 = n % 10 := by omega
   have hlt : n / 10 % 10 ^ k < 10 ^ k := Nat.mod_lt _ (Nat.pow_pos (by decide))
   have hl := figs_len.1 hlt; generalize n / 10 % 10 ^ k = q at *; generalize n % 10 ^ (k + 1) = p at *; unfold padf; by_cases hp : p = 0
   · subst hp; obtain rfl : q = 0 := by omega
     have : n % 10 = 0 := by omega
     rw [this, figs_0, List.append_nil, List.append_nil]; simp only [List.length_nil, Nat.sub_zero]; rw [show k + 1 = k + 1 from rfl, List.replicate_succ']
     rfl
   · rw [figs_pos hp, e3, e4, List.length_append, List.length_singleton, Nat.add_sub_add_right, List.append_assoc]
theorem padf_len (k n : Nat) (h : n < 10 ^ k) : (padf k n).length = k := by
 have := figs_len.1 h; unfold padf; rw [List.length_append, List.length_replicate]; omega
theorem padf_split (L k n : Nat) (h : n / 10 ^ k ≠ 0) : padf L n = padf (L - k) (n / 10 ^ k) ++ padf k (n % 10 ^ k) := by
 have e := figs_split n k h; have hl : (padf k (n % 10 ^ k)).length = k := padf_len k _ (Nat.mod_lt _ (Nat.pow_pos (by decide)))
 rw [padf, e, List.length_append, hl, padf, ← List.append_assoc]
 congr 3
 omega
theorem figs_dval {l : List UInt8} (h : isdig l) (h0 : ∀ c, l.head? = some c → c ≠ 48) : figs (dval l) = l := by
 induction hn : l.length generalizing l with
 | zero =>
   rw [List.length_eq_zero_iff.1 hn]; exact figs_0
 | succ n ih =>
   have hne : l ≠ [] := fun e => by rw [e] at hn; simp at hn
   obtain ⟨m, c, rfl⟩ : ∃ m c, l = m ++ [c] := ⟨l.dropLast, l.getLast hne, (List.dropLast_concat_getLast hne).symm⟩; have hm : isdig m := fun c hc => h c (List.mem_append_left _ hc)
   have hm0 : ∀ c, m.head? = some c → c ≠ 48 := fun d hd => h0 d (by
    cases m with
    | nil => cases hd
    | cons a m => exact hd)
   have i := ih hm hm0 (by simp at hn; omega)
   have hc := h c (by simp)
   rw [dval_snoc]
   have hpos : 10 * dval m + (c.toNat - 48) ≠ 0 := by
    cases m with
    | nil =>
      have h2 := h0 c rfl; have h3 : c.toNat ≠ 48 := fun e => h2 (by rw [← UInt8.toNat_inj]; exact e)
      omega
    | cons a m =>
      have h3 : dval (a :: m) ≠ 0 := by
       intro e; rw [e, figs_0] at i; cases i
      omega
   rw [figs_pos hpos, show (10 * dval m + (c.toNat - 48)) / 10 = dval m by omega, show (10 * dval m + (c.toNat - 48)) % 10 = c.toNat - 48 by omega, i]
   congr 2
   rw [← UInt8.toNat_inj, UInt8.toNat_ofNat']; omega
theorem dval_lt {l : List UInt8} (h : isdig l) : dval l < 10 ^ l.length := by
 induction hn : l.length generalizing l with
 | zero => rw [List.length_eq_zero_iff.1 hn]; decide
 | succ n ih =>
   have hne : l ≠ [] := fun e => by rw [e] at hn; simp at hn
   obtain ⟨m, c, rfl⟩ : ∃ m c, l = m ++ [c] := ⟨l.dropLast, l.getLast hne, (List.dropLast_concat_getLast hne).symm⟩; have i := ih (l := m) (fun c hc => h c (List.mem_append_left _ hc)) (by simp at hn; omega)
   have hc := h c (by simp)
   rw [dval_snoc, Nat.pow_succ]; omega
theorem dval_take_le (l : List UInt8) (k : Nat) : dval (l.take k) ≤ dval l := by
 conv => rhs; rw [← List.take_append_drop k l, dval_append]
 have : 1 ≤ 10 ^ (l.drop k).length := Nat.pow_pos (by decide)
 have := Nat.mul_le_mul_right (dval (l.take k)) this; omega
theorem dec_len {n k : Nat} (h : n < 10 ^ k) : (words n).length ≤ k := by
 refine words_len_le (Nat.lt_of_lt_of_le h ?_)
 exact Nat.pow_le_pow_left (by decide) k
theorem take_snoc_d (l : List UInt8) (k : Nat) (h : k < l.length) : dval (l.take (k + 1)) = 10 * dval (l.take k) + (l[k].toNat - 48) := by
 rw [List.take_succ_eq_append_getElem h, dval_snoc]
theorem byte_at (s : ByteArray) (p l : List UInt8) (h : s.data.toList = p ++ l) (k : Nat) (hk : k < l.length) (hj : p.length + k < s.size) : s[p.length + k] = l[k] := by
 show s.data[p.length + k]'hj = l[k]
 rw [← Array.getElem_toList]; simp only [h]; rw [List.getElem_append_right (by omega)]
 congr 1
 omega
theorem bytes_len (s : ByteArray) (L : List UInt8) (h : s.data.toList = L) : s.size = L.length := by
 rw [← h]; simp
theorem eworth (n d : Nat) (h : n = d + 48) (hd : d ≤ 9) (w : World) : Calls Tryz.prog 207 #[.int .u8 n] w fun e w' => e = .returned (.int .u32 d) ∧ w' = w := by
 have h1 : (48 : Int) ≤ (n : Int) := by omega
 have h2 : (n : Int) ≤ 57 := by omega
 have h3 : (n : Int) - 48 = (d : Int) := by omega
 have hd2 : (d : Int) ≤ 9 := by omega
 clear h hd; go_enter Tryz.func207, Tryz.ntmps207; go_wp2_with fail
 go_ret
 exact ⟨rfl, rfl⟩
theorem bworth (n d : Nat) (h : n = d + 48) (hd : d ≤ 9) (w : World) : Calls Tryz.prog 243 #[.int .u8 n] w fun e w' => e = .returned (.int .u32 d) ∧ w' = w := by
 have h1 : (48 : Int) ≤ (n : Int) := by omega
 have h2 : (n : Int) ≤ 57 := by omega
 have h3 : (n : Int) - 48 = (d : Int) := by omega
 have hd2 : (d : Int) ≤ 9 := by omega
 clear h hd; go_enter Tryz.func243, Tryz.ntmps243; go_wp2_with fail
 go_ret
 exact ⟨rfl, rfl⟩
theorem words_small {n : Nat} (h : n < 4294967296) (h0 : n ≠ 0) : words n = [n] := by
 rw [words_pos h0, show n / 4294967296 = 0 by omega, words_0, show n % 4294967296 = n by omega]
theorem pow10_pos (k : Nat) : 1 ≤ 10 ^ k := Nat.pow_pos (by decide)
theorem pow10_len (k : Nat) : (words (10 ^ k)).length ≤ k + 1 := dec_len (Nat.pow_lt_pow_right (by decide) (by omega))
theorem half_step (k j : Nat) : k / 2 ^ j = 2 * (k / 2 ^ (j + 1)) + k / 2 ^ j % 2 := by
 have : k / 2 ^ (j + 1) = k / 2 ^ j / 2 := by rw [Nat.pow_succ, Nat.div_div_eq_div_mul]
 omega
theorem i64_1 (a : Nat) (h : a < 9223372036854775808) : bits BinOp.and IntKind.i64 (a : Int) 1 = ((a % 2 : Nat) : Int) := by
 show IntKind.i64.wrap ((BitVec.ofInt 64 (a : Int) &&& BitVec.ofInt 64 ((1 : Nat) : Int)).toNat : Int) = _
 rw [BitVec.toNat_and, ofInt_u64 a (by omega), ofInt_u64 1 (by decide), show (1 : Nat) = 2 ^ 1 - 1 by decide, Nat.and_two_pow_sub_one_eq_mod, IntKind.wrap_i64]
 omega
theorem more_one (n : Nat) (h : 1 < n) : 1 < (words n).length ∨ ((words n).length = 1 ∧ words n = [n] ∧ n < 4294967296) := by
 by_cases h2 : n < 4294967296
 · have := words_small h2 (by omega)
   exact .inr ⟨by rw [this]; rfl, this, h2⟩
 · refine .inl ?_
   rw [words_pos (by omega), List.length_cons]
   have := words_len0 (n := n / 4294967296); omega
theorem bpower (k : Nat) (hk : k ≤ 1073741824) (w : World) : Calls Tryz.prog 242 #[.int .i64 10, .int .i64 k] w fun e w' => ∃ v, e = .returned v ∧ Wd w' v (words (10 ^ k)) ∧ Below w.heap.size w w' := by
 have q1 : Wd (w.alloc (.cells #[.int .u32 1] 190)) (.slice (some ⟨w.heap.size, 0, none⟩) 1 1) (words 1) := by
  have q : Ro (w.alloc (.cells #[.int .u32 1] 190)) w.heap.size [1] := by unfold Ro; simp only [block_at]; rfl
  rw [words_one]; exact q.wd (cap := 1) (Nat.le_refl _)
 have hb0 : Below w.heap.size w (w.alloc (.cells #[.int .u32 1] 190)) := (Below.refl _ _).alloc (Nat.le_refl _) _; have HQ := hid q1; clear q1; go_enter Tryz.func242, Tryz.ntmps242; go_wp2_with fail
 generalize (w.alloc (.cells #[.int .u32 1] 190)) = w0 at *; go_loopw [5, 6] (fun s5 s6 wr => ∃ j : Nat, j ≤ 63 ∧ s6 = .int .i64 ((j : Int) - 1) ∧ Hid (Below w.heap.size w wr ∧ Wd wr s5 (words (10 ^ (k / 2 ^ j))))) (fun _ s6 _ => (intOf s6 + 1).toNat)
 case atStart => exact ⟨63, by omega, rfl, hid ⟨hb0, by rw [Nat.div_eq_of_lt (by omega)]; exact HQ.out⟩⟩
 case round =>
  obtain ⟨j, hj, rfl, hR⟩ := hrel; rcases j with _ | j
  · obtain ⟨r1, r2⟩ := hR.out; rw [Nat.pow_zero, Nat.div_one] at r2; clear hR; go_wp2_with fail
    go_ret
    exact ⟨_, rfl, r2, r1⟩
  · obtain ⟨x, hx⟩ : ∃ x, x = k / 2 ^ (j + 1) := ⟨_, rfl⟩; obtain ⟨y, hy⟩ : ∃ y, y = k / 2 ^ j := ⟨_, rfl⟩; have hxy : y = 2 * x + y % 2 := by rw [hy, hx]; exact half_step k j
    have hyk : y ≤ k := by rw [hy]; exact Nat.div_le_self _ _
    rw [← hx] at hR; obtain ⟨r1, r2⟩ := id hR.out; obtain ⟨aa, ca, rfl, hca, hce⟩ := r2.form; have HX := hid hx; have HY := hid hy; have HXY := hid hxy; rw [show ((j + 1 : Nat) : Int) - 1 = (j : Int) by omega] at *
    have bb := i64_1 y (by omega)
    have e2 : ((y : Nat) : Int) = (k : Int) / 2 ^ j := by rw [hy, Int.natCast_ediv, Int.natCast_pow]; rfl
    rw [e2] at bb; clear e2; have l10 : (words 10).length = 1 := by rw [words_small (n := 10) (by decide) (by decide)]; rfl
    have l1 := pow10_len x; have l2 := pow10_len (x + x); have MU := hid (bmulW _ _ (10 ^ x) (10 ^ x) wr r2 r2 (by omega))
    rw [← Nat.pow_add] at MU; have M2 := hid (fun v u w' (q1 : Wd w' v (words (10 ^ (x + x)))) (q2 : Wd w' u (words 10)) => bmulW v u (10 ^ (x + x)) 10 w' q1 q2 (by omega))
    have TEN : ∀ w1 : World, Wd (w1.alloc (.cells #[.int .u32 10] 190)) (.slice (some ⟨w1.heap.size, 0, none⟩) 1 1) (words 10) := fun w1 => by
     have q : Ro (w1.alloc (.cells #[.int .u32 10] 190)) w1.heap.size [10] := by unfold Ro; simp only [block_at]; rfl
     rw [words_small (by decide) (by decide)]
     exact q.wd (cap := 1) (Nat.le_refl _)
    have R2 := hid r2; clear hx hy hxy l1 l2 l10 r2 hR; rcases Nat.eq_zero_or_pos x with h0 | h0
    · have R3 : Hid (Wd wr (.slice aa (words (10 ^ x)).length ca) (words (10 ^ (x + x)))) := hid (by
       rw [show x + x = x by omega]; exact R2.out)
      have e1 : words (10 ^ x) = [1] := by rw [h0, Nat.pow_zero, words_one]
      obtain ⟨g, off, rfl, hg, hcell⟩ := hce (by rw [e1]; decide)
      have c0 := hcell 0 1 (by rw [e1]; rfl)
      rw [Nat.add_zero] at c0; rw [e1] at R3 hca ⊢; haveI : Has wr g := ⟨hg⟩; have hca2 : 1 ≤ ca := hca; clear hce hcell hg e1 R2 MU hca h0; simp only [List.length_cons, List.length_nil, Nat.zero_add] at R3 ⊢; rcases Nat.mod_two_eq_zero_or_one y with hq_ | hq_
      · have hq : y % 2 = 0 := hq_; have HQ2 := hid hq; rw [hq] at bb; clear hq hq_; go_wp2_with fail
        have hq := HQ2.out; go_roundw
        case rel => exact ⟨j, by omega, rfl, hid ⟨r1, by rw [← HY.out, HXY.out, hq, show 2 * x + 0 = x + x by omega]; exact R3.out⟩⟩
        case measure => simp [intOf]
      · have hq : y % 2 = 1 := hq_; have HQ2 := hid hq; rw [hq] at bb; clear hq hq_; go_wp2_with (first | (go_at_call 142; (with_reducible refine (M2.out _ _ _ ?_ ?_).mono ?_); (focus (exact (R3.out).below ((Below.refl _ _).alloc (Nat.le_refl _) _))); (focus (exact TEN wr)); rintro e w2 ⟨v2, rfl, h2, -, hb2⟩))
        have hq := HQ2.out; go_roundw
        case rel => exact ⟨j, by omega, rfl, hid ⟨Below.trans ((r1).alloc (r1).size _) (below_low hb2 ((r1).alloc (r1).size _).size), by rw [← HY.out, HXY.out, hq, show 2 * x + 1 = x + x + 1 by omega, Nat.pow_succ]; exact h2⟩⟩
        case measure => simp [intOf]
    · have h1 : 1 < 10 ^ x := Nat.lt_of_lt_of_le (by decide : 1 < 10 ^ 1) (Nat.pow_le_pow_right (by decide) h0)
      rcases more_one _ h1 with h2 | ⟨h2, h3, h4⟩
      focus
       have h2I : (1 : Int) < ((words (10 ^ x)).length : Int) := by omega
       clear hce h1 h0
      rotate_left
      focus
       obtain ⟨g, off, rfl, hg, hcell⟩ := hce (by omega)
       obtain ⟨z, hz⟩ : ∃ z, z = 10 ^ x := ⟨_, rfl⟩; have c0 := hcell 0 z (by rw [h3, hz]; rfl)
       rw [Nat.add_zero] at c0; rw [← hz] at h1; have hzI : (1 : Int) < (z : Int) := by omega
       rw [h2] at MU ⊢; haveI : Has wr g := ⟨hg⟩; have hca2 : 1 ≤ ca := by omega
       clear hce hcell hg hz h1 h0 h3 h4 hca h2
      rotate_left
      all_goals
       rcases Nat.mod_two_eq_zero_or_one y with hq_ | hq_
       · have hq : y % 2 = 0 := hq_; have HQ2 := hid hq; rw [hq] at bb; clear hq hq_; go_wp2_with (first | (go_at_call 142; (with_reducible refine MU.out.mono ?_); rintro e w1 ⟨v1, rfl, h1, -, hb1⟩; have hbe := Below.trans r1 (below_low hb1 r1.size)))
         have hq := HQ2.out; go_roundw
         case rel => exact ⟨j, by omega, rfl, hid ⟨hbe, by rw [← HY.out, HXY.out, hq, show 2 * x + 0 = x + x by omega]; exact h1⟩⟩
         case measure => simp [intOf]
       · have hq : y % 2 = 1 := hq_; have HQ2 := hid hq; rw [hq] at bb; clear hq hq_; go_wp2_with (first | (go_at_call 142; (with_reducible refine MU.out.mono ?_); rintro e w1 ⟨v1, rfl, h1, -, hb1⟩; have hbe := Below.trans r1 (below_low hb1 r1.size)) | (go_at_call 142; (with_reducible refine (M2.out _ _ _ ?_ ?_).mono ?_); (focus (exact (h1).below ((Below.refl _ _).alloc (Nat.le_refl _) _))); (focus (exact TEN w1)); rintro e w2 ⟨v2, rfl, h2, -, hb2⟩))
         have hq := HQ2.out; go_roundw
         case rel => exact ⟨j, by omega, rfl, hid ⟨Below.trans ((hbe).alloc (hbe).size _) (below_low hb2 ((hbe).alloc (hbe).size _).size), by rw [← HY.out, HXY.out, hq, show 2 * x + 1 = x + x + 1 by omega, Nat.pow_succ]; exact h2⟩⟩
         case measure => simp [intOf]
def ReadC (l : List UInt8) : Prop := ∀ (s : ByteArray) (w : World), s.data.toList = l → Calls Tryz.prog 230 #[.string s, .int .i64 10] w fun e w' => ∃ v, e = .returned (.tuple #[v, .bool true]) ∧ Wd w' v (words (dval l)) ∧ Below w.heap.size w w'
def RdO (w : World) (l : List UInt8) (sz : Nat) (v : Value) (j m t c : Nat) (wr : World) : Prop :=
 Below w.heap.size w wr ∧ Ow wr w.heap.size v (words m) ∧ dval (l.take j) = m * t + c ∧ (j = sz → t = 1 ∧ c = 0) ∧ m ≤ dval l
theorem bread_short (l : List UInt8) (hl : isdig l) (hne : l ≠ []) (hle : l.length ≤ 300) : ReadC l := by
 intro s w hs; have hsz : s.size = l.length := bytes_len s _ hs; have hpos : 0 < l.length := List.length_pos_iff.2 hne; have hsz2 : s.size ≤ 300 := by omega
 have HL := hid hl; have HS := hid hs; have HD : Hid (dval l < 10 ^ l.length) := hid (dval_lt hl); have HSZ := hid hsz; clear hl hs hne hsz; go_enter Tryz.func230, Tryz.ntmps230; go_wp2_with fail
 go_loopw [11, 12, 13, 14] (fun s10 s11 s12 s13 wr => ∃ j m t c : Nat, s11 = .int .u32 t ∧ s12 = .int .u32 c ∧ s13 = .int .i64 j ∧ j ≤ s.size ∧ 1 ≤ t ∧ t ≤ 429496729 ∧ c < t ∧ Hid (RdO w l s.size s10 j m t c wr)) (fun _ _ _ s13 _ => s.size - (intOf s13).toNat)
 case atStart => exact ⟨0, 0, 1, 0, rfl, rfl, rfl, by omega, by omega, by omega, by omega, hid ⟨Below.refl _ _, by rw [words_0]; exact Ow.nil _ _, by simp [dval], by have := HSZ.out; omega, by omega⟩⟩
 case round =>
  obtain ⟨j, m, t, c, rfl, rfl, rfl, hj2, ht1, ht2, hct, hR⟩ := hrel; by_cases hlt : j < s.size
  · have hkl : j < l.length := by have := HSZ.out; omega
    obtain ⟨n, hn⟩ : ∃ n, n = (s[j]'hlt).toNat := ⟨_, rfl⟩
    have hnl : n = l[j].toNat := by
     have hb := byte_at s [] l HS.out j hkl (by show 0 + j < _; omega)
     rw [hn]
     congr 1
     rw [← hb]
     congr 1
     simp
    have hn2 := HL.out _ (List.getElem_mem hkl); rw [← hnl] at hn2; obtain ⟨dd, hdd⟩ : ∃ dd, n = dd + 48 := ⟨n - 48, by omega⟩
    have hd9 : dd ≤ 9 := by omega
    have hcn := hn.symm
    have ST : Hid (dval (l.take (j + 1)) = (m * t + c) * 10 + dd) := hid (by
     rw [take_snoc_d l j hkl, ← hnl, hR.out.2.2.1, hdd]
     omega)
    have hm2 : (words m).length ≤ 549755813888 := by
     have h1 := len_mono hR.out.2.2.2.2; have h2 := dec_len HD.out; omega
    have MS := bmulSmall w.heap.size _ m (t * 10) (c * 10 + dd) wr hR.out.2.1 hm2 (by omega) (by omega) (by omega) hR.out.1.size
    rw [show ((t * 10 : Nat) : Int) = (t : Int) * 10 by omega, show ((c * 10 + dd : Nat) : Int) = (c : Int) * 10 + dd by omega] at MS
    have NX : Hid (∀ v wn, Below w.heap.size wr wn → Ow wn w.heap.size v (words (m * (t * 10) + (c * 10 + dd))) → RdO w l s.size v (j + 1) (m * (t * 10) + (c * 10 + dd)) 1 0 wn) := hid (by
     intro v wn h1 h2; have e : (m * t + c) * 10 + dd = m * (t * 10) + (c * 10 + dd) := by rw [Nat.add_mul, Nat.mul_assoc]; omega
     have hd := ST.out; rw [e] at hd; refine ⟨hR.out.1.trans h1, h2, by rw [hd]; omega, fun _ => ⟨rfl, rfl⟩, ?_⟩
     rw [← hd]; exact dval_take_le _ _)
    have NS : Hid (∀ v, j + 1 ≠ s.size → RdO w l s.size v j m t c wr → RdO w l s.size v (j + 1) m (t * 10) (c * 10 + dd) wr) := hid (by
     intro v h1 h2; have e : (m * t + c) * 10 + dd = m * (t * 10) + (c * 10 + dd) := by rw [Nat.add_mul, Nat.mul_assoc]; omega
     have hd := ST.out; rw [e] at hd; exact ⟨h2.1, h2.2.1, hd, fun h => absurd h h1, h2.2.2.2.2⟩)
    have hltI : (j : Int) < (s.size : Int) := by omega
    have HDD := hid hdd; clear hn hnl hn2 hm2 ST hdd; by_cases hbig : 429496729 < t * 10
    · have hbI : (429496729 : Int) < (t : Int) * 10 := by omega
      go_wp2_with (first | (go_at_call 243; (with_reducible refine (bworth n dd HDD.out hd9 _).mono ?_); rintro e w' ⟨rfl, hw⟩; obtain rfl := hw.symm) | (go_at_call 244; (with_reducible refine MS.mono ?_); rintro e wn ⟨vn, rfl, hvn, hbn⟩))
      go_roundw
      case rel => exact ⟨j + 1, _, 1, 0, rfl, rfl, by go_num, by omega, by omega, by omega, by omega, hid (NX.out _ _ hbn hvn)⟩
      case measure => simp [intOf]; omega
    · have hbI : decide ((429496729 : Int) < (t : Int) * 10) = false := decide_eq_false (by omega)
      have hb2 : t * 10 ≤ 429496729 := by omega
      by_cases hlast : j + 1 = s.size
      · have hlI : ((j : Int) == (s.size : Int) - 1) = true := beq_iff_eq.2 (by omega)
        have hl2 : j + 1 ≤ s.size := by omega
        clear NS hb2 hbig hlast; go_wp2_with (first | (go_at_call 243; (with_reducible refine (bworth n dd HDD.out hd9 _).mono ?_); rintro e w' ⟨rfl, hw⟩; obtain rfl := hw.symm) | (go_at_call 244; (with_reducible refine MS.mono ?_); rintro e wn ⟨vn, rfl, hvn, hbn⟩))
        go_roundw
        case rel => exact ⟨j + 1, _, 1, 0, rfl, rfl, by go_num, by omega, by omega, by omega, by omega, hid (NX.out _ _ hbn hvn)⟩
        case measure => simp [intOf]; omega
      · have hlI : ((j : Int) == (s.size : Int) - 1) = false := beq_eq_false_iff_ne.2 (by omega)
        have hlI2 : (j : Int) + 1 ≠ (s.size : Int) := by omega
        have RR := hid (NS.out _ hlast hR.out); have HB2 := hid hb2; clear NX MS hbig hb2 hlast; go_wp2_with (go_at_call 243; (with_reducible refine (bworth n dd HDD.out hd9 _).mono ?_); rintro e w' ⟨rfl, hw⟩; obtain rfl := hw.symm)
        have hb3 := HB2.out; go_roundw
        case rel => exact ⟨j + 1, m, t * 10, c * 10 + dd, by go_num, by go_num, by go_num, by omega, by omega, hb3, by omega, RR⟩
        case measure => simp [intOf]; omega
  · obtain rfl : j = s.size := by omega
    obtain ⟨r1, r2, r3, r4, r5⟩ := hR.out; obtain ⟨rfl, rfl⟩ := r4 rfl
    have hm : m = dval l := by
     rw [HSZ.out, List.take_length] at r3; omega
    rw [hm] at r2; have R2 := r2.wd.1; clear r2 r3 r4 r5 hm hR; go_wp2_with fail
    go_ret2
    exact ⟨_, rfl, R2, r1⟩
theorem bread_long (l : List UInt8) (hl : isdig l) (h300 : 300 < l.length) (hle : l.length ≤ 1073741824) (I1 : ReadC (l.take (l.length - l.length / 2))) (I2 : ReadC (l.drop (l.length - l.length / 2))) : ReadC l := by
 intro s w hs; have hsz : s.size = l.length := bytes_len s _ hs; obtain ⟨hh, hhe⟩ : ∃ hh, hh = l.length / 2 := ⟨_, rfl⟩; obtain ⟨kk, hkk⟩ : ∃ kk, kk = l.length - hh := ⟨_, rfl⟩; rw [← hhe, ← hkk] at I1 I2; have e1 : (s.size : Int) / 2 = (hh : Int) := by omega
 have e2 : (s.size : Int) - (hh : Int) = (kk : Int) := by omega
 have hhB : hh ≤ 1073741824 := by omega
 have hks : kk ≤ s.size := by omega
 have XT : Hid ((s.extract 0 kk).data.toList = l.take kk) := hid (by
  rw [Lib.extract_data, hs, Nat.sub_zero, List.drop_zero])
 have XD : Hid ((s.extract kk s.size).data.toList = l.drop kk) := hid (by
  rw [Lib.extract_to_end, hs])
 have dsp : dval l = dval (l.take kk) * 10 ^ hh + dval (l.drop kk) := by
  conv => lhs; rw [← List.take_append_drop kk l, dval_append, List.length_drop]
  rw [show l.length - kk = hh by omega, Nat.mul_comm]
 have lt1 := dec_len (dval_lt (l := l.take kk) (fun c hc => hl c (List.mem_of_mem_take hc)))
 have lt2 := dec_len (dval_lt (l := l.drop kk) (fun c hc => hl c (List.mem_of_mem_drop hc)))
 rw [List.length_take] at lt1; rw [List.length_drop] at lt2; have lp := pow10_len hh; have lm := mul_len (dval (l.take kk)) (10 ^ hh); have MU := hid (fun v u w' (q1 : Wd w' v (words (dval (l.take kk)))) (q2 : Wd w' u (words (10 ^ hh))) => bmulW v u _ _ w' q1 q2 (by omega))
 have AD := hid (fun v u w' (q1 : Wd w' v (words (dval (l.take kk) * 10 ^ hh))) (q2 : Wd w' u (words (dval (l.drop kk)))) => badd v u _ _ w' q1 q2 (by omega) (by omega))
 rw [← dsp] at AD; have R1 := hid (fun s w (h : s.data.toList = l.take kk) => I1 s w h)
 have R2 := hid (fun s w (h : s.data.toList = l.drop kk) => I2 s w h)
 have h300I : (300 : Int) < (s.size : Int) := by omega
 clear hs hsz hhe hkk I1 I2 dsp lt1 lt2 lp lm hl h300; go_enter Tryz.func230, Tryz.ntmps230; go_wp2_with (first | (go_at_call 230; (with_reducible refine (R1.out _ _ ?_).mono ?_); (focus (exact XT.out)); rintro e w1 ⟨v1, rfl, h1, hb1⟩) | (go_at_call 230; (with_reducible refine (R2.out _ _ ?_).mono ?_); (focus (exact XD.out)); rintro e w2 ⟨v2, rfl, h2, hw2⟩; have hb2 := Below.trans hb1 (below_low hw2 hb1.size); have h12 := h1.below hw2) | (go_at_call 242; (with_reducible refine (bpower hh hhB _).mono ?_); rintro e w3 ⟨v3, rfl, h3, hw3⟩; have hb3 := Below.trans hb2 (below_low hw3 hb2.size); have h13 := h12.below hw3; have h23 := h2.below hw3) | (go_at_call 142; (with_reducible refine (MU.out _ _ _ h13 h3).mono ?_); rintro e w4 ⟨v4, rfl, h4, -, hw4⟩; have hb4 := Below.trans hb3 (below_low hw4 hb3.size); have h24 := h23.below hw4) | (go_at_call 197; (with_reducible refine (AD.out _ _ _ h4 h24).mono ?_); rintro e w5 ⟨v5, rfl, h5, -, hw5⟩; have hb5 := Below.trans hb4 (below_low hw5 hb4.size)))
 go_ret2
 exact ⟨_, rfl, h5, hb5⟩
theorem bread (l : List UInt8) (hl : isdig l) (hne : l ≠ []) (hle : l.length ≤ 1073741824) : ReadC l := by
 induction hn : l.length using Nat.strongRecOn generalizing l with
 | _ n ih =>
   by_cases h : l.length ≤ 300
   · exact bread_short l hl hne h
   · refine bread_long l hl (by omega) hle (ih _ ?_ _ (fun c hc => hl c (List.mem_of_mem_take hc)) ?_ ?_ rfl) (ih _ ?_ _ (fun c hc => hl c (List.mem_of_mem_drop hc)) ?_ ?_ rfl)
     · rw [List.length_take]; omega
     · intro e; have := congrArg List.length e; rw [List.length_take] at this; simp at this; omega
     · rw [List.length_take]; omega
     · rw [List.length_drop]; omega
     · intro e; have := congrArg List.length e; rw [List.length_drop] at this; simp at this; omega
     · rw [List.length_drop]; omega
theorem bsetstrN (gz : Nat) (z0 z1 : Value) (s : ByteArray) (l : List UInt8) (w : World) (hz : Bk w gz [z0, z1] 86) (hs : s.data.toList = ([45] : List UInt8) ++ l) (hl : isdig l) (hne : l ≠ []) (hle : l.length ≤ 1073741824) :
 Calls Tryz.prog 192 #[.pointer (some ⟨gz, 0, none⟩), .string s, .int .i64 10] w fun e w' => e = .returned (.tuple #[.pointer (some ⟨gz, 0, none⟩), .bool true]) ∧ In 86 w' gz (sg true (dval l)) ∧ Keeps w.heap.size [gz] w w' := by
 have hsz : s.size = 1 + l.length := by rw [bytes_len s _ hs]; simp ; omega
 have hpos : 0 < l.length := List.length_pos_iff.2 hne; have h0s : 0 < s.size := by omega
 have hc0 : (s[0]'h0s).toNat = 45 := by
  have : s[0]'h0s = 45 := by
   show s.data[0]'h0s = 45
   rw [← Array.getElem_toList]; simp only [hs]; rfl
  rw [this]; rfl
 have e1 : ((1 : Int) == (s.size : Int)) = false := beq_eq_false_iff_ne.2 (by omega)
 have HS := hid hs; have RD := hid (fun s w (h : s.data.toList = l) => bread l hl hne hle s w h)
 have XD : Hid ((s.extract 1 s.size).data.toList = l) := hid (by
  rw [Lib.extract_to_end, hs]; rfl)
 have SI := hid (fun v w' (h : Below w.heap.size w w') (q : Wd w' v (words (dval l))) => bisetI gz z0 z1 true v (dval l) w' (hz.below h) q (by have := dec_len (dval_lt hl); omega) (sg true (dval l)) rfl)
 have hsz2 : 1 ≤ s.size := by omega
 clear hl hs hne hz hsz; go_enter Tryz.func192, Tryz.ntmps192; go_wp2_with (first | (go_at_call 230; (with_reducible refine (RD.out _ _ ?_).mono ?_); (focus (first | exact XD.out | exact HS.out)); rintro e w1 ⟨v1, rfl, h1, hb1⟩) | (go_at_call 171; (with_reducible refine (SI.out _ _ hb1 h1).mono ?_); rintro e w3 ⟨rfl, hI3, hk3⟩))
 go_ret2
 exact ⟨rfl, hI3, (Keeps.of_below hb1).trans (hk3.mono hb1.size (fun _ _ h => h))⟩
theorem bsetstrP (gz : Nat) (z0 z1 : Value) (s : ByteArray) (l : List UInt8) (w : World) (hz : Bk w gz [z0, z1] 86) (hs : s.data.toList = ([] : List UInt8) ++ l) (hl : isdig l) (hne : l ≠ []) (hle : l.length ≤ 1073741824) :
 Calls Tryz.prog 192 #[.pointer (some ⟨gz, 0, none⟩), .string s, .int .i64 10] w fun e w' => e = .returned (.tuple #[.pointer (some ⟨gz, 0, none⟩), .bool true]) ∧ In 86 w' gz (sg false (dval l)) ∧ Keeps w.heap.size [gz] w w' := by
 have hsz : s.size = 0 + l.length := by rw [bytes_len s _ hs]; simp
 have hpos : 0 < l.length := List.length_pos_iff.2 hne; have h0s : 0 < s.size := by omega
 obtain ⟨n0, hn0⟩ : ∃ n0, n0 = (s[0]'h0s).toNat := ⟨_, rfl⟩; have hc0 := hn0.symm
 have hn1 : 48 ≤ n0 ∧ n0 ≤ 57 := by
  have hb := byte_at s [] l hs 0 hpos (by simp; omega)
  have hb2 : s[0]'h0s = l[0] := hb; rw [hn0, hb2]; exact hl _ (List.getElem_mem _)
 have e2 : ((n0 : Int) == 45) = false := beq_eq_false_iff_ne.2 (by omega)
 have e3 : ((n0 : Int) == 43) = false := beq_eq_false_iff_ne.2 (by omega)
 have e1 : ((0 : Int) == (s.size : Int)) = false := beq_eq_false_iff_ne.2 (by omega)
 clear hn0 hn1; have HS := hid hs; have RD := hid (fun s w (h : s.data.toList = l) => bread l hl hne hle s w h)
 have XD : Hid ((s.extract 0 s.size).data.toList = l) := hid (by
  rw [Lib.extract_to_end, hs]; rfl)
 have SI := hid (fun v w' (h : Below w.heap.size w w') (q : Wd w' v (words (dval l))) => bisetI gz z0 z1 false v (dval l) w' (hz.below h) q (by have := dec_len (dval_lt hl); omega) (sg false (dval l)) rfl)
 have hsz2 : 0 ≤ s.size := by omega
 clear hl hs hne hz hsz; go_enter Tryz.func192, Tryz.ntmps192; go_wp2_with (first | (go_at_call 230; (with_reducible refine (RD.out _ _ ?_).mono ?_); (focus (first | exact XD.out | exact HS.out)); rintro e w1 ⟨v1, rfl, h1, hb1⟩) | (go_at_call 171; (with_reducible refine (SI.out _ _ hb1 h1).mono ?_); rintro e w3 ⟨rfl, hI3, hk3⟩))
 go_ret2
 exact ⟨rfl, hI3, (Keeps.of_below hb1).trans (hk3.mono hb1.size (fun _ _ h => h))⟩
theorem padf_succ (m x : Nat) : padf (m + 1) x = padf m (x / 10) ++ [UInt8.ofNat (48 + x % 10)] := by
 unfold padf; by_cases h : x = 0
 · subst h; rw [Nat.zero_div, figs_0]; simp only [List.length_nil, Nat.sub_zero, List.append_nil]; rw [List.replicate_succ']; rfl
 · rw [figs_pos h, List.length_append, List.length_singleton, Nat.add_sub_add_right, List.append_assoc]
theorem padf_zero (x : Nat) : padf 0 x = figs x := by unfold padf; simp
theorem figs_words (n : Nat) : (figs n).length ≤ 10 * (words n).length := by
 refine figs_len.1 (Nat.lt_of_lt_of_le (words_lt n) ?_)
 rw [Nat.pow_mul]; exact Nat.pow_le_pow_left (by decide) _
theorem tell_more {n q r : Nat} (hq : q = n / 1000000000) (hr : r = n % 1000000000) (h : q ≠ 0) : figs n = figs q ++ padf 9 r := by
 rw [hq, hr]; exact figs_split n 9 (by rw [hq] at h; exact h)
theorem tell_last {n q r : Nat} (hq : q = n / 1000000000) (hr : r = n % 1000000000) (h : q = 0) : figs n = figs r := by
 congr 1
 omega
def u8s (L : List UInt8) : List Value := L.map fun c : UInt8 => Value.int .u8 c.toNat
theorem u8s_app (L : List UInt8) (c : UInt8) : u8s (L ++ [c]) = u8s L ++ [Value.int .u8 c.toNat] := by unfold u8s; rw [List.map_append]; rfl
theorem u8s_len (L : List UInt8) : (u8s L).length = L.length := by simp [u8s]
def Ob (w : World) (B : Nat) (v : Value) (L : List UInt8) : Prop := w.ownsRow B 5 1 v L.length (u8s L)
theorem Ob.nil (w : World) (B : Nat) : Ob w B (.slice none 0 0) [] := ⟨rfl, .inl ⟨rfl, rfl⟩⟩
theorem Ob.keep {w w' : World} {B0 B g : Nat} {v : Value} {L : List UInt8} (h : Ob w B0 v L) (k : Keeps B [g] w w') (hB : w.heap.size ≤ B) (hg : v.ownBlock ≠ some g) : Ob w' B0 v L := by
 rcases h.2 with h0 | ⟨q, cap, cur, he, hq, hb, h1, h2, h3, h4⟩
 · exact ⟨h.1, .inl h0⟩
 · subst he
   exact ⟨h.1, .inr ⟨q, cap, cur, rfl, hq, (k.block q (Nat.lt_of_lt_of_le (lt_of_block hb) hB) (by
    intro hm; rw [List.mem_singleton] at hm; exact hg (by rw [hm]; rfl))).trans hb, h1, h2, h3, h4⟩⟩
theorem Ob.below {w w' : World} {B0 : Nat} {v : Value} {L : List UInt8} (h : Ob w B0 v L) (k : Below w.heap.size w w') : Ob w' B0 v L := by
 rcases h.2 with h0 | ⟨q, cap, cur, he, hq, hb, h1, h2, h3, h4⟩
 · exact ⟨h.1, .inl h0⟩
 · subst he; exact ⟨h.1, .inr ⟨q, cap, cur, rfl, hq, (k.block q (lt_of_block hb)).trans hb, h1, h2, h3, h4⟩⟩
theorem Ob.apart {w : World} {B0 g : Nat} {v : Value} {L : List UInt8} {M : List Nat} (h : Ob w B0 v L) (r : Ro w g M) : v.ownBlock ≠ some g := by
 intro e; rcases h.2 with ⟨rfl, -⟩ | ⟨q, cap, cur, rfl, hq, hb, -⟩
 · cases e
 · simp only [Value.ownBlock, Option.some.injEq] at e; subst e; have := hb.symm.trans r
   simp at this
theorem Ro.grown {w w' : World} {v : Option Nat} {g : Nat} {M : List Nat} (r : Ro w g M) (h : w.grownBy w' v) (hv : v ≠ some g) : Ro w' g M := (h.block g r.lt (fun e => hv e.symm)).trans r
theorem wok_split {Q : List Nat} (h : Wok Q) : ∃ Z, Q = words (val Q) ++ Z := by
 induction Q with
 | nil => exact ⟨[], by rw [show val [] = 0 from rfl, words_0]; rfl⟩
 | cons x Q ih =>
   obtain ⟨Z, hZ⟩ := ih h.tail; have hx := h.head; by_cases h0 : x + 4294967296 * val Q = 0
   · exact ⟨x :: Q, by rw [val, h0, words_0]; rfl⟩
   · refine ⟨Z, ?_⟩
     rw [val, words_pos h0, show (x + 4294967296 * val Q) % 4294967296 = x by omega, show (x + 4294967296 * val Q) / 4294967296 = val Q by omega]
     rw [List.cons_append, ← hZ]
def TellI (w : World) (g cap N n : Nat) (D : List UInt8) (vb : Value) (wr : World) : Prop :=
 ∃ Z, Ro wr g (words n ++ Z) ∧ (words n).length ≤ cap ∧ Ob wr w.heap.size vb D ∧ figs N = figs n ++ D.reverse ∧ Below w.heap.size w wr ∧ n ≤ N
def DivI (w : World) (g n : Nat) (Z : List Nat) (D : List UInt8) (vb : Value) (j r : Nat) (Q : List Nat) (wr : World) : Prop :=
 Q.length + j = (words n).length ∧ Wok Q ∧ r < 1000000000 ∧ val ((words n).drop j) = 1000000000 * val Q + r ∧ Ro wr g ((words n).take j ++ (Q ++ Z)) ∧ Ob wr w.heap.size vb D ∧ Below w.heap.size w wr
def lenV : Value → Nat
 | .slice _ n _ => n
 | _ => 0
theorem Ob.lenV {w : World} {B : Nat} {v : Value} {L : List UInt8} (h : Ob w B v L) : lenV v = L.length := by
 rcases h.2 with ⟨rfl, h0⟩ | ⟨q, cap, cur, rfl, -⟩
 · exact h0.symm
 · rfl
theorem Ob.of_own {w : World} {B : Nat} {v : Value} {D D' DD : List UInt8} {b : Nat} (hDD : D ++ D' = DD) (hb : b < 256) (h : w.ownsRow B 5 1 v (DD.length + 1) (u8s DD ++ [.int .u8 (b : Int)])) : Ob w B v (D ++ (D' ++ [UInt8.ofNat b])) := by
 unfold Ob; rw [← List.append_assoc, hDD, List.length_append, List.length_singleton, u8s_app]; rw [show (UInt8.ofNat b).toNat = b by rw [UInt8.toNat_ofNat']; omega]
 exact h
theorem idx_fig (d : Nat) (h : d < 10) (w : World) : (Instr.index 9 (.string { data := #[48, 49, 50, 51, 52, 53, 54, 55, 56, 57, 97, 98, 99, 100, 101, 102, 103, 104, 105, 106, 107, 108, 109, 110, 111, 112, 113, 114, 115, 116, 117, 118, 119, 120, 121, 122] }) (.int .u32 d)).run Tryz.prog w = .ok (.int .u8 ((48 + d : Nat) : Int)) w := by
 have : d = 0 ∨ d = 1 ∨ d = 2 ∨ d = 3 ∨ d = 4 ∨ d = 5 ∨ d = 6 ∨ d = 7 ∨ d = 8 ∨ d = 9 := by omega
 rcases this with rfl | rfl | rfl | rfl | rfl | rfl | rfl | rfl | rfl | rfl
 all_goals (clear h; show Sem.run _ _ _ = _; first | kernel_rfl | rfl)
theorem info5 : (Tryz.prog.info? 5).map (fun i => (i.zero, i.size, i.bytes)) = some (some (.int .u8 0), 1, 1) := by kernel_rfl
def Rb (w : World) (g : Nat) (L : List UInt8) : Prop := w.heap[g]? = some (.cells (u8s L).toArray 5 (0, 0))
theorem Rb.lt {w : World} {g : Nat} {L : List UInt8} (h : Rb w g L) : g < w.heap.size := lt_of_block h
theorem u8s_get (L : List UInt8) (i : Nat) : (u8s L)[i]? = (L[i]?).map fun c : UInt8 => Value.int .u8 c.toNat := by simp [u8s]
theorem Rb.cell {w : World} {g : Nat} {L : List UInt8} (h : Rb w g L) {i : Nat} {c : UInt8} (hx : L[i]? = some c) : w.cell? ⟨g, i, none⟩ = some (.int .u8 c.toNat) := by
 rw [cell_of_block h, List.getElem?_toArray, u8s_get, hx]; rfl
theorem Rb.free {w : World} {g : Nat} {L : List UInt8} (h : Rb w g L) (i : Nat) : w.frozen? ⟨g, i, none⟩ = false := free_of_block h i
theorem Rb.set {w : World} {g : Nat} {L : List UInt8} (h : Rb w g L) (i : Nat) (c : UInt8) : Rb (w.setCell ⟨g, i, none⟩ (.int .u8 c.toNat)) g (L.set i c) := by
 have := set_of_block h i (.int .u8 c.toNat); rw [List.setIfInBounds_toArray] at this; unfold Rb u8s; rw [List.map_set]; exact this
theorem Ob.form {w : World} {B : Nat} {v : Value} {L : List UInt8} (h : Ob w B v L) (h0 : 0 < L.length) : ∃ g cap, v = .slice (some ⟨g, 0, none⟩) L.length cap ∧ B ≤ g ∧ L.length ≤ cap ∧ g < w.heap.size ∧ ∀ (i : Nat) (c : UInt8), L[i]? = some c → w.cell? ⟨g, i, none⟩ = some (.int .u8 c.toNat) := by
 rcases h.2 with ⟨-, h1⟩ | ⟨g, cap, cur, h1, h2, hb, h3, -, -, h4⟩
 · omega
 · refine ⟨g, cap, h1, h2, h3, lt_of_block hb, fun i c hx => ?_⟩
   have := congrArg (fun t => t[i]?) h4
   simp only [u8s_get, hx, Option.map_some] at this; rw [Nat.mul_one, List.getElem?_take] at this
   split at this
   · rw [Array.getElem?_toList] at this; rw [cell_of_block hb, this]
   · cases this
theorem made_bytes {w : World} {g B n : Nat} (h : w.ownsRow B 5 1 (.slice (some ⟨g, 0, none⟩) n n) n (madeCells (Value.int .u8 0).cells (n * 1)).toList) : Rb w g (List.replicate n 0) := by
 rcases h.2 with ⟨h0, -⟩ | ⟨k, cap, cur, he, hg, hb, h1, h2, h3, h4⟩
 · cases h0
 · simp only [Value.slice.injEq, Option.some.injEq, Addr.mk.injEq] at he; obtain ⟨⟨rfl, -, -⟩, -, rfl⟩ := he; rw [show (Value.int .u8 0).cells = #[Value.int .u8 0] from rfl, toList_madeCells_one, List.take_of_length_le (by rw [Array.length_toList, h3]; exact Nat.le_refl _), Nat.mul_one] at h4
   unfold Rb; rw [hb]
   have e : cur = (u8s (List.replicate n 0)).toArray := by
    rw [← Array.toList_inj, h4]; simp [u8s]
   rw [e]
theorem make_bytes {ops : Array Oper} {rest : List Oper} {o : Oper} {a : Act} {Q : Exit → Act → World → Prop} (w : World) (hg : o.guard = none) (l c : Operand) (hop : o.op = Op.makeSlice 232 l c)
 (L : Int) (n : Nat) (hl : a.eval l = .int .i64 L) (hc : a.eval c = .int .i64 L) (hL : L = (n : Int)) (hn : n ≤ 2199023255552)
 (hK : ∀ w1, Hid (Rb w1 w.heap.size (List.replicate n 0)) → Below w.heap.size w w1 → w.heap.size < w1.heap.size → wpList Tryz.prog ops Q rest (a.put o.dst (.slice (some ⟨w.heap.size, 0, none⟩) n n)) w1) :
 wpList Tryz.prog ops Q (o :: rest) a w := by
 obtain ⟨ti, hti, htz, hts, htb⟩ := info_parts info5; refine wpList_make_full w hg l c 232 hop w.heap.size 5 ti _ 1 Tryz.underlying232 hti htz hts .i64 .i64 L L n hl hc hL hL (by rw [htb]; omega) (by unfold maxLen; omega) (Nat.le_refl _) (fun w1 hown hgrow => ?_)
 have r := made_bytes hown; exact hK w1 r (Keeps.below ⟨hgrow.os, hgrow.tape, hgrow.output, hgrow.size, fun k hk _ => hgrow.block k hk (by simp)⟩) r.lt
theorem push_bytes (L : List UInt8) : ∀ (r : ByteArray), (L.map fun c : UInt8 => (c.toNat : Int)).foldl (fun r k => r.push (UInt8.ofNat k.toNat)) r = ⟨r.data ++ L.toArray⟩ := by
 induction L with
 | nil => intro r; simp
 | cons c L ih =>
   intro r; rw [List.map_cons, List.foldl_cons, ih]; show (⟨r.data.push _ ++ _⟩ : ByteArray) = _
   congr 1
   rw [← Array.toList_inj]
   simp
theorem btrimR (g cap : Nat) (L Z : List Nat) (w : World) (h : Ro w g (L ++ Z)) (hl : Wok L) (hc : L.length ≤ cap) (hn : L.length ≤ 1099511627776) :
 Calls Tryz.prog 196 #[.slice (some ⟨g, 0, none⟩) L.length cap] w fun e w' => e = .returned (.slice (some ⟨g, 0, none⟩) (words (val L)).length cap) ∧ w' = w := by
 have H2 := hid h; have hg := h.lt; haveI : Has w g := ⟨hg⟩; clear h; go_enter Tryz.func196, Tryz.ntmps196; go_wp2_with fail
 go_loop [3] (fun s3 => ∃ k : Nat, s3 = .int .i64 k ∧ k ≤ L.length ∧ Hid (∀ i, k ≤ i → ∀ x, L[i]? = some x → x = 0)) (fun s3 => (intOf s3).toNat)
 case atStart => exact ⟨L.length, rfl, Nat.le_refl _, hid (fun i hi x hx => by rw [List.getElem?_eq_none hi] at hx; cases hx)⟩
 case round =>
  obtain ⟨k, rfl, hk, h0⟩ := hrel
  have fin : Hid ((k = 0 ∨ ∃ x, L[k - 1]? = some x ∧ x ≠ 0) → Value.slice (some ⟨g, 0, none⟩) k cap = .slice (some ⟨g, 0, none⟩) (words (val L)).length cap) := hid (fun hh => by
   have ht := words_cut hl h0.out hh; rw [← ht, List.length_take, Nat.min_eq_left hk])
  rcases Nat.eq_zero_or_pos k with rfl | hkp
  · go_wp2_with fail
    go_ret
    exact ⟨congrArg Ending.returned (fin.out (.inl (by trivial))), rfl⟩
  · obtain ⟨j, rfl⟩ : ∃ j, k = j + 1 := ⟨k - 1, by omega⟩
    have hj : j < L.length := by omega
    have hx : L[j]? = some L[j] := List.getElem?_eq_getElem hj; have hxB := hl.get hx; have cc := H2.out.cell (i := j) (x := L[j]) (by rw [List.getElem?_append_left hj]; exact hx)
    obtain ⟨x, hxx⟩ : ∃ x, x = L[j] := ⟨_, rfl⟩; rw [← hxx] at hx hxB cc; have HX := hid hx; have hjc : j < cap := by omega
    clear hx hxx; by_cases hz : x = 0
    · subst hz
      have h0' : Hid (∀ i, j ≤ i → ∀ x, L[i]? = some x → x = 0) := hid (fun i hi y hy => by
       rcases Nat.lt_or_eq_of_le hi with h | rfl
       · exact h0.out i h y hy
       · rw [HX.out] at hy; exact (Option.some.inj hy).symm)
      clear h0 fin; go_wp2_with fail
      exact ⟨⟨j, by rfl, by omega, h0'⟩, by simp [intOf]⟩
    · have hz' : ((x : Int) == 0) = false := by simp; omega
      have hxp : 0 < x := by omega
      have F := hid (fin.out (.inr ⟨x, HX.out, hz⟩)); clear h0 fin; go_wp2_with fail
      go_ret
      exact ⟨congrArg Ending.returned F.out, rfl⟩
end Go.Proofs.YthjeejnggpjnjaaGreatDoor
