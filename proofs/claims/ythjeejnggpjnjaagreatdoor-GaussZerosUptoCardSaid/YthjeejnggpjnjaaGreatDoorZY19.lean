/- A part: CS, CT, CV, GM, GA. -/
import Derived.Test.YthjeejnggpjnjaaGreatDoorZY18
set_option linter.unusedSimpArgs false
set_option linter.unusedVariables false
set_option maxRecDepth 100000
set_option maxHeartbeats 16000000
set_option synthInstance.maxHeartbeats 2000000
set_option synthInstance.maxSize 100000
namespace Go.Proofs.YthjeejnggpjnjaaGreatDoor
open Go.RowKit
def Rn (w : World) (g n : Nat) (f : Nat → Option (_root_.Rat × _root_.Rat)) : Prop :=
 ∃ C : Array Value, w.heap[g]? = some (.cells C 82 (0, 0)) ∧ C.size = n * 2 ∧ ∀ i, i < n → ∃ u v, C[i * 2]? = some u ∧ C[i * 2 + 1]? = some v ∧ ∀ x, f i = some x → ∃ a b, u = .pointer (some ⟨a, 0, none⟩) ∧ v = .pointer (some ⟨b, 0, none⟩) ∧ Ra 88 w a x.1 ∧ Ra 88 w b x.2
theorem Rn.lt {w : World} {g n : Nat} {f : Nat → Option (_root_.Rat × _root_.Rat)} (h : Rn w g n f) : g < w.heap.size := by
 obtain ⟨C, h1, -⟩ := h; exact lt_of_block h1
theorem Rn.below {w w' : World} {g n : Nat} {f : Nat → Option (_root_.Rat × _root_.Rat)} (h : Rn w g n f) (b : Below w.heap.size w w') : Rn w' g n f := by
 obtain ⟨C, h1, h2, h3⟩ := h; refine ⟨C, (b.block g (lt_of_block h1)).trans h1, h2, fun i hi => ?_⟩
 obtain ⟨u, v, q1, q2, q3⟩ := h3 i hi; refine ⟨u, v, q1, q2, fun x hx => ?_⟩
 obtain ⟨a, b', r1, r2, r3, r4⟩ := q3 x hx; exact ⟨a, b', r1, r2, r3.below b, r4.below b⟩
theorem Rn.at {w : World} {g n i : Nat} {f : Nat → Option (_root_.Rat × _root_.Rat)} (h : Rn w g n f) (hi : i < n) {x : _root_.Rat × _root_.Rat} (hx : f i = some x) : ∃ a b, w.cell? ⟨g, i * 2, none⟩ = some (.pointer (some ⟨a, 0, none⟩)) ∧ w.cell? ⟨g, i * 2 + 1, none⟩ = some (.pointer (some ⟨b, 0, none⟩)) ∧ Ra 88 w a x.1 ∧ Ra 88 w b x.2 := by
 obtain ⟨C, h1, h2, h3⟩ := h; obtain ⟨u, v, q1, q2, q3⟩ := h3 i hi; obtain ⟨a, b, rfl, rfl, r3, r4⟩ := q3 x hx; exact ⟨a, b, by rw [cell_of_block h1]; exact q1, by rw [cell_of_block h1]; exact q2, r3, r4⟩
theorem Rn.slot {w : World} {g n i : Nat} {f : Nat → Option (_root_.Rat × _root_.Rat)} (h : Rn w g n f) (hi : i < n) : (∃ u v, w.cell? ⟨g, i * 2, none⟩ = some u ∧ w.cell? ⟨g, i * 2 + 1, none⟩ = some v) ∧ ∀ k, w.frozen? ⟨g, k, none⟩ = false := by
 obtain ⟨C, h1, h2, h3⟩ := h; obtain ⟨u, v, q1, q2, -⟩ := h3 i hi; exact ⟨⟨u, v, by rw [cell_of_block h1]; exact q1, by rw [cell_of_block h1]; exact q2⟩, fun k => free_of_block h1 k⟩
def updN (f : Nat → Option (_root_.Rat × _root_.Rat)) (i : Nat) (x : _root_.Rat × _root_.Rat) : Nat → Option (_root_.Rat × _root_.Rat) := fun j => if j = i then some x else f j
theorem Rn.put {w : World} {g n i a b : Nat} {f : Nat → Option (_root_.Rat × _root_.Rat)} {x : _root_.Rat × _root_.Rat} (h : Rn w g n f) (hi : i < n) (ha : Ra 88 w a x.1) (hb : Ra 88 w b x.2) : Rn ((w.setCell ⟨g, i * 2, none⟩ (.pointer (some ⟨a, 0, none⟩))).setCell ⟨g, i * 2 + 1, none⟩ (.pointer (some ⟨b, 0, none⟩))) g n (updN f i x) := by
 obtain ⟨C, h1, h2, h3⟩ := h; have kp : Keeps w.heap.size [g] w ((w.setCell ⟨g, i * 2, none⟩ (.pointer (some ⟨a, 0, none⟩))).setCell ⟨g, i * 2 + 1, none⟩ (.pointer (some ⟨b, 0, none⟩))) := ((Keeps.refl _ _ _).set (Or.inl (List.mem_singleton.2 rfl)) _ _).set (Or.inl (List.mem_singleton.2 rfl)) _ _; refine ⟨(C.setIfInBounds (i * 2) _).setIfInBounds (i * 2 + 1) _, set_of_block (set_of_block h1 _ _) _ _, by rw [Array.size_setIfInBounds, Array.size_setIfInBounds]; exact h2, fun j hj => ?_⟩
 obtain ⟨u, v, q1, q2, q3⟩ := h3 j hj; by_cases hij : j = i
 · subst hij; refine ⟨.pointer (some ⟨a, 0, none⟩), .pointer (some ⟨b, 0, none⟩), ?_, ?_, fun y hy => ?_⟩
   · rw [Array.getElem?_setIfInBounds, if_neg (by omega), Array.getElem?_setIfInBounds, if_pos rfl, if_pos (by omega)]
   · rw [Array.getElem?_setIfInBounds, if_pos rfl, if_pos (by rw [Array.size_setIfInBounds]; omega)]
   · unfold updN at hy; rw [if_pos rfl] at hy; obtain rfl := Option.some.inj hy; exact ⟨a, b, rfl, rfl, ha.keepO h1 kp (by decide) (by decide), hb.keepO h1 kp (by decide) (by decide)⟩
 · refine ⟨u, v, ?_, ?_, fun y hy => ?_⟩
   · rw [Array.getElem?_setIfInBounds, if_neg (by omega), Array.getElem?_setIfInBounds, if_neg (by omega)]; exact q1
   · rw [Array.getElem?_setIfInBounds, if_neg (by omega), Array.getElem?_setIfInBounds, if_neg (by omega)]; exact q2
   · unfold updN at hy; rw [if_neg hij] at hy; obtain ⟨c, d, r1, r2, r3, r4⟩ := q3 y hy; exact ⟨c, d, r1, r2, r3.keepO h1 kp (by decide) (by decide), r4.keepO h1 kp (by decide) (by decide)⟩
theorem Rn.weak {w : World} {g n : Nat} {f f' : Nat → Option (_root_.Rat × _root_.Rat)} (h : Rn w g n f) (k : ∀ i x, i < n → f' i = some x → f i = some x) : Rn w g n f' := by
 obtain ⟨C, h1, h2, h3⟩ := h; refine ⟨C, h1, h2, fun i hi => ?_⟩
 obtain ⟨u, v, q1, q2, q3⟩ := h3 i hi; exact ⟨u, v, q1, q2, fun x hx => q3 x (k i x hi hx)⟩
theorem Rn.keep {w w' : World} {g k n : Nat} {C : Array Value} {T : Nat} {f : Nat → Option (_root_.Rat × _root_.Rat)} (h : Rn w g n f) (hk : w.heap[k]? = some (.cells C T (0, 0))) (hT : T ≠ 190) (hR : 88 ≠ T) (kp : Keeps w.heap.size [k] w w') (hne : g ≠ k) : Rn w' g n f := by
 obtain ⟨D, h1, h2, h3⟩ := h; refine ⟨D, (kp.block g (lt_of_block h1) (by simpa using hne)).trans h1, h2, fun i hi => ?_⟩
 obtain ⟨u, v, q1, q2, q3⟩ := h3 i hi; refine ⟨u, v, q1, q2, fun x hx => ?_⟩
 obtain ⟨a, b', r1, r2, r3, r4⟩ := q3 x hx; exact ⟨a, b', r1, r2, r3.keepO hk kp hT hR, r4.keepO hk kp hT hR⟩
theorem info82z : (Tryz.prog.info? 82).map (fun i => (i.zero, i.size, i.bytes)) = some (some (.agg #[.pointer none, .pointer none]), 2, 16) := by kernel_rfl
theorem und155z : Tryz.prog.underlying 155 = some (.slice 82) := by kernel_rfl
theorem make_n {ops : Array Oper} {rest : List Oper} {o : Oper} {a : Act} {Q : Exit → Act → World → Prop} (w : World) (hg : o.guard = none) (l c : Operand) (hop : o.op = Op.makeSlice 155 l c)
 (L : Int) (n : Nat) (hl : a.eval l = .int .i64 L) (hc : a.eval c = .int .i64 L) (hL : L = (n : Int)) (hn : n ≤ 1048576)
 (hK : ∀ w1, Rn w1 w.heap.size n (fun _ => none) → Kp0 w w1 → wpList Tryz.prog ops Q rest (a.put o.dst (.slice (some ⟨w.heap.size, 0, none⟩) n n)) w1) :
 wpList Tryz.prog ops Q (o :: rest) a w := by
 obtain ⟨ti, hti, htz, hts, htb⟩ := info_parts info82z; refine wpList_make_full w hg l c 155 hop w.heap.size 82 ti _ 2 und155z hti htz hts .i64 .i64 L L n hl hc hL hL (by rw [htb]; omega) (by unfold maxLen; omega) (Nat.le_refl _) (fun w1 hown hgrow => ?_)
 refine hK w1 ?_ ⟨Keeps.below ⟨hgrow.os, hgrow.tape, hgrow.output, hgrow.size, fun k hk _ => hgrow.block k hk (by simp)⟩⟩
 rcases hown.2 with ⟨h0, -⟩ | ⟨k, cap, cur, he, hgk, hb, h1, h2, h3, h4⟩
 · cases h0
 · simp only [Value.slice.injEq, Option.some.injEq, Addr.mk.injEq] at he; obtain ⟨⟨rfl, -, -⟩, -, rfl⟩ := he; have hs : cur.size = n * 2 := h3; refine ⟨cur, hb, hs, fun i hi => ⟨cur[i * 2], cur[i * 2 + 1], Array.getElem?_eq_getElem (by omega), Array.getElem?_eq_getElem (by omega), fun x hx => by cases hx⟩⟩
def mulN (x y : _root_.Rat × _root_.Rat) : _root_.Rat × _root_.Rat := (x.1 * y.1 - x.2 * y.2, x.1 * y.2 + x.2 * y.1)
def addN (x y : _root_.Rat × _root_.Rat) : _root_.Rat × _root_.Rat := (x.1 + y.1, x.2 + y.2)
def firstN (A : List (_root_.Rat × _root_.Rat)) (F : _root_.Rat × _root_.Rat) (k : Nat) : _root_.Rat × _root_.Rat := if k < A.length then addN (0, 0) (mulN (A.getD k (0, 0)) F) else (0, 0)
def roundN (A : List (_root_.Rat × _root_.Rat)) (F S : _root_.Rat × _root_.Rat) (k : Nat) : _root_.Rat × _root_.Rat := if 0 < k then addN (firstN A F k) (mulN (A.getD (k - 1) (0, 0)) S) else firstN A F k
def nextN (A : List (_root_.Rat × _root_.Rat)) (F S c : _root_.Rat × _root_.Rat) : List (_root_.Rat × _root_.Rat) := addN (roundN A F S 0) c :: (List.range A.length).map (fun k => roundN A F S (k + 1))
def alongN (F S : _root_.Rat × _root_.Rat) (l : List (Nat × Nat)) : List (_root_.Rat × _root_.Rat) := l.foldr (fun c A => nextN A F S (frat c.1, frat c.2)) []
theorem nextN_len (A : List (_root_.Rat × _root_.Rat)) (F S c : _root_.Rat × _root_.Rat) : (nextN A F S c).length = A.length + 1 := by unfold nextN; rw [List.length_cons, List.length_map, List.length_range]
theorem nextN_at (A : List (_root_.Rat × _root_.Rat)) (F S c : _root_.Rat × _root_.Rat) {i : Nat} (hi : i < A.length + 1) : (nextN A F S c)[i]? = some (if i = 0 then addN (roundN A F S 0) c else roundN A F S i) := by
 rcases i with _ | i
 · rfl
 · unfold nextN; rw [List.getElem?_cons_succ, List.getElem?_map, List.getElem?_range (by omega)]
   rfl
theorem alongN_len (F S : _root_.Rat × _root_.Rat) (l : List (Nat × Nat)) : (alongN F S l).length = l.length := by
 induction l with
 | nil => rfl
 | cons c l ih =>
   show (nextN (alongN F S l) F S _).length = _
   rw [nextN_len, ih, List.length_cons]
theorem alongN_drop {F S : _root_.Rat × _root_.Rat} {l : List (Nat × Nat)} {j : Nat} {c : Nat × Nat} (h : l[j]? = some c) : alongN F S (l.drop j) = nextN (alongN F S (l.drop (j + 1))) F S (frat c.1, frat c.2) := by
 obtain ⟨hj, rfl⟩ := List.getElem?_eq_some_iff.1 h; rw [List.drop_eq_getElem_cons hj]; rfl
def DyN (E M : Nat) (x : _root_.Rat × _root_.Rat) : Prop := Dy E M x.1 ∧ Dy E M x.2
theorem DyN.mul {E M E' M' : Nat} {x y : _root_.Rat × _root_.Rat} (h : DyN E M x) (k : DyN E' M' y) : DyN (E + E') (M + M' + 1) (mulN x y) := ⟨(h.1.mul k.1).sub (h.2.mul k.2), (h.1.mul k.2).add (h.2.mul k.1)⟩
theorem DyN.add {E M : Nat} {x y : _root_.Rat × _root_.Rat} (h : DyN E M x) (k : DyN E M y) : DyN E (M + 1) (addN x y) := ⟨h.1.add k.1, h.2.add k.2⟩
theorem DyN.mono {E M M' : Nat} {x : _root_.Rat × _root_.Rat} (h : DyN E M x) (hM : M ≤ M') : DyN E M' x := ⟨h.1.mono hM, h.2.mono hM⟩
theorem DyN.up {E M : Nat} {x : _root_.Rat × _root_.Rat} (h : DyN E M x) (k : Nat) : DyN (E + k) (M + k) x := ⟨h.1.up k, h.2.up k⟩
theorem DyN.zero (E M : Nat) (h : E ≤ M) : DyN E M (0, 0) := by
 have := (Dy.zero.up E).mono (M' := M) (by omega)
 rw [Nat.zero_add] at this; exact ⟨this, this⟩
theorem roundN_dy {m : Nat} {A : List (_root_.Rat × _root_.Rat)} {F S : _root_.Rat × _root_.Rat} (hA : ∀ x ∈ A, DyN (92 * m) (150 * m) x) (hF : DyN 92 140 F) (hS : DyN 92 140 S) (k : Nat) : DyN (92 * m + 92) (150 * m + 145) (roundN A F S k) := by
 have hg : ∀ i, DyN (92 * m) (150 * m) (A.getD i (0, 0)) := by
  intro i; rw [List.getD_eq_getElem?_getD]; cases h : A[i]? with
  | none => exact DyN.zero _ _ (by omega)
  | some x => exact hA x (List.mem_of_getElem? h)
 have hz : DyN (92 * m + 92) (150 * m + 141) (0, 0) := DyN.zero _ _ (by omega)
 have hf : DyN (92 * m + 92) (150 * m + 142) (firstN A F k) := by
  unfold firstN
  split
  · exact hz.add ((hg k).mul hF)
  · exact hz.mono (by omega)
 unfold roundN
 split
 · exact (hf.add (((hg (k - 1)).mul hS).mono (by omega))).mono (by omega)
 · exact hf.mono (by omega)
theorem alongN_dy {F S : _root_.Rat × _root_.Rat} (hF : DyN 92 140 F) (hS : DyN 92 140 S) {l : List (Nat × Nat)} (hl : ∀ c ∈ l, DyN 92 140 (frat c.1, frat c.2)) : ∀ x ∈ alongN F S l, DyN (92 * l.length) (150 * l.length) x := by
 induction l with
 | nil => intro x hx; cases hx
 | cons c l ih =>
   intro x hx; have hA := ih (fun c' h' => hl c' (List.mem_cons_of_mem _ h'))
   have hc := hl c List.mem_cons_self; have e1 : 92 * (c :: l).length = 92 * l.length + 92 := by rw [List.length_cons]; omega
   have e2 : 150 * (c :: l).length = 150 * l.length + 150 := by rw [List.length_cons]; omega
   rw [e1, e2]
   have hc2 : DyN (92 * l.length + 92) (150 * l.length + 145) (frat c.1, frat c.2) := by
    have := hc.up (92 * l.length); rw [Nat.add_comm 92] at this; exact this.mono (by omega)
   rcases List.mem_cons.1 hx with rfl | hx
   · exact ((roundN_dy hA hF hS 0).add hc2).mono (by omega)
   · obtain ⟨k, -, rfl⟩ := List.mem_map.1 hx; exact (roundN_dy hA hF hS (k + 1)).mono (by omega)
theorem alongN_sm {F S : _root_.Rat × _root_.Rat} (hF : DyN 92 140 F) (hS : DyN 92 140 S) {l : List (Nat × Nat)} (hn : l.length ≤ 17) (hl : ∀ c ∈ l, DyN 92 140 (frat c.1, frat c.2)) : ∀ x ∈ alongN F S l, SmC x.1 81 ∧ SmC x.2 81 := by
 intro x hx; obtain ⟨h1, h2⟩ := alongN_dy hF hS hl x hx; exact ⟨⟨Nat.le_trans h1.num (by omega), Nat.le_trans h1.den (by omega)⟩, ⟨Nat.le_trans h2.num (by omega), Nat.le_trans h2.den (by omega)⟩⟩
theorem mid_fexp {b : Nat} (h : midB b = true) : fexp b ≠ 2047 := by
 unfold midB at h; rw [Bool.or_eq_true, Bool.and_eq_true, decide_eq_true_eq, decide_eq_true_eq, decide_eq_true_eq] at h; unfold fexp; rcases h with h | ⟨⟨h1, -⟩, h2⟩
 · omega
 · omega
theorem mid_dy {b : Nat} (h : midB b = true) : Dy 92 133 (frat b) := by
 unfold midB at h; rw [Bool.or_eq_true, Bool.and_eq_true, decide_eq_true_eq, decide_eq_true_eq, decide_eq_true_eq] at h; rcases h with h | ⟨⟨h1, -⟩, h2⟩
 · have e1 : fexp b = 0 := by unfold fexp; omega
   have e2 : fnum b = 0 := by unfold fnum; rw [if_pos e1]; unfold fman; omega
   have e : frat b = 0 := by
    unfold frat; rw [e2, Nat.zero_mul, show sg (fneg b) 0 = 0 by cases fneg b <;> rfl, Rat.zero_mkRat]
   rw [e]; have := (Dy.zero.up 92).mono (M' := 133) (by decide)
   rwa [Nat.zero_add] at this
 · have e1 : 983 ≤ fexp b := by unfold fexp; omega
   have e2 : fexp b ≤ 1063 := by unfold fexp; omega
   have e3 : fpow b = fexp b := by unfold fpow; rw [if_neg (by omega)]
   have e4 := fnum_lt b; unfold frat; rw [e3, show fexp b - 1075 = 0 by omega]
   generalize fexp b = p at *; generalize fnum b = f at *; refine ⟨sg (fneg b) (f * 2 ^ (p - 983)), ?_, ?_⟩
   · rw [← Rat.mkRat_mul_right (two_ne (p - 983)) (n := sg (fneg b) (f * 2 ^ 0)), ← Nat.pow_add, sg_scale, Nat.pow_zero, Nat.mul_one, show 1075 - p + (p - 983) = 92 by omega]
   · rw [sg_abs, show (133 : Nat) = 53 + 80 from rfl, Nat.pow_add]
     exact Nat.mul_le_mul (by omega) (Nat.pow_le_pow_right (by decide) (by omega))
theorem dy_den {E M : Nat} {x : _root_.Rat} (h : Dy E M x) : x.den ∣ 2 ^ E := by
 obtain ⟨n, rfl, -⟩ := h; rw [Rat.den_mkRat, if_neg (two_ne E)]; exact Nat.div_dvd_of_dvd (Nat.gcd_dvd_left _ _)
theorem dy_num {E M : Nat} {x : _root_.Rat} (h : Dy E M x) : x.num.natAbs ≤ 2 ^ M := by
 obtain ⟨n, rfl, hn⟩ := h; exact Nat.le_trans (mkRat_small n (2 ^ E) (two_ne E)).1 hn
theorem lcmD_dvd {d K : Nat} {r : _root_.Rat} (hd : d ∣ K) (hr : r.den ∣ K) : lcmD d r ∣ K := by
 unfold lcmD; rw [← Nat.mul_div_assoc _ (Nat.gcd_dvd_right _ _)]; exact Nat.lcm_dvd hd hr
theorem lcmL_dvd {K : Nat} {l : List _root_.Rat} : ∀ {d : Nat}, d ∣ K → (∀ x ∈ l, x.den ∣ K) → lcmL d l ∣ K := by
 induction l with
 | nil => intro d hd _; exact hd
 | cons x t ih =>
   intro d hd h; exact ih (d := lcmD d x) (lcmD_dvd hd (h x List.mem_cons_self)) (fun y hy => h y (List.mem_cons_of_mem _ hy))
theorem wholeD_dvd {K : Nat} {l m : List _root_.Rat} (h : ∀ x ∈ l, x.den ∣ K) (h' : ∀ x ∈ m, x.den ∣ K) : wholeD l m ∣ K := lcmL_dvd (lcmL_dvd (Nat.one_dvd K) h) h'
theorem wholeI_le {E M D : Nat} {x : _root_.Rat} (h : Dy E M x) (hD : D ∣ 2 ^ E) : (words (wholeI D x).natAbs).length ≤ (M + E) / 32 + 1 := by
 refine pow2_words ?_
 unfold wholeI; rw [Int.natAbs_mul, Nat.pow_add, ← Int.ofNat_tdiv, Int.natAbs_natCast]; exact Nat.mul_le_mul (dy_num h) (Nat.le_trans (Nat.div_le_self _ _) (Nat.le_of_dvd (Nat.pos_of_ne_zero (two_ne E)) hD))
theorem whole_sz {E M : Nat} {l m : List _root_.Rat} (h : ∀ x ∈ l, Dy E M x) (h' : ∀ x ∈ m, Dy E M x) : SzI ((M + E) / 32 + 1) (wholeX l m) ∧ SzI ((M + E) / 32 + 1) (wholeY l m) := by
 have hD := wholeD_dvd (K := 2 ^ E) (fun x hx => dy_den (h x hx)) (fun x hx => dy_den (h' x hx))
 constructor
 · refine SzI.cut (fun y hy => ?_)
   obtain ⟨x, hx, rfl⟩ := List.mem_map.1 hy; exact wholeI_le (h x hx) hD
 · refine SzI.cut (fun y hy => ?_)
   obtain ⟨x, hx, rfl⟩ := List.mem_map.1 hy; exact wholeI_le (h' x hx) hD
theorem along_start {F S : _root_.Rat × _root_.Rat} (hF : DyN 92 140 F) (hS : DyN 92 140 S) {l : List (Nat × Nat)} (hn : l.length ≤ 17) (hl : ∀ c ∈ l, DyN 92 140 (frat c.1, frat c.2)) :
 StartC 130 (wholeX ((alongN F S l).map Prod.fst) ((alongN F S l).map Prod.snd)) (wholeY ((alongN F S l).map Prod.fst) ((alongN F S l).map Prod.snd)) := by
 have hD := alongN_dy hF hS hl; have hl1 : ((alongN F S l).map Prod.fst).length ≤ 17 := by rw [List.length_map, alongN_len]; exact hn
 have hl2 : ((alongN F S l).map Prod.snd).length ≤ 17 := by rw [List.length_map, alongN_len]; exact hn
 obtain ⟨s1, s2⟩ := whole_sz (l := (alongN F S l).map Prod.fst) (m := (alongN F S l).map Prod.snd) (fun x hx => by obtain ⟨y, hy, rfl⟩ := List.mem_map.1 hx; exact (hD y hy).1) (fun x hx => by obtain ⟨y, hy, rfl⟩ := List.mem_map.1 hx; exact (hD y hy).2)
 have hk : (150 * l.length + 92 * l.length) / 32 + 1 ≤ 130 := by omega
 refine ⟨Nat.le_trans (cutI_len _) ?_, Nat.le_trans (cutI_len _) ?_, s1.mono hk, s2.mono hk⟩
 · rw [List.length_map]; exact hl1
 · rw [List.length_map]; exact hl2
theorem StartC.symm {A : Nat} {p q : List Int} (h : StartC A p q) : StartC A q p := ⟨h.2.1, h.1, h.2.2.2, h.2.2.1⟩
theorem chainI_okz {A : Nat} (hA : 1 ≤ A) : ∀ (k : Nat) (p q : List Int), RowI A p q → ∀ P ∈ chainI k p q, OkZ A P := by
 have hp : ∀ p q : List Int, RowI A p q → OkZ A p := by
  intro p q h; rcases h with ⟨h1, h2, h3, h4⟩ | ⟨h1, h2, h3, h4⟩
  · exact ⟨h1, h3.mono (Nat.le_mul_of_pos_right _ (Nat.pow_pos (by decide)))⟩
  · exact ⟨h1, h3⟩
 intro k
 induction k with
 | zero =>
   intro p q h P hP; obtain rfl : P = p := by simpa [chainI] using hP
   exact hp P q h
 | succ k ih =>
   intro p q h P hP; rw [chainI] at hP; by_cases hq : q = []
   · rw [if_pos hq] at hP; obtain rfl : P = p := by simpa using hP
     exact hp P q h
   · rw [if_neg hq] at hP; rcases List.mem_cons.1 hP with rfl | hP
     · exact hp P q h
     · exact ih q _ (h.step hA hq) P hP
def lastL (l : List (List Int)) : List Int := l.getD (l.length - 1) []
theorem lastL_mem {l : List (List Int)} (h : l ≠ []) : lastL l ∈ l ∧ l[l.length - 1]? = some (lastL l) := by
 have hp := List.length_pos_iff.2 h; have e := getL_some (l := l) (i := l.length - 1) (by omega)
 exact ⟨List.mem_of_getElem? e, e⟩
def cornerF (lo hi : Nat × Nat) : Nat → _root_.Rat × _root_.Rat
 | 0 => (frat lo.1, frat lo.2)
 | 1 => (frat hi.1, frat lo.2)
 | 2 => (frat hi.1, frat hi.2)
 | _ => (frat lo.1, frat hi.2)
def wayF (lo hi : Nat × Nat) (i : Nat) : _root_.Rat × _root_.Rat := ((cornerF lo hi ((i + 1) % 4)).1 - (cornerF lo hi i).1, (cornerF lo hi ((i + 1) % 4)).2 - (cornerF lo hi i).2)
def lineF (l : List (Nat × Nat)) (lo hi : Nat × Nat) (i : Nat) : List (_root_.Rat × _root_.Rat) := alongN (cornerF lo hi i) (wayF lo hi i) l
def sideX (l : List (Nat × Nat)) (lo hi : Nat × Nat) (i : Nat) : List Int := wholeX ((lineF l lo hi i).map Prod.fst) ((lineF l lo hi i).map Prod.snd)
def sideY (l : List (Nat × Nat)) (lo hi : Nat × Nat) (i : Nat) : List Int := wholeY ((lineF l lo hi i).map Prod.fst) ((lineF l lo hi i).map Prod.snd)
def sideR (u v : List Int) : List (List Int) := if v = [] then rowI u v else rowI v u
def sideT (u v : List Int) : Int := if v = [] then 0 else turnI (rowI v u)
def sideZ (u v : List Int) : Bool := zeroI (lastL (sideR u v))
def sumT (l : List (Nat × Nat)) (lo hi : Nat × Nat) : Nat → Int
 | 0 => 0
 | j + 1 => sumT l lo hi j + sideT (sideX l lo hi j) (sideY l lo hi j)
def touchT (l : List (Nat × Nat)) (lo hi : Nat × Nat) (j : Nat) : Bool := (List.range j).any fun i => sideZ (sideX l lo hi i) (sideY l lo hi i)
def zerosN (l : List (Nat × Nat)) (lo hi : Nat × Nat) : Int × Int := if askE l lo hi ≠ 0 then (0, askE l lo hi) else if touchT l lo hi 4 = true then (0, 32) else ((sumT l lo hi 4).tdiv 4, 0)
theorem touchT_next (l : List (Nat × Nat)) (lo hi : Nat × Nat) (j : Nat) : touchT l lo hi (j + 1) = (touchT l lo hi j || sideZ (sideX l lo hi j) (sideY l lo hi j)) := by
 unfold touchT; rw [List.range_succ, List.any_append]
 simp
theorem touchT_mono {l : List (Nat × Nat)} {lo hi : Nat × Nat} {j k : Nat} (h : touchT l lo hi j = true) (hk : j ≤ k) : touchT l lo hi k = true := by
 unfold touchT at *; rw [List.any_eq_true] at *; obtain ⟨i, hi, h⟩ := h; exact ⟨i, List.mem_range.2 (Nat.lt_of_lt_of_le (List.mem_range.1 hi) hk), h⟩
theorem corner_dy {lo hi : Nat × Nat} (hl : midC lo = true) (hh : midC hi = true) (i : Nat) : DyN 92 133 (cornerF lo hi i) := by
 unfold midC at hl hh; rw [Bool.and_eq_true] at hl hh; have a := mid_dy hl.1; have b := mid_dy hl.2; have c := mid_dy hh.1; have d := mid_dy hh.2; rcases i with _ | _ | _ | i
 · exact ⟨a, b⟩
 · exact ⟨c, b⟩
 · exact ⟨c, d⟩
 · exact ⟨a, d⟩
theorem way_dy {lo hi : Nat × Nat} (hl : midC lo = true) (hh : midC hi = true) (i : Nat) : DyN 92 140 (wayF lo hi i) := by
 have a := corner_dy hl hh i; have b := corner_dy hl hh ((i + 1) % 4); exact DyN.mono (M := 134) ⟨b.1.sub a.1, b.2.sub a.2⟩ (by decide)
theorem allM_dy {l : List (Nat × Nat)} (h : allM l = true) : ∀ c ∈ l, DyN 92 140 (frat c.1, frat c.2) := by
 intro c hc; obtain ⟨j, hj⟩ := List.getElem?_of_mem hc; have := allM_at hj h; unfold midC at this; rw [Bool.and_eq_true] at this; exact DyN.mono (M := 133) ⟨mid_dy this.1, mid_dy this.2⟩ (by decide)
theorem allM_fexp {l : List (Nat × Nat)} (h : allM l = true) : ∀ c ∈ l, fexp c.1 ≠ 2047 ∧ fexp c.2 ≠ 2047 := by
 intro c hc; obtain ⟨j, hj⟩ := List.getElem?_of_mem hc; have := allM_at hj h; unfold midC at this; rw [Bool.and_eq_true] at this; exact ⟨mid_fexp this.1, mid_fexp this.2⟩
theorem askE_ok {l : List (Nat × Nat)} {lo hi : Nat × Nat} (h : askE l lo hi = 0) : (1 ≤ l.length ∧ l.length ≤ 17) ∧ allM l = true ∧ midC lo = true ∧ midC hi = true := by
 unfold askE at h
 split at h
 · exact absurd h (by decide)
 · split at h
   · exact absurd h (by decide)
   · split at h
     · exact absurd h (by decide)
     · unfold endE at h
       split at h
       · exact absurd h (by decide)
       · rename_i h1 h2 h3 h4; refine ⟨by omega, by simpa using h2, ?_, ?_⟩
         · cases hh : midC lo
           · exact absurd (Or.inl hh) h4
           · rfl
         · cases hh : midC hi
           · exact absurd (Or.inr hh) h4
           · rfl
theorem side_start {l : List (Nat × Nat)} {lo hi : Nat × Nat} (h : askE l lo hi = 0) (i : Nat) : StartC 130 (sideX l lo hi i) (sideY l lo hi i) := by
 obtain ⟨h1, h2, h3, h4⟩ := askE_ok h; exact along_start ((corner_dy h3 h4 i).mono (by decide)) (way_dy h3 h4 i) h1.2 (allM_dy h2)
theorem sideR_row {u v : List Int} (h : StartC 130 u v) : OkR (sideR u v) ∧ OkZ 130 (lastL (sideR u v)) := by
 have h1 : RowI 130 u v := .inl h; have h2 : RowI 130 v u := .inl h.symm; unfold sideR
 split
 · have ok := rowI_ok (by decide) (by decide) h1
   exact ⟨ok, chainI_okz (by decide) _ _ _ h1 _ (lastL_mem ok.1).1⟩
 · have ok := rowI_ok (by decide) (by decide) h2
   exact ⟨ok, chainI_okz (by decide) _ _ _ h2 _ (lastL_mem ok.1).1⟩
theorem sideT_bound (u v : List Int) : -40 ≤ sideT u v ∧ sideT u v ≤ 40 ∨ 18 < u.length := by
 unfold sideT
 split
 · exact .inl (by decide)
 · have h1 := turnN_bound (rowI v u) ((rowI v u).length - 1); have h2 := (chainI_len (u.length + 1) v u).1; unfold turnI; unfold rowI at *; omega
theorem sumT_bound {l : List (Nat × Nat)} {lo hi : Nat × Nat} (h : askE l lo hi = 0) (j : Nat) : -(40 * (j : Int)) ≤ sumT l lo hi j ∧ sumT l lo hi j ≤ 40 * (j : Int) := by
 induction j with
 | zero =>
   rw [sumT]; omega
 | succ j ih =>
   have h1 := (side_start h j).1; have h2 := (sideT_bound (sideX l lo hi j) (sideY l lo hi j)).resolve_right (by omega)
   rw [sumT]; omega
set_option maxRecDepth 100000
abbrev Qt := _root_.Rat
theorem gcdI_fold (l : List Int) (g : Nat) : l.foldl (fun g x => Nat.gcd g x.natAbs) g ∣ g ∧ ∀ x ∈ l, l.foldl (fun g x => Nat.gcd g x.natAbs) g ∣ x.natAbs := by
 induction l generalizing g with
 | nil => exact ⟨Nat.dvd_refl _, fun x h => by cases h⟩
 | cons y l ih =>
   obtain ⟨h1, h2⟩ := ih (Nat.gcd g y.natAbs); refine ⟨Nat.dvd_trans h1 (Nat.gcd_dvd_left _ _), fun x hx => ?_⟩
   rcases List.mem_cons.1 hx with rfl | hx
   · exact Nat.dvd_trans h1 (Nat.gcd_dvd_right _ _)
   · exact h2 x hx
theorem gcdI_dvd {l : List Int} {x : Int} (h : x ∈ l) : ((gcdI l : Nat) : Int) ∣ x := Int.ofNat_dvd_left.2 ((gcdI_fold l 0).2 x h)
def Trim (l : List Int) : Prop := l = [] ∨ lastI l ≠ 0
theorem trim_cut (l : List Int) : Trim (cutI l) := by
 induction l with
 | nil => exact .inl rfl
 | cons x l ih =>
   rw [cutI]
   split
   · exact .inl rfl
   · rename_i h
     right
     rcases ih with e | e
     · rw [e]; intro k; exact h ⟨e, by simpa [lastI] using k⟩
     · unfold lastI at *; cases hc : cutI l with
       | nil => rw [hc] at e; simp at e
       | cons y m => rw [hc] at e; simpa using e
theorem trim_rem : ∀ (k : Nat) (r q : List Int), Trim r → Trim (remI k r q) := by
 intro k
 induction k with
 | zero => intro r q h; exact h
 | succ k ih =>
   intro r q h; rw [remI]
   split
   · exact ih _ q (trim_cut _)
   · exact h
theorem trim_map {l : List Int} {f : Int → Int} (h : Trim l) (hf : ∀ x ∈ l, x ≠ 0 → f x ≠ 0) : Trim (l.map f) := by
 rcases h with h | h
 · left; rw [h]; rfl
 · right
   unfold lastI at *; rw [List.length_map]; cases hl : l with
   | nil => rw [hl] at h; simp at h
   | cons x m =>
     have hi : l.length - 1 < l.length := by rw [hl]; simp
     rw [← hl, List.getD_eq_getElem?_getD, List.getElem?_map, List.getElem?_eq_getElem hi]; rw [List.getD_eq_getElem?_getD, List.getElem?_eq_getElem hi] at h; exact hf _ (List.getElem_mem hi) h
theorem trim_small {l : List Int} (h : Trim l) : Trim (smallI l) := by
 unfold smallI
 split
 · exact h
 · rename_i hg; refine trim_map h (fun x hx h0 e => ?_)
   obtain ⟨k, hk⟩ := gcdI_dvd hx; rw [hk, Int.mul_tdiv_cancel_left _ (by omega)] at e
   rw [e, Int.mul_zero] at hk; exact h0 hk
theorem trim_less {p q : List Int} (h : Trim p) : Trim (lessI p q) := by
 unfold lessI; exact trim_small (trim_map (trim_rem _ _ _ h) (fun x _ h0 => by omega))
theorem den_lcmD (d : Nat) (r : Qt) : d ∣ lcmD d r ∧ r.den ∣ lcmD d r := by
 unfold lcmD; refine ⟨Nat.dvd_mul_right _ _, ?_⟩
 obtain ⟨k, hk⟩ := Nat.gcd_dvd_left d r.den; obtain ⟨m, hm⟩ := Nat.gcd_dvd_right d r.den; have hg : 0 < Nat.gcd d r.den := Nat.gcd_pos_of_pos_right _ r.den_pos; have e : r.den / Nat.gcd d r.den = m := Nat.div_eq_of_eq_mul_right hg hm; rw [e]; refine ⟨k, ?_⟩
 generalize Nat.gcd d r.den = g at *; rw [hk, hm]
 grind
theorem lcmL_den (l : List Qt) (d : Nat) : d ∣ lcmL d l ∧ ∀ x ∈ l, x.den ∣ lcmL d l := by
 induction l generalizing d with
 | nil => exact ⟨Nat.dvd_refl _, fun x h => by cases h⟩
 | cons y l ih =>
   obtain ⟨h1, h2⟩ := ih (lcmD d y); obtain ⟨k1, k2⟩ := den_lcmD d y; refine ⟨Nat.dvd_trans k1 h1, fun x hx => ?_⟩
   rcases List.mem_cons.1 hx with rfl | hx
   · exact Nat.dvd_trans k2 h1
   · exact h2 x hx
theorem wholeI_val {D : Nat} {x : Qt} (h : x.den ∣ D) : ((wholeI D x : Int) : Qt) = (D : Qt) * x := by
 obtain ⟨k, rfl⟩ := h; unfold wholeI; have hd : (x.den : Int) ≠ 0 := by have := x.den_pos; omega
 rw [Int.natCast_mul, Int.mul_tdiv_cancel_left _ hd, Rat.intCast_mul, Rat.natCast_mul]
 have e : x * (x.den : Qt) = (x.num : Qt) := by
  have h0 : ((x.den : Nat) : Qt) ≠ 0 := by
   have : (0 : Qt) < ((x.den : Nat) : Qt) := Rat.natCast_pos.2 x.den_pos
   grind
  have h1 : x = (x.num : Qt) / (x.den : Qt) := by
   rw [← Rat.mkRat_eq_div, Rat.mkRat_self]
  have h2 := Rat.div_mul_cancel (a := (x.num : Qt)) h0; rw [← h1] at h2; exact h2
 rw [← e]; show x * _ * ((k : Nat) : Qt) = _
 grind
def ovR (D : Nat) (P : List Int) : List Qt := P.map (fun x => mkRat x D)
def scI (P : List Int) : List Qt := ovR (lastI P).natAbs P
theorem ovR_len (D : Nat) (P : List Int) : (ovR D P).length = P.length := List.length_map _
theorem ovR_at {D : Nat} {P : List Int} {i : Nat} {x : Int} (h : P[i]? = some x) : (ovR D P)[i]? = some (mkRat x D) := by
 unfold ovR; rw [List.getElem?_map, h]; rfl
theorem ovR_take (D : Nat) (P : List Int) (k : Nat) : ovR D (P.take k) = (ovR D P).take k := by
 unfold ovR; rw [List.map_take]
theorem nz_rat {D : Nat} (h : D ≠ 0) : ((D : Nat) : Qt) ≠ 0 := by
 intro k; exact h (by exact_mod_cast k)
theorem mk_sign (x : Int) {D : Nat} (h : D ≠ 0) : (mkRat x D).num.sign = x.sign := by
 rw [Rat.num_mkRat, if_neg h, Nat.gcd_comm D x.natAbs]; have hg : 0 < Nat.gcd x.natAbs D := Nat.gcd_pos_of_pos_right _ (Nat.pos_of_ne_zero h); obtain ⟨k, hk⟩ : ((Nat.gcd x.natAbs D : Nat) : Int) ∣ x := Int.ofNat_dvd_left.2 (Nat.gcd_dvd_left _ _)
 have e : x / ((Nat.gcd x.natAbs D : Nat) : Int) = k := by
  conv => lhs; lhs; rw [hk]
  exact Int.mul_ediv_cancel_left _ (by omega)
 rw [e]
 conv => rhs; rw [hk]
 rw [Int.sign_mul, Int.sign_eq_one_of_pos (a := ((Nat.gcd x.natAbs D : Nat) : Int)) (by omega), Int.one_mul]
theorem mk_zero {x : Int} {D : Nat} (h : D ≠ 0) : (mkRat x D).num = 0 ↔ x = 0 := by
 rw [← Int.sign_eq_zero_iff_zero, mk_sign x h, Int.sign_eq_zero_iff_zero]
theorem mk_add (x y : Int) {D : Nat} (h : D ≠ 0) : mkRat x D + mkRat y D = mkRat (x + y) D := by
 have := nz_rat h; rw [Rat.mkRat_eq_div, Rat.mkRat_eq_div, Rat.mkRat_eq_div, Rat.intCast_add]
 grind
theorem mk_sub (x y : Int) {D : Nat} (h : D ≠ 0) : mkRat x D - mkRat y D = mkRat (x - y) D := by
 have := nz_rat h; rw [Rat.mkRat_eq_div, Rat.mkRat_eq_div, Rat.mkRat_eq_div, Rat.intCast_sub]
 grind
theorem mk_mul (x y : Int) {D E : Nat} (h : D ≠ 0) (k : E ≠ 0) : mkRat x D * mkRat y E = mkRat (x * y) (D * E) := by
 have := nz_rat h; have := nz_rat k; rw [Rat.mkRat_eq_div, Rat.mkRat_eq_div, Rat.mkRat_eq_div, Rat.intCast_mul, Rat.natCast_mul]
 grind
theorem mk_up (x : Int) {D E : Nat} (h : D ≠ 0) (k : E ≠ 0) : mkRat (x * (E : Int)) (D * E) = mkRat x D := by
 have := nz_rat h; have := nz_rat k; rw [Rat.mkRat_eq_div, Rat.mkRat_eq_div, Rat.intCast_mul, Rat.natCast_mul, Rat.intCast_natCast]
 grind
theorem mk_neg (x : Int) (D : Nat) : -mkRat x D = mkRat (-x) D := by
 rw [Rat.neg_mkRat]
theorem mk_lead (x : Int) {y : Int} {D : Nat} (h : D ≠ 0) (hy : y ≠ 0) : mkRat x D / mkRat y y.natAbs = mkRat (if y < 0 then -x else x) D := by
 have h0 : y.natAbs ≠ 0 := by omega
 have := nz_rat h; have hn := nz_rat h0; rw [Rat.mkRat_eq_div, Rat.mkRat_eq_div, Rat.mkRat_eq_div]
 split
 · rename_i k
   have e : ((y : Int) : Qt) = -((y.natAbs : Nat) : Qt) := by
    rw [← Rat.intCast_natCast, show ((y.natAbs : Nat) : Int) = -y by omega, Rat.intCast_neg]
    grind
   rw [e, Rat.intCast_neg]
   grind
 · rename_i k
   have e : ((y : Int) : Qt) = ((y.natAbs : Nat) : Qt) := by
    rw [← Rat.intCast_natCast, show ((y.natAbs : Nat) : Int) = y by omega]
   rw [e]
   grind
theorem rabs_mk (y : Int) {D : Nat} (h : D ≠ 0) : rabs (mkRat y D) = mkRat (y.natAbs : Int) D := by
 have e := mk_sign y h; unfold rabs
 split
 · rename_i k; rw [Int.sign_eq_neg_one_of_neg k] at e; have : y < 0 := by rcases Int.lt_trichotomy y 0 with q | q | q <;> first | exact q | (rw [q] at e; exact absurd e (by decide)) | (rw [Int.sign_eq_one_of_pos q] at e; exact absurd e (by decide))
   rw [mk_neg, show ((y.natAbs : Nat) : Int) = -y by omega]
 · rename_i k
   have : ¬ y < 0 := by
    intro q; rw [Int.sign_eq_neg_one_of_neg q] at e; rcases Int.lt_trichotomy (mkRat y D).num 0 with r | r | r
    · exact k r
    · rw [r] at e; exact absurd e (by decide)
    · rw [Int.sign_eq_one_of_pos r] at e; exact absurd e (by decide)
   rw [show ((y.natAbs : Nat) : Int) = y by omega]
theorem mk_scaled (x : Int) {y : Int} {D : Nat} (h : D ≠ 0) (hy : y ≠ 0) : mkRat x D / rabs (mkRat y D) = mkRat x y.natAbs := by
 have h0 : y.natAbs ≠ 0 := by omega
 have := nz_rat h; have hn := nz_rat h0; rw [rabs_mk y h, Rat.mkRat_eq_div, Rat.mkRat_eq_div, Rat.mkRat_eq_div, Rat.intCast_natCast]
 grind
theorem mk_step {R Q : List Int} {D : Nat} (hD : D ≠ 0) (hQ : lastI Q ≠ 0) (j : Nat) :
 (j < R.length - Q.length → mkRat (R.getD j 0) D = mkRat (nxtI R Q j) (D * (lastI Q).natAbs)) ∧
 (R.length - Q.length ≤ j → mkRat (R.getD j 0) D - mkRat (lastI R) D / mkRat (lastI Q) (lastI Q).natAbs * mkRat (Q.getD (j - (R.length - Q.length)) 0) (lastI Q).natAbs = mkRat (nxtI R Q j) (D * (lastI Q).natAbs)) := by
 have h0 : (lastI Q).natAbs ≠ 0 := by omega
 refine ⟨fun h => ?_, fun h => ?_⟩
 · rw [nxtI_low h, mk_up _ hD h0]
 · rw [nxtI_high h, mk_lead _ hD hQ, mk_mul _ _ hD h0, ← mk_up (R.getD j 0) hD h0, mk_sub _ _ (Nat.mul_ne_zero hD h0)]; rfl
theorem lastI_map {P : List Int} {f : Int → Int} (h : P ≠ []) : lastI (P.map f) = f (lastI P) := by
 have hp := List.length_pos_iff.2 h; unfold lastI; rw [List.length_map, List.getD_eq_getElem?_getD, List.getElem?_map, List.getElem?_eq_getElem (by omega), List.getD_eq_getElem?_getD, List.getElem?_eq_getElem (by omega)]
 rfl
theorem scI_small {P : List Int} (h : Trim P) : scI (smallI P) = scI P := by
 unfold smallI
 split
 · rfl
 · rename_i hg; rcases h with rfl | h
   · rfl
   have hne : P ≠ [] := by rintro rfl; exact h rfl
   unfold scI ovR; rw [lastI_map hne, List.map_map]; refine List.map_congr_left (fun x hx => ?_)
   have hl : lastI P ∈ P := by
    have hp := List.length_pos_iff.2 hne; unfold lastI; rw [List.getD_eq_getElem?_getD, List.getElem?_eq_getElem (by omega)]
    exact List.getElem_mem _
   obtain ⟨k, hk⟩ := gcdI_dvd hx; obtain ⟨m, hm⟩ := gcdI_dvd hl; have g0 : ((gcdI P : Nat) : Int) ≠ 0 := by omega
   have m0 : m ≠ 0 := by rintro rfl; rw [Int.mul_zero] at hm; exact h hm
   show mkRat (x.tdiv _) ((lastI P).tdiv _).natAbs = _
   rw [hm, Int.mul_tdiv_cancel_left _ g0, hk, Int.mul_tdiv_cancel_left _ g0, Int.natAbs_mul, Int.natAbs_natCast]; have := mk_up k (D := m.natAbs) (E := gcdI P) (by omega) hg
   rw [← this, Int.mul_comm k, Nat.mul_comm m.natAbs]
theorem whole_mk {D : Nat} {x : Qt} (h : x.den ∣ D) (hD : D ≠ 0) : mkRat (wholeI D x) D = x := by
 have := nz_rat hD; rw [Rat.mkRat_eq_div, wholeI_val h]
 grind
theorem ovR_whole {D : Nat} {l : List Qt} (h : ∀ x ∈ l, x.den ∣ D) (hD : D ≠ 0) : ovR D (l.map (wholeI D)) = l := by
 unfold ovR; rw [List.map_map]
 conv => rhs; rw [← List.map_id l]
 exact List.map_congr_left (fun x hx => whole_mk (h x hx) hD)
theorem inv_boundQ {p q : List Int} (h : InvC 130 p q) (hq : q ≠ []) : growF 130 p.length + (p.length + 1 - q.length) * (growF 130 (p.length - 1) + 1) ≤ 17000000000 := by
 obtain ⟨h1, h2, -, -⟩ := h; have hq0 : 0 < q.length := List.length_pos_iff.2 hq; have h3 : p.length + 1 - q.length ≤ p.length := by omega
 refine Nat.le_trans (Nat.add_le_add_left (Nat.mul_le_mul_right _ h3) _) ?_
 generalize p.length = n at *; have hn : 2 ≤ n := by omega
 have hc : ∀ n, n < 18 → 2 ≤ n → growF 130 n + n * (growF 130 (n - 1) + 1) ≤ 17000000000 := by decide
 exact hc n (by omega) hn
theorem start_boundQ {p q : List Int} (h : StartC 130 p q) : 130 + (p.length + 1 - q.length) * (130 + 1) ≤ 17000000000 := by
 obtain ⟨h1, -, -, -⟩ := h; have : (p.length + 1 - q.length) * (130 + 1) ≤ 18 * 131 := Nat.mul_le_mul_right _ (by omega)
 omega
def Oz (T R B : Nat) (w : World) (a : Option Addr) (n cap : Nat) (k : Nat → Nat) (f : Nat → Qt) : Prop :=
 n ≤ cap ∧ (0 < n → ∃ g off C, a = some ⟨g, off, none⟩ ∧ w.heap[g]? = some (.cells C T (0, 0)) ∧ ∀ i, i < n → C[off + i]? = some (.pointer (some ⟨k i, 0, none⟩)) ∧ B ≤ k i ∧ Ra R w (k i) (f i)) ∧ ∀ i j, i < n → j < n → k i = k j → i = j
section
variable {T R B : Nat} {w w' : World} {a : Option Addr} {n cap : Nat} {k : Nat → Nat} {f : Nat → Qt}
theorem Oz.rw (h : Oz T R B w a n cap k f) {l : List Qt} (hl : l.length = n) (hf : ∀ i x, l[i]? = some x → f i = x) : Rw T (ER R) w (.slice a n cap) l := by
 obtain ⟨h1, h2, -⟩ := h; subst hl; refine ⟨a, cap, rfl, h1, fun h0 => ?_⟩
 obtain ⟨g, off, C, ha, hg, hc⟩ := h2 h0; refine ⟨g, off, C, ha, hg, fun i x hx => ?_⟩
 obtain ⟨hi, -⟩ := List.getElem?_eq_some_iff.1 hx; obtain ⟨c1, -, c3⟩ := hc i hi; rw [hf i x hx] at c3; exact ⟨_, c1, _, rfl, c3⟩
theorem Oz.take (h : Oz T R B w a n cap k f) {m : Nat} (hm : m ≤ n) : Oz T R B w a m cap k f := by
 obtain ⟨h1, h2, h3⟩ := h; refine ⟨by omega, fun h0 => ?_, fun i j hi hj => h3 i j (by omega) (by omega)⟩
 obtain ⟨g, off, C, ha, hg, hc⟩ := h2 (by omega)
 exact ⟨g, off, C, ha, hg, fun i hi => hc i (by omega)⟩
theorem Oz.below (h : Oz T R B w a n cap k f) (b : Below w.heap.size w w') : Oz T R B w' a n cap k f := by
 obtain ⟨h1, h2, h3⟩ := h; refine ⟨h1, fun h0 => ?_, h3⟩
 obtain ⟨g, off, C, ha, hg, hc⟩ := h2 h0; refine ⟨g, off, C, ha, (b.block g (lt_of_block hg)).trans hg, fun i hi => ?_⟩
 obtain ⟨c1, c2, c3⟩ := hc i hi; exact ⟨c1, c2, c3.below b⟩
theorem Oz.weak (h : Oz T R B w a n cap k f) {f' : Nat → Qt} (hf : ∀ i, i < n → f' i = f i) : Oz T R B w a n cap k f' := by
 obtain ⟨h1, h2, h3⟩ := h; refine ⟨h1, fun h0 => ?_, h3⟩
 obtain ⟨g, off, C, ha, hg, hc⟩ := h2 h0; refine ⟨g, off, C, ha, hg, fun i hi => ?_⟩
 rw [hf i hi]; exact hc i hi
theorem Oz.at (h : Oz T R B w a n cap k f) {i : Nat} (hi : i < n) : ∃ g off, a = some ⟨g, off, none⟩ ∧ g < w.heap.size ∧ w.cell? ⟨g, off + i, none⟩ = some (.pointer (some ⟨k i, 0, none⟩)) ∧ B ≤ k i ∧ Ra R w (k i) (f i) := by
 obtain ⟨h1, h2, h3⟩ := h; obtain ⟨g, off, C, ha, hg, hc⟩ := h2 (by omega)
 obtain ⟨c1, c2, c3⟩ := hc i hi; exact ⟨g, off, ha, lt_of_block hg, by rw [cell_of_block hg]; exact c1, c2, c3⟩
def upQ (f : Nat → Qt) (j : Nat) (x : Qt) : Nat → Qt := fun i => if i = j then x else f i
theorem Oz.turn (hT : T ≠ 190) (hR : R ≠ T) (h : Oz T R B w a n cap k f) {j : Nat} {x : Qt} (hj : j < n) (kp : Keeps w.heap.size [k j] w w') (hx : Ra R w' (k j) x) : Oz T R B w' a n cap k (upQ f j x) := by
 obtain ⟨h1, h2, h3⟩ := h; refine ⟨h1, fun h0 => ?_, h3⟩
 obtain ⟨g, off, C, ha, hg, hc⟩ := h2 h0; obtain ⟨-, -, rj⟩ := hc j hj; obtain ⟨_, _, bj, -⟩ := rj; have hb : Bk w g C.toList T := ⟨hg, hT⟩
 have hgk : g ≠ k j := fun e => by
  have := bj.ne hb hR; exact this e.symm
 refine ⟨g, off, C, ha, (kp.block g (lt_of_block hg) (by simpa using hgk)).trans hg, fun i hi => ?_⟩
 obtain ⟨c1, c2, c3⟩ := hc i hi; refine ⟨c1, c2, ?_⟩
 unfold upQ; by_cases hij : i = j
 · rw [if_pos hij, hij]; exact hx
 · rw [if_neg hij]; exact c3.keep bj kp (fun e => hij (h3 i j hi hj e))
end
def EP (R : Nat) (w : World) (u : Value) (x : Nat × Qt) : Prop := u = .pointer (some ⟨x.1, 0, none⟩) ∧ Ra R w x.1 x.2
theorem eok_EP {R T : Nat} (hT : T ≠ 190) (hR : R ≠ T) : EOk T (EP R) where
 ne := hT
 below := by
  rintro w w' u x ⟨rfl, h⟩ b; exact ⟨rfl, h.below b⟩
 keep := by
  rintro w w' g C u x hg kp ⟨rfl, h⟩; exact ⟨rfl, h.keepO hg kp hT hR⟩
 one := by
  rintro w u x ⟨rfl, h⟩; rfl
theorem pair_lt {l : List (Nat × Qt)} (h : l.Pairwise (fun x y => x.1 < y.1)) {i j : Nat} (hi : i < l.length) (hj : j < l.length) (e : (l.getD i (0, 0)).1 = (l.getD j (0, 0)).1) : i = j := by
 rw [List.pairwise_iff_getElem] at h; rw [List.getD_eq_getElem?_getD, List.getElem?_eq_getElem hi, List.getD_eq_getElem?_getD, List.getElem?_eq_getElem hj] at e; simp only [Option.getD_some] at e; rcases Nat.lt_trichotomy i j with k | k | k
 · have := h i j hi hj k; omega
 · exact k
 · have := h j i hj hi k; omega
theorem Ox.oz {T R B base : Nat} {w : World} {a : Option Addr} {n cap : Nat} {l : List (Nat × Qt)} (h : Ox T (EP R) base w (.slice a n cap) l) (hn : n = l.length) (hp : l.Pairwise (fun x y => x.1 < y.1)) (hB : ∀ x ∈ l, B ≤ x.1) :
 Oz T R B w a n cap (fun i => (l.getD i (0, 0)).1) (fun i => (l.getD i (0, 0)).2) := by
 obtain ⟨a', cap', h1, h2, h3⟩ := h.rw; simp only [Value.slice.injEq] at h1; obtain ⟨rfl, -, rfl⟩ := h1; subst hn; refine ⟨h2, fun h0 => ?_, fun i j hi hj e => pair_lt hp hi hj e⟩
 obtain ⟨g, off, C, ha, hg, hc⟩ := h3 h0; refine ⟨g, off, C, ha, hg, fun i hi => ?_⟩
 have hx := List.getElem?_eq_getElem hi; obtain ⟨u, c1, rfl, c3⟩ := hc i _ hx; have e : l.getD i (0, 0) = l[i] := by rw [List.getD_eq_getElem?_getD, hx]; rfl
 show C[off + i]? = some (.pointer (some ⟨(l.getD i (0, 0)).1, 0, none⟩)) ∧ B ≤ (l.getD i (0, 0)).1 ∧ Ra R w (l.getD i (0, 0)).1 (l.getD i (0, 0)).2
 rw [e]; exact ⟨c1, hB _ (List.getElem_mem hi), c3⟩
theorem Ox.plt {T R base : Nat} {w : World} {v : Value} {l : List (Nat × Qt)} (h : Ox T (EP R) base w v l) {x : Nat × Qt} (hx : x ∈ l) : x.1 < w.heap.size := by
 obtain ⟨xs, -, h3⟩ := h; obtain ⟨i, hi⟩ := List.getElem?_of_mem hx; obtain ⟨u, -, -, hr⟩ := h3 i x hi; exact hr.lt
end Go.Proofs.YthjeejnggpjnjaaGreatDoor
