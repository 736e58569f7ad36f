/- A part: CS, CT. -/
import Derived.Test.YthjeejnggpjnjaaGreatDoorZA23
set_option linter.unusedSimpArgs false
set_option linter.unusedVariables false
set_option maxRecDepth 100000
set_option maxHeartbeats 16000000
set_option synthInstance.maxHeartbeats 2000000
set_option synthInstance.maxSize 100000
namespace Go.Proofs.YthjeejnggpjnjaaGreatDoor
open Go.RowKit
def Rn (w : World) (g n : Nat) (f : Nat → Option (_root_.Rat × _root_.Rat)) : Prop :=
 ∃ C : Array Value, w.heap[g]? = some (.cells C 82 (0, 0)) ∧ C.size = n * 2 ∧ ∀ i, i < n → ∃ u v, C[i * 2]? = some u ∧ C[i * 2 + 1]? = some v ∧ ∀ x, f i = some x → ∃ a b, u = .pointer (some ⟨a, 0, none⟩) ∧ v = .pointer (some ⟨b, 0, none⟩) ∧ Ra 88 w a x.1 ∧ Ra 88 w b x.2
theorem Rn.lt {w : World} {g n : Nat} {f : Nat → Option (_root_.Rat × _root_.Rat)} (h : Rn w g n f) : g < w.heap.size := by
 obtain ⟨C, h1, -⟩ := h; exact lt_of_block h1
theorem Rn.below {w w' : World} {g n : Nat} {f : Nat → Option (_root_.Rat × _root_.Rat)} (h : Rn w g n f) (b : Below w.heap.size w w') : Rn w' g n f := by
 obtain ⟨C, h1, h2, h3⟩ := h; refine ⟨C, (b.block g (lt_of_block h1)).trans h1, h2, fun i hi => ?_⟩
 obtain ⟨u, v, q1, q2, q3⟩ := h3 i hi; refine ⟨u, v, q1, q2, fun x hx => ?_⟩
 obtain ⟨a, b', r1, r2, r3, r4⟩ := q3 x hx; exact ⟨a, b', r1, r2, r3.below b, r4.below b⟩
theorem Rn.at {w : World} {g n i : Nat} {f : Nat → Option (_root_.Rat × _root_.Rat)} (h : Rn w g n f) (hi : i < n) {x : _root_.Rat × _root_.Rat} (hx : f i = some x) : ∃ a b, w.cell? ⟨g, i * 2, none⟩ = some (.pointer (some ⟨a, 0, none⟩)) ∧ w.cell? ⟨g, i * 2 + 1, none⟩ = some (.pointer (some ⟨b, 0, none⟩)) ∧ Ra 88 w a x.1 ∧ Ra 88 w b x.2 := by
 obtain ⟨C, h1, h2, h3⟩ := h; obtain ⟨u, v, q1, q2, q3⟩ := h3 i hi; obtain ⟨a, b, rfl, rfl, r3, r4⟩ := q3 x hx; exact ⟨a, b, by rw [cell_of_block h1]; exact q1, by rw [cell_of_block h1]; exact q2, r3, r4⟩
theorem Rn.slot {w : World} {g n i : Nat} {f : Nat → Option (_root_.Rat × _root_.Rat)} (h : Rn w g n f) (hi : i < n) : (∃ u v, w.cell? ⟨g, i * 2, none⟩ = some u ∧ w.cell? ⟨g, i * 2 + 1, none⟩ = some v) ∧ ∀ k, w.frozen? ⟨g, k, none⟩ = false := by
 obtain ⟨C, h1, h2, h3⟩ := h; obtain ⟨u, v, q1, q2, -⟩ := h3 i hi; exact ⟨⟨u, v, by rw [cell_of_block h1]; exact q1, by rw [cell_of_block h1]; exact q2⟩, fun k => free_of_block h1 k⟩
def updN (f : Nat → Option (_root_.Rat × _root_.Rat)) (i : Nat) (x : _root_.Rat × _root_.Rat) : Nat → Option (_root_.Rat × _root_.Rat) := fun j => if j = i then some x else f j
theorem Rn.put {w : World} {g n i a b : Nat} {f : Nat → Option (_root_.Rat × _root_.Rat)} {x : _root_.Rat × _root_.Rat} (h : Rn w g n f) (hi : i < n) (ha : Ra 88 w a x.1) (hb : Ra 88 w b x.2) : Rn ((w.setCell ⟨g, i * 2, none⟩ (.pointer (some ⟨a, 0, none⟩))).setCell ⟨g, i * 2 + 1, none⟩ (.pointer (some ⟨b, 0, none⟩))) g n (updN f i x) := by
 obtain ⟨C, h1, h2, h3⟩ := h; have kp : Keeps w.heap.size [g] w ((w.setCell ⟨g, i * 2, none⟩ (.pointer (some ⟨a, 0, none⟩))).setCell ⟨g, i * 2 + 1, none⟩ (.pointer (some ⟨b, 0, none⟩))) := ((Keeps.refl _ _ _).set (Or.inl (List.mem_singleton.2 rfl)) _ _).set (Or.inl (List.mem_singleton.2 rfl)) _ _; refine ⟨(C.setIfInBounds (i * 2) _).setIfInBounds (i * 2 + 1) _, set_of_block (set_of_block h1 _ _) _ _, by rw [Array.size_setIfInBounds, Array.size_setIfInBounds]; exact h2, fun j hj => ?_⟩
 obtain ⟨u, v, q1, q2, q3⟩ := h3 j hj; by_cases hij : j = i
 · subst hij; refine ⟨.pointer (some ⟨a, 0, none⟩), .pointer (some ⟨b, 0, none⟩), ?_, ?_, fun y hy => ?_⟩
   · rw [Array.getElem?_setIfInBounds, if_neg (by omega), Array.getElem?_setIfInBounds, if_pos rfl, if_pos (by omega)]
   · rw [Array.getElem?_setIfInBounds, if_pos rfl, if_pos (by rw [Array.size_setIfInBounds]; omega)]
   · unfold updN at hy; rw [if_pos rfl] at hy; obtain rfl := Option.some.inj hy; exact ⟨a, b, rfl, rfl, ha.keepO h1 kp (by decide) (by decide), hb.keepO h1 kp (by decide) (by decide)⟩
 · refine ⟨u, v, ?_, ?_, fun y hy => ?_⟩
   · rw [Array.getElem?_setIfInBounds, if_neg (by omega), Array.getElem?_setIfInBounds, if_neg (by omega)]; exact q1
   · rw [Array.getElem?_setIfInBounds, if_neg (by omega), Array.getElem?_setIfInBounds, if_neg (by omega)]; exact q2
   · unfold updN at hy; rw [if_neg hij] at hy; obtain ⟨c, d, r1, r2, r3, r4⟩ := q3 y hy; exact ⟨c, d, r1, r2, r3.keepO h1 kp (by decide) (by decide), r4.keepO h1 kp (by decide) (by decide)⟩
theorem Rn.weak {w : World} {g n : Nat} {f f' : Nat → Option (_root_.Rat × _root_.Rat)} (h : Rn w g n f) (k : ∀ i x, i < n → f' i = some x → f i = some x) : Rn w g n f' := by
 obtain ⟨C, h1, h2, h3⟩ := h; refine ⟨C, h1, h2, fun i hi => ?_⟩
 obtain ⟨u, v, q1, q2, q3⟩ := h3 i hi; exact ⟨u, v, q1, q2, fun x hx => q3 x (k i x hi hx)⟩
theorem info82z : (Tryz.prog.info? 82).map (fun i => (i.zero, i.size, i.bytes)) = some (some (.agg #[.pointer none, .pointer none]), 2, 16) := by kernel_rfl
theorem und155z : Tryz.prog.underlying 155 = some (.slice 82) := by kernel_rfl
theorem make_n {ops : Array Oper} {rest : List Oper} {o : Oper} {a : Act} {Q : Exit → Act → World → Prop} (w : World) (hg : o.guard = none) (l c : Operand) (hop : o.op = Op.makeSlice 155 l c)
 (L : Int) (n : Nat) (hl : a.eval l = .int .i64 L) (hc : a.eval c = .int .i64 L) (hL : L = (n : Int)) (hn : n ≤ 1048576)
 (hK : ∀ w1, Rn w1 w.heap.size n (fun _ => none) → Kp0 w w1 → wpList Tryz.prog ops Q rest (a.put o.dst (.slice (some ⟨w.heap.size, 0, none⟩) n n)) w1) :
 wpList Tryz.prog ops Q (o :: rest) a w := by
 obtain ⟨ti, hti, htz, hts, htb⟩ := info_parts info82z; refine wpList_make_full w hg l c 155 hop w.heap.size 82 ti _ 2 und155z hti htz hts .i64 .i64 L L n hl hc hL hL (by rw [htb]; omega) (by unfold maxLen; omega) (Nat.le_refl _) (fun w1 hown hgrow => ?_)
 refine hK w1 ?_ ⟨Keeps.below ⟨hgrow.os, hgrow.tape, hgrow.output, hgrow.size, fun k hk _ => hgrow.block k hk (by simp)⟩⟩
 rcases hown.2 with ⟨h0, -⟩ | ⟨k, cap, cur, he, hgk, hb, h1, h2, h3, h4⟩
 · cases h0
 · simp only [Value.slice.injEq, Option.some.injEq, Addr.mk.injEq] at he; obtain ⟨⟨rfl, -, -⟩, -, rfl⟩ := he; have hs : cur.size = n * 2 := h3; refine ⟨cur, hb, hs, fun i hi => ⟨cur[i * 2], cur[i * 2 + 1], Array.getElem?_eq_getElem (by omega), Array.getElem?_eq_getElem (by omega), fun x hx => by cases hx⟩⟩
def mulN (x y : _root_.Rat × _root_.Rat) : _root_.Rat × _root_.Rat := (x.1 * y.1 - x.2 * y.2, x.1 * y.2 + x.2 * y.1)
def addN (x y : _root_.Rat × _root_.Rat) : _root_.Rat × _root_.Rat := (x.1 + y.1, x.2 + y.2)
def firstN (A : List (_root_.Rat × _root_.Rat)) (F : _root_.Rat × _root_.Rat) (k : Nat) : _root_.Rat × _root_.Rat := if k < A.length then addN (0, 0) (mulN (A.getD k (0, 0)) F) else (0, 0)
def roundN (A : List (_root_.Rat × _root_.Rat)) (F S : _root_.Rat × _root_.Rat) (k : Nat) : _root_.Rat × _root_.Rat := if 0 < k then addN (firstN A F k) (mulN (A.getD (k - 1) (0, 0)) S) else firstN A F k
def nextN (A : List (_root_.Rat × _root_.Rat)) (F S c : _root_.Rat × _root_.Rat) : List (_root_.Rat × _root_.Rat) := addN (roundN A F S 0) c :: (List.range A.length).map (fun k => roundN A F S (k + 1))
def alongN (F S : _root_.Rat × _root_.Rat) (l : List (Nat × Nat)) : List (_root_.Rat × _root_.Rat) := l.foldr (fun c A => nextN A F S (frat c.1, frat c.2)) []
theorem nextN_len (A : List (_root_.Rat × _root_.Rat)) (F S c : _root_.Rat × _root_.Rat) : (nextN A F S c).length = A.length + 1 := by unfold nextN; rw [List.length_cons, List.length_map, List.length_range]
theorem nextN_at (A : List (_root_.Rat × _root_.Rat)) (F S c : _root_.Rat × _root_.Rat) {i : Nat} (hi : i < A.length + 1) : (nextN A F S c)[i]? = some (if i = 0 then addN (roundN A F S 0) c else roundN A F S i) := by
 rcases i with _ | i
 · rfl
 · unfold nextN; rw [List.getElem?_cons_succ, List.getElem?_map, List.getElem?_range (by omega)]
   rfl
theorem alongN_len (F S : _root_.Rat × _root_.Rat) (l : List (Nat × Nat)) : (alongN F S l).length = l.length := by
 induction l with
 | nil => rfl
 | cons c l ih =>
   show (nextN (alongN F S l) F S _).length = _
   rw [nextN_len, ih, List.length_cons]
theorem alongN_drop {F S : _root_.Rat × _root_.Rat} {l : List (Nat × Nat)} {j : Nat} {c : Nat × Nat} (h : l[j]? = some c) : alongN F S (l.drop j) = nextN (alongN F S (l.drop (j + 1))) F S (frat c.1, frat c.2) := by
 obtain ⟨hj, rfl⟩ := List.getElem?_eq_some_iff.1 h; rw [List.drop_eq_getElem_cons hj]; rfl
def DyN (E M : Nat) (x : _root_.Rat × _root_.Rat) : Prop := Dy E M x.1 ∧ Dy E M x.2
theorem DyN.mul {E M E' M' : Nat} {x y : _root_.Rat × _root_.Rat} (h : DyN E M x) (k : DyN E' M' y) : DyN (E + E') (M + M' + 1) (mulN x y) := ⟨(h.1.mul k.1).sub (h.2.mul k.2), (h.1.mul k.2).add (h.2.mul k.1)⟩
theorem DyN.add {E M : Nat} {x y : _root_.Rat × _root_.Rat} (h : DyN E M x) (k : DyN E M y) : DyN E (M + 1) (addN x y) := ⟨h.1.add k.1, h.2.add k.2⟩
theorem DyN.mono {E M M' : Nat} {x : _root_.Rat × _root_.Rat} (h : DyN E M x) (hM : M ≤ M') : DyN E M' x := ⟨h.1.mono hM, h.2.mono hM⟩
theorem DyN.up {E M : Nat} {x : _root_.Rat × _root_.Rat} (h : DyN E M x) (k : Nat) : DyN (E + k) (M + k) x := ⟨h.1.up k, h.2.up k⟩
theorem DyN.zero (E M : Nat) (h : E ≤ M) : DyN E M (0, 0) := by
 have := (Dy.zero.up E).mono (M' := M) (by omega)
 rw [Nat.zero_add] at this; exact ⟨this, this⟩
theorem roundN_dy {m : Nat} {A : List (_root_.Rat × _root_.Rat)} {F S : _root_.Rat × _root_.Rat} (hA : ∀ x ∈ A, DyN (92 * m) (150 * m) x) (hF : DyN 92 140 F) (hS : DyN 92 140 S) (k : Nat) : DyN (92 * m + 92) (150 * m + 145) (roundN A F S k) := by
 have hg : ∀ i, DyN (92 * m) (150 * m) (A.getD i (0, 0)) := by
  intro i; rw [List.getD_eq_getElem?_getD]; cases h : A[i]? with
  | none => exact DyN.zero _ _ (by omega)
  | some x => exact hA x (List.mem_of_getElem? h)
 have hz : DyN (92 * m + 92) (150 * m + 141) (0, 0) := DyN.zero _ _ (by omega)
 have hf : DyN (92 * m + 92) (150 * m + 142) (firstN A F k) := by
  unfold firstN
  split
  · exact hz.add ((hg k).mul hF)
  · exact hz.mono (by omega)
 unfold roundN
 split
 · exact (hf.add (((hg (k - 1)).mul hS).mono (by omega))).mono (by omega)
 · exact hf.mono (by omega)
theorem alongN_dy {F S : _root_.Rat × _root_.Rat} (hF : DyN 92 140 F) (hS : DyN 92 140 S) {l : List (Nat × Nat)} (hl : ∀ c ∈ l, DyN 92 140 (frat c.1, frat c.2)) : ∀ x ∈ alongN F S l, DyN (92 * l.length) (150 * l.length) x := by
 induction l with
 | nil => intro x hx; cases hx
 | cons c l ih =>
   intro x hx; have hA := ih (fun c' h' => hl c' (List.mem_cons_of_mem _ h'))
   have hc := hl c List.mem_cons_self; have e1 : 92 * (c :: l).length = 92 * l.length + 92 := by rw [List.length_cons]; omega
   have e2 : 150 * (c :: l).length = 150 * l.length + 150 := by rw [List.length_cons]; omega
   rw [e1, e2]
   have hc2 : DyN (92 * l.length + 92) (150 * l.length + 145) (frat c.1, frat c.2) := by
    have := hc.up (92 * l.length); rw [Nat.add_comm 92] at this; exact this.mono (by omega)
   rcases List.mem_cons.1 hx with rfl | hx
   · exact ((roundN_dy hA hF hS 0).add hc2).mono (by omega)
   · obtain ⟨k, -, rfl⟩ := List.mem_map.1 hx; exact (roundN_dy hA hF hS (k + 1)).mono (by omega)
theorem alongN_sm {F S : _root_.Rat × _root_.Rat} (hF : DyN 92 140 F) (hS : DyN 92 140 S) {l : List (Nat × Nat)} (hn : l.length ≤ 17) (hl : ∀ c ∈ l, DyN 92 140 (frat c.1, frat c.2)) : ∀ x ∈ alongN F S l, SmC x.1 81 ∧ SmC x.2 81 := by
 intro x hx; obtain ⟨h1, h2⟩ := alongN_dy hF hS hl x hx; exact ⟨⟨Nat.le_trans h1.num (by omega), Nat.le_trans h1.den (by omega)⟩, ⟨Nat.le_trans h2.num (by omega), Nat.le_trans h2.den (by omega)⟩⟩
end Go.Proofs.YthjeejnggpjnjaaGreatDoor
