/- A part: CI, CJ, CK, CL. -/
import Derived.Test.YthjeejnggpjnjaaGreatDoorZY16
set_option linter.unusedSimpArgs false
set_option linter.unusedVariables false
set_option maxRecDepth 100000
set_option maxHeartbeats 16000000
set_option synthInstance.maxHeartbeats 2000000
set_option synthInstance.maxSize 100000
namespace Go.Proofs.YthjeejnggpjnjaaGreatDoor
open Go.RowKit
def lastI (l : List Int) : Int := l.getD (l.length - 1) 0
def topI (r q : List Int) : Int := if lastI q < 0 then -lastI r else lastI r
def nxtI (r q : List Int) (i : Nat) : Int := r.getD i 0 * ((lastI q).natAbs : Int) - (if r.length - q.length ≤ i then topI r q * q.getD (i - (r.length - q.length)) 0 else 0)
def nextI (r q : List Int) : List Int := (List.range (r.length - 1)).map (nxtI r q)
def remI : Nat → List Int → List Int → List Int
 | 0, r, _ => r
 | k + 1, r, q => if q.length ≤ r.length then remI k (cutI (nextI r q)) q else r
def lessI (p q : List Int) : List Int := smallI ((remI (p.length + 1) p q).map (fun x => -x))
theorem nextI_len (r q : List Int) : (nextI r q).length = r.length - 1 := by unfold nextI; rw [List.length_map, List.length_range]
theorem nextI_at {r q : List Int} {i : Nat} (h : i < r.length - 1) : (nextI r q)[i]? = some (nxtI r q i) := by
 unfold nextI; rw [List.getElem?_map, List.getElem?_range h]; rfl
theorem getD_at {l : List Int} {i : Nat} {x : Int} (h : l[i]? = some x) : l.getD i 0 = x := by rw [List.getD_eq_getElem?_getD, h]; rfl
theorem nxtI_low {r q : List Int} {i : Nat} (h : i < r.length - q.length) : nxtI r q i = r.getD i 0 * ((lastI q).natAbs : Int) := by
 unfold nxtI; rw [if_neg (by omega), Int.sub_zero]
theorem nxtI_high {r q : List Int} {i : Nat} (h : r.length - q.length ≤ i) : nxtI r q i = r.getD i 0 * ((lastI q).natAbs : Int) - topI r q * q.getD (i - (r.length - q.length)) 0 := by
 unfold nxtI; rw [if_pos h]
theorem getD_len {L : Nat} {l : List Int} (h : SzI L l) (i : Nat) : (words (l.getD i 0).natAbs).length ≤ L := by
 rw [List.getD_eq_getElem?_getD]; cases hx : l[i]? with
 | none =>
   rw [Option.getD_none, show (0 : Int).natAbs = 0 from rfl, words_0]
   exact Nat.zero_le _
 | some x => exact h.at hx
theorem mulI_len {x y : Int} {L M : Nat} (hx : (words x.natAbs).length ≤ L) (hy : (words y.natAbs).length ≤ M) : (words (x * y).natAbs).length ≤ L + M := by
 rw [Int.natAbs_mul]; exact Nat.le_trans (mul_len _ _) (Nat.add_le_add hx hy)
theorem subI_len {x y : Int} {k : Nat} (hx : (words x.natAbs).length ≤ k) (hy : (words y.natAbs).length ≤ k) : (words (x - y).natAbs).length ≤ k + 1 := by
 rw [Int.sub_eq_add_neg]; exact addI_len hx (by rw [Int.natAbs_neg]; exact hy)
theorem topI_len {L : Nat} {r q : List Int} (h : SzI L r) : (words (topI r q).natAbs).length ≤ L := by
 unfold topI
 split
 · rw [Int.natAbs_neg]; exact getD_len h _
 · exact getD_len h _
theorem SzI.next {L M : Nat} {r q : List Int} (h : SzI L r) (k : SzI M q) : SzI (L + (M + 1)) (nextI r q) := by
 intro x hx; obtain ⟨i, -, rfl⟩ := List.mem_map.1 hx; unfold nxtI; have h1 : (words (r.getD i 0 * ((lastI q).natAbs : Int)).natAbs).length ≤ L + M := mulI_len (getD_len h i) (by rw [Int.natAbs_natCast]; exact getD_len k _)
 rw [← Nat.add_assoc]; refine subI_len h1 ?_
 split
 · exact mulI_len (topI_len h) (getD_len k _)
 · rw [show (0 : Int).natAbs = 0 from rfl, words_0]
   exact Nat.zero_le _
theorem remI_len : ∀ (k : Nat) (r q : List Int), r.length < k → (remI k r q).length < q.length ∨ q.length = 0 := by
 intro k
 induction k with
 | zero => intro r q h; omega
 | succ k ih =>
   intro r q h; rw [remI]; by_cases hq : q.length ≤ r.length
   · rw [if_pos hq]; by_cases h0 : q.length = 0
     · exact Or.inr h0
     · refine ih _ q ?_
       have := cutI_len (nextI r q); rw [nextI_len] at this; omega
   · rw [if_neg hq]; exact Or.inl (by omega)
theorem SzI.neg {L : Nat} {l : List Int} (h : SzI L l) : SzI L (l.map (fun x => -x)) := by
 intro y hy; obtain ⟨x, hx, rfl⟩ := List.mem_map.1 hy; rw [Int.natAbs_neg]; exact h x hx
def negT (R : List Int) (i : Nat) : List Int := (R.take i).map (fun x => -x) ++ R.drop i
theorem negT_0 (R : List Int) : negT R 0 = R := by unfold negT; simp
theorem negT_all (R : List Int) : negT R R.length = R.map (fun x => -x) := by unfold negT; simp
theorem negT_len (R : List Int) (i : Nat) : (negT R i).length = R.length := by
 unfold negT; rw [List.length_append, List.length_map, List.length_take, List.length_drop]; omega
theorem negT_at {R : List Int} {i : Nat} {x : Int} (h : R[i]? = some x) : (negT R i)[i]? = some x := by
 obtain ⟨hi, -⟩ := List.getElem?_eq_some_iff.1 h; unfold negT; rw [List.getElem?_append_right (by rw [List.length_map, List.length_take]; omega), List.length_map, List.length_take, Nat.min_eq_left (by omega), Nat.sub_self, List.getElem?_drop, Nat.add_zero]
 exact h
theorem negT_next {R : List Int} {i : Nat} {x : Int} (h : R[i]? = some x) : negT R (i + 1) = (negT R i).set i (-x) := by
 obtain ⟨hi, hx⟩ := List.getElem?_eq_some_iff.1 h; unfold negT; have e : (List.map (fun x => -x) (List.take i R)).length = i := by rw [List.length_map, List.length_take]; omega
 rw [List.set_append_right _ _ (by omega), e, Nat.sub_self, List.drop_eq_getElem_cons hi, List.set_cons_zero, List.take_add_one, h, List.map_append]
 simp
theorem remI_stop {k : Nat} {r q : List Int} (hk : 0 < k) (h : ¬ q.length ≤ r.length) : remI k r q = r := by
 obtain ⟨j, rfl⟩ : ∃ j, k = j + 1 := ⟨k - 1, by omega⟩
 rw [remI, if_neg h]
theorem remI_step {k : Nat} {r q : List Int} (h : q.length ≤ r.length) : remI (k + 1) r q = remI k (cutI (nextI r q)) q := by rw [remI, if_pos h]
instance (priority := 100) setC_any (L : List Value) (i : Nat) (x : Value) : SetC L i x (L.set i x) := ⟨rfl⟩
instance notW160 : NotW 160 := ⟨by decide⟩
instance notW101 : NotW 101 := ⟨by decide⟩
class KG (v : World) (g : Nat) (W : World) : Prop where
 out : Keeps v.heap.size [g] v W
instance kg_refl (v : World) (g : Nat) : KG v g v := ⟨Keeps.refl _ _ _⟩
instance kg_alloc (v : World) (g : Nat) (W : World) (o : Obj) [h : KG v g W] : KG v g (W.alloc o) := ⟨h.out.alloc h.out.size o⟩
instance kg_drew (v : World) (g : Nat) (W : World) [h : KG v g W] : KG v g W.drew := ⟨h.out.drew⟩
instance kg_kp0 (v : World) (g : Nat) (W w' : World) [k : Kp0 W w'] [h : KG v g W] : KG v g w' := ⟨h.out.trans ((Keeps.of_below k.out).mono h.out.size (fun _ _ h => h))⟩
instance kg_kp1 (v : World) (g n : Nat) (W w' : World) [k : Kp1 W n w'] [h : KG v g W] [u : Up v.heap.size n] : KG v g w' := ⟨h.out.trans (k.out.mono h.out.size (fun q hq hn => by
 rw [List.mem_singleton] at hn; have := u.out
 omega))⟩
instance kg_set (v : World) (g i : Nat) (x : Value) (W : World) [h : KG v g W] : KG v g (W.setCell ⟨g, i, none⟩ x) := ⟨h.out.set (Or.inl (List.mem_singleton.2 rfl)) i x⟩
instance kg_setN (v : World) (g n i : Nat) (x : Value) (W : World) [h : KG v g W] [u : Up v.heap.size n] : KG v g (W.setCell ⟨n, i, none⟩ x) := ⟨h.out.set (Or.inr u.out) i x⟩
section
variable {α : Type} {T : Nat} {E : World → Value → α → Prop}
theorem Fl.bk {w : World} {g n j : Nat} {l : List α} (e : EOk T E) (h : Fl T E w g n l j) : ∃ L, Bk w g L T ∧ L.length = n ∧ ∀ (i : Nat) (x : α), i < j → l[i]? = some x → ∃ u, L[i]? = some u ∧ E w u x := by
 obtain ⟨C, h1, h2, h3⟩ := h; refine ⟨C.toList, ⟨h1, e.ne⟩, by rw [Array.length_toList]; exact h2, fun i x hi hx => ?_⟩
 obtain ⟨u, q1, q2⟩ := h3 i x hi hx; exact ⟨u, by rw [Array.getElem?_toList]; exact q1, q2⟩
theorem Fl.step (e : EOk T E) {w W : World} {g n j : Nat} {l : List α} {L : List Value} {u : Value} {x : α} (hb : Bk w g L T) (hn : L.length = n) (h : ∀ (i : Nat) (x : α), i < j → l[i]? = some x → ∃ u, L[i]? = some u ∧ E w u x) (hW : Bk W g (L.set j u) T) (kg : Keeps w.heap.size [g] w W) (hj : j < n) (hx : l[j]? = some x) (hu : E W u x) : Fl T E W g n l (j + 1) := by
 refine ⟨(L.set j u).toArray, hW.1, by simp [hn], fun i y hi hy => ?_⟩
 rw [List.getElem?_toArray, List.getElem?_set]; by_cases hij : j = i
 · subst hij; rw [if_pos rfl, if_pos (by omega)]
   rw [hx] at hy; exact ⟨u, rfl, (Option.some.inj hy) ▸ hu⟩
 · rw [if_neg hij]; obtain ⟨v, q1, q2⟩ := h i y (by omega) hy
   exact ⟨v, q1, e.keep hb.1 kg q2⟩
theorem Rw.step (e : EOk T E) {w W : World} {g off n cap i : Nat} {l : List α} {L : List Value} {u : Value} {x : α} (h : Rw T E w (.slice (some ⟨g, off, none⟩) n cap) l) (hb : Bk w g L T) (hi : i < n) (hW : Bk W g (L.set (off + i) u) T) (kg : Keeps w.heap.size [g] w W) (hu : E W u x) : Rw T E W (.slice (some ⟨g, off, none⟩) n cap) (l.set i x) := by
 obtain ⟨a, c, h1, h2, h3⟩ := h; simp only [Value.slice.injEq] at h1; obtain ⟨rfl, rfl, rfl⟩ := h1; obtain ⟨g', off', C, k1, k2, k3⟩ := h3 (by omega)
 simp only [Option.some.injEq, Addr.mk.injEq, and_true] at k1; obtain ⟨rfl, rfl⟩ := k1
 have hC : C = L.toArray := by
  have := k2.symm.trans hb.1; simp only [Option.some.injEq, Obj.cells.injEq] at this; exact this.1
 subst hC; refine ⟨_, _, by rw [List.length_set], by rw [List.length_set]; exact h2, fun _ => ⟨g, off, (L.set (off + i) u).toArray, rfl, hW.1, fun j y hy => ?_⟩⟩
 rw [List.getElem?_toArray, List.getElem?_set]; rw [List.getElem?_set] at hy; by_cases hij : i = j
 · subst hij; rw [if_pos rfl, if_pos hi] at hy; obtain ⟨z, q1, -⟩ := k3 i l[i] (List.getElem?_eq_getElem hi); rw [List.getElem?_toArray] at q1; obtain ⟨hlt, -⟩ := List.getElem?_eq_some_iff.1 q1; rw [if_pos rfl, if_pos hlt]; exact ⟨u, rfl, (Option.some.inj hy) ▸ hu⟩
 · rw [if_neg hij] at hy; rw [if_neg (by omega)]
   obtain ⟨v, q1, q2⟩ := k3 j y hy; rw [List.getElem?_toArray] at q1; exact ⟨v, q1, e.keep hb.1 kg q2⟩
theorem Rw.bk (e : EOk T E) {w : World} {g off n cap : Nat} {l : List α} (h : Rw T E w (.slice (some ⟨g, off, none⟩) n cap) l) (h0 : 0 < l.length) : ∃ L, Bk w g L T := by
 obtain ⟨a, c, h1, h2, h3⟩ := h; simp only [Value.slice.injEq] at h1; obtain ⟨rfl, rfl, rfl⟩ := h1; obtain ⟨g', off', C, k1, k2, -⟩ := h3 h0; simp only [Option.some.injEq, Addr.mk.injEq, and_true] at k1; obtain ⟨rfl, rfl⟩ := k1; exact ⟨C.toList, k2, e.ne⟩
end
theorem app_z {ops : Array Oper} {rest : List Oper} {o : Oper} {a : Act} {w : World} {Q : Exit → Act → World → Prop} (hgd : o.guard = none) (s x : Operand)
 (ho : o.op = .call { callee := .builtin .append, args := #[s, x], argTypes := #[101, 101] }) (base : Nat) {v : Value} {l m : List Int} (hs : a.eval s = v) (hown : Ox 160 EI base w v l)
 {ad : Option Addr} {k c : Nat} (hx : a.eval x = .slice ad k c) (hm : Rw 160 EI w (.slice ad k c) m) (h0 : 0 < m.length) (hlen : l.length + m.length ≤ 1048576) (hbase : base ≤ w.heap.size)
 (h : ∀ g cap n' w', n' = l.length + m.length → Ox 160 EI base w' (.slice (some ⟨g, 0, none⟩) n' cap) (l ++ m) → base ≤ g → (∀ v0 : World, v0.heap.size ≤ base → Below v0.heap.size v0 w → Below v0.heap.size v0 w') → (∀ u y, EI w u y → EI w' u y) → wpList Tryz.prog ops Q rest (a.put o.dst (.slice (some ⟨g, 0, none⟩) n' cap)) w') :
 wpList Tryz.prog ops Q (o :: rest) a w := by
 obtain ⟨ti, hti, htz, hts, htb⟩ := info_parts info160z; exact app_row eok_EI hgd s x 101 ho base ti _ 8 und101z hti htz hts htb rfl (by decide) hs hown hx hm h0 hlen hbase h
theorem getD_some {l : List Int} {i : Nat} (h : i < l.length) : l[i]? = some (l.getD i 0) := by
 rw [List.getElem?_eq_getElem h, List.getD_eq_getElem?_getD, List.getElem?_eq_getElem h]; rfl
theorem mulT {t P M L : Nat} (h : L + (P + 1) * (M + 1) ≤ 50000000000) (ht : t ≤ P) : L + t * (M + 1) ≤ 50000000000 :=
 Nat.le_trans (Nat.add_le_add_left (Nat.mul_le_mul_right _ (by omega)) _) h
theorem gaLessPos {w : World} {v1 v2 : Value} {p q : List Int} {L M : Nat} [hv : VrB w] (hp : Rw 160 EI w v1 p) (hq : Rw 160 EI w v2 q) (p0 : 0 < p.length) (q0 : 0 < q.length) (np : p.length ≤ 4096) (nq : q.length ≤ 4096) (sp : SzI L p) (sq : SzI M q) (hb : L + (p.length + 1) * (M + 1) ≤ 50000000000) (hs : ¬ lastI q < 0) :
 Calls Tryz.prog 113 #[v1, v2] w fun e w' => ∃ v', e = .returned v' ∧ Rw 160 EI w' v' (lessI p q) ∧ Kp0 w w' := by
 obtain ⟨a1, c1, rfl, hc1⟩ := hp.form; obtain ⟨a2, c2, rfl, hc2⟩ := hq.form; obtain ⟨m, hm⟩ : ∃ m, q.length = m + 1 := ⟨q.length - 1, by omega⟩
 have hlast : q[m]? = some (lastI q) := by
  have := getD_some (l := q) (i := m) (by omega)
  unfold lastI; rw [hm, Nat.add_sub_cancel]; exact this
 have HQ := hid hq; have HP := hid hp; have HM := hid hm; have HNQ := hid nq; have HP0 := hid p0; have HB := hid hb
 have HBm := hid (show M + 1 ≤ 50000000000 by
  have : 1 * (M + 1) ≤ (p.length + 1) * (M + 1) := Nat.mul_le_mul_right _ (by omega)
  omega)
 have HNP := hid np; have SP := hid sp; have SQ := hid sq; have LR := hid (show lessI p q = smallI ((remI (p.length + 1) p q).map (fun x => -x)) from rfl)
 obtain ⟨g2, off2, u2, rfl, hg2, cl, kh, rfl, hIh⟩ := hq.at hlast; haveI : Has w g2 := ⟨hg2⟩; haveI : InC w kh (lastI q) := ⟨hIh⟩; have KL := hid (Nat.le_trans (sq.at hlast) (show M ≤ 1099511627776 by have := HBm.out; omega))
 have KQ := hid (fun j : Nat => getD_len sq j)
 have e1 : ((m + 1 : Nat) : Int) - 1 = (m : Int) := by omega
 have hmI0 : (0 : Int) ≤ (m : Int) := by omega
 have hm4 : (m : Int) ≤ 4096 := by omega
 have hmI1 : (m : Int) < ((m + 1 : Nat) : Int) := by omega
 have hsg : ¬ (lastI q).sign < 0 := by have := Int.sign_nonneg_iff.2 (Int.not_lt.1 hs); omega
 have TOP := hid (fun R : List Int => show topI R q = lastI R by unfold topI; rw [if_neg hs])
 rw [hm]; rw [hm] at HQ; generalize hPl : p.length = P at *; have HPl := hid hPl; clear hp hq q0 nq np p0 sp sq hb hlast hIh hm hPl hc1 hc2; go_enter Tryz.func113, Tryz.ntmps113; go_wp2_with (first | (at_builtin; refine app_z rfl _ _ rfl w.heap.size (v := .slice none 0 0) (l := []) rfl (Ox.nil _ _) rfl HP.out (by rw [HPl.out]; exact HP0.out) (by rw [HPl.out]; have := HNP.out; simp; omega) (Nat.le_refl _) ?_; intro g1 cap1 n1 w1 hn1 ho1 hg1 hbl1 hke1; have HN1 := hid hn1; have HO1 := hid ho1; clear hn1 ho1; haveI k1 : Kp0 w w1 := ⟨hbl1 w (Nat.le_refl _) (Below.refl _ _)⟩) | (go_at_call 165; (with_reducible refine Calls.mono (biAbsC KL.out) ?_); rintro e wl ⟨rfl, _, _⟩))
 have hn1 := HN1.out; rw [List.length_nil, Nat.zero_add, HPl.out] at hn1; have HO := HO1; rw [List.nil_append, hn1] at HO; clear HN1 HO1; obtain rfl := hn1; go_loopw [5] (fun s5 wx => ∃ (R : List Int) (t : Nat) (r1 : Option Addr) (cR : Nat), s5 = .slice r1 R.length cR ∧ Rw 160 EI wx (.slice r1 R.length cR) R ∧ Hid (Fresh w.heap.size (.slice r1 R.length cR)) ∧ Hid (R.length + t ≤ n1) ∧ Hid (SzI (L + t * (M + 1)) R) ∧ Hid (remI (n1 + 1 - t) R q = remI (n1 + 1) p q) ∧ Kp0 wl wx) (fun s5 _ => match s5 with | .slice _ k _ => k | _ => 0)
 case atStart =>
  refine ⟨p, 0, some ⟨g1, 0, none⟩, cap1, by rw [HPl.out], ?_, hid (Fresh.own hg1), hid (by rw [HPl.out]; omega), hid (by rw [Nat.zero_mul, Nat.add_zero]; exact SP.out), hid rfl, ⟨Gr.out⟩⟩
  rw [HPl.out]; exact (HO.out.below eok_EI Gr.out).rw
 case round =>
  obtain ⟨R, t, r1, cR, rfl, hR, hF, hT, hS, hE, ik⟩ := hrel; have HR := hid hR; obtain ⟨nR, hnR⟩ : ∃ nR, nR = R.length := ⟨_, rfl⟩; rw [← hnR] at hF HR ⊢; have HnR := hid hnR; have HB1 := hid (mulT HB.out (t := t) (by have := hT.out; omega))
  clear hR hnR; by_cases hge : m + 1 ≤ nR
  · obtain ⟨K, rfl⟩ : ∃ k, nR = k + 1 := ⟨nR - 1, by omega⟩
    obtain ⟨d, hK⟩ : ∃ d, K = m + d := ⟨K - m, by omega⟩
    have HK := hid hK; have hgI : ((m + 1 : Nat) : Int) ≤ ((K + 1 : Nat) : Int) := by omega
    have hk4 : K + 1 ≤ 4096 := by have h1 := hT.out; have h2 := HNP.out; have h3 := HnR.out; omega
    have hx : R[K]? = some (lastI R) := by
     have := getD_some (l := R) (i := K) (by rw [← HnR.out]; omega)
     unfold lastI; rw [← HnR.out, Nat.add_sub_cancel]; exact this
    obtain ⟨gr, offr, u, rfl, hgr, ct, kt, rfl, hIt⟩ := HR.out.at hx; haveI : Has wr gr := ⟨hgr⟩; haveI : InC wr kt (lastI R) := ⟨hIt⟩; have BR := hid (fun j : Nat => Nat.le_trans (getD_len hS.out j) HB1.out)
    have BL : Hid ((words (lastI R).natAbs).length ≤ 1099511627776) := hid (Nat.le_trans (BR.out _) (by decide))
    have BT : Hid ((words (topI R q).natAbs).length ≤ 50000000000) := hid (Nat.le_trans (topI_len hS.out) HB1.out); have HTT := hid (TOP.out R); have f1 : ((K + 1 : Nat) : Int) - 1 = (K : Int) := by omega
    have f2 : ((K + 1 : Nat) : Int) - ((m + 1 : Nat) : Int) = (d : Int) := by omega
    have f2c : (K : Int) + 1 - ((m : Int) + 1) = (d : Int) := by omega
    have f2b : (K : Int) - (m : Int) = (d : Int) := by omega
    have f3 : (K : Int) ≤ 4096 := by omega
    have f4 : (0 : Int) ≤ (K : Int) := by omega
    have f5 : (K : Int) < ((K + 1 : Nat) : Int) := by omega
    have f6 : (d : Int) ≤ 4096 := by omega
    have f7 : (0 : Int) ≤ (d : Int) := by omega
    clear hx hIt hK hge; go_upto_region 9 with (first | (go_at_call 166; (with_reducible refine Calls.mono (biSetC BL.out) ?_); rintro e wf ⟨rfl, _, _⟩) | (go_at_call 132; (with_reducible refine Calls.mono (biSignC) ?_); rintro e w' ⟨rfl, hw⟩; obtain rfl := hw.symm) | (go_at_call 167; (with_reducible refine Calls.mono (biNegC BL.out) ?_); rintro e wf ⟨rfl, _, _⟩))
    have HRf := hid (HR.out.below eok_EI (Gr.out (v := wr) (W := wf))); have HQf := hid (HQ.out.below eok_EI (Gr.out (v := w) (W := wf))); haveI : InC wf wr.heap.size (topI R q) := by rw [HTT.out]; infer_instance
    haveI : InC wf w1.heap.size ((lastI q).natAbs : Int) := inferInstance; haveI : Gr w wf := inferInstance; haveI : Gr wl wf := inferInstance; go_wp2_with (at_make; refine make_z (E := EI) (nextI R q) _ rfl _ _ rfl _ K rfl rfl (by first | rfl | omega | simp) (by omega) ?_; intro wn hF0 hK0)
    go_loopw [56] (fun s56 wx => ∃ i : Nat, s56 = .int .i64 i ∧ i ≤ K ∧ Fl 160 EI wx wf.heap.size K (nextI R q) i ∧ Kp0 wf wx) (fun s56 _ => K - (intOf s56).toNat)
    case atStart => exact ⟨0, rfl, Nat.zero_le _, hF0, hK0⟩
    case round =>
     obtain ⟨i, rfl, hi, fl, ik4⟩ := hrel; by_cases hiK : i = K
     · subst hiK; have HD := hid (fl.done (by rw [nextI_len, ← HnR.out]; omega) (by rw [nextI_len, ← HnR.out]; omega))
       clear hi fl; go_wp2_with (go_at_call 164; (with_reducible refine Calls.mono (gaCut HD.out (by rw [nextI_len, ← HnR.out]; have := hT.out; have := HNP.out; omega)) ?_); rintro e w' ⟨vc, rfl, hcut, hown, hw⟩; obtain rfl := hw.symm)
       obtain ⟨ac, cc, rfl, hcc⟩ := hcut.form
       have hlen : (cutI (nextI R q)).length ≤ i := by
        have h1 := cutI_len (nextI R q); rw [nextI_len, ← HnR.out] at h1; omega
       have HCUT := hid hcut; have HOWN := hid hown; have HLEN := hid hlen; clear hcut hown; go_round
       case rel =>
        refine ⟨cutI (nextI R q), t + 1, ac, cc, rfl, HCUT.out, hid (Fresh.of (Fresh.own (Gr.out (v := w) (W := wf)).size) HOWN.out), hid ?_, hid ?_, hid ?_, ⟨Gr.out⟩⟩
        · have h1 := hT.out; have h2 := HnR.out; have h3 := HLEN.out; omega
        · rw [Nat.add_mul, Nat.one_mul, ← Nat.add_assoc]; exact (hS.out.next SQ.out).cut
        · rw [← hE.out, show n1 + 1 - t = (n1 + 1 - (t + 1)) + 1 by have h1 := hT.out; have h2 := HnR.out; omega]
          exact (remI_step (by rw [HM.out, ← HnR.out]; have := HK.out; omega)).symm
       case measure => first | (simp; done) | (simp; omega)
     · have hlt : i < K := by omega
       have hI : (i : Int) < (K : Int) := by omega
       have hI2 : (i : Int) < ((K + 1 : Nat) : Int) := by omega
       have h0 : (0 : Int) ≤ (i : Int) := by omega
       have hx := getD_some (l := R) (i := i) (by rw [← HnR.out]; omega)
       obtain ⟨gx, ox, u, he, hgx, cx, kx, rfl, hIx⟩ := HRf.out.at hx; simp only [Option.some.injEq, Addr.mk.injEq, and_true] at he; obtain ⟨rfl, rfl⟩ := he; haveI : Has wf gr := ⟨hgx⟩; haveI : InC wf kx (R.getD i 0) := ⟨hIx⟩
       have BM : Hid ((words ((lastI q).natAbs : Int).natAbs).length ≤ 50000000000) := hid (by
        rw [Int.natAbs_natCast]; have h1 := KQ.out (q.length - 1); have h2 := HBm.out; exact Nat.le_trans h1 (by omega))
       have KM : Hid ((words (R.getD i 0).natAbs).length + (words ((lastI q).natAbs : Int).natAbs).length ≤ 137438953472) := hid (Nat.le_trans (Nat.add_le_add (BR.out i) BM.out) (by decide))
       obtain ⟨⟨u2, cu⟩, fu⟩ := fl.slot hlt; obtain ⟨Lc, hLc, hLn, hLe⟩ := fl.bk eok_EI; haveI : BkC wr wf.heap.size Lc 160 := ⟨hLc⟩; have HLC := hid hLc; have HLN := hid hLn; have HLE := hid hLe; have HLT := hid hlt; have NX := hid (nextI_at (r := R) (q := q) (i := i) (by rw [← HnR.out]; omega))
       clear hx hIx fl hLc hLn hLe hi hiK; by_cases hat : d ≤ i
       · obtain ⟨kk, hkk⟩ : ∃ kk, i = d + kk := ⟨i - d, by omega⟩
         have g1' : (d : Int) ≤ (i : Int) := by omega
         have g2' : (i : Int) - (d : Int) = (kk : Int) := by omega
         have hkm : kk < m + 1 := by have := HK.out; omega
         have g3 : (kk : Int) < ((m + 1 : Nat) : Int) := by omega
         have g3b : (kk : Int) < (m : Int) + 1 := by omega
         have g3c : kk < m + 1 := by omega
         have g4 : (0 : Int) ≤ (kk : Int) := by omega
         have g5 : (kk : Int) ≤ 4096 := by omega
         have g6 : IntKind.i64.wrap (kk : Int) = (kk : Int) := IntWalk.i64_in _ (by omega)
         have hqx := getD_some (l := q) (i := kk) (by rw [HM.out]; exact hkm)
         obtain ⟨gq, oq, uq, heq, hgq, cq2, kq, rfl, hIq⟩ := HQf.out.at hqx; simp only [Option.some.injEq, Addr.mk.injEq, and_true] at heq; obtain ⟨rfl, rfl⟩ := heq; haveI : Has wf g2 := ⟨hgq⟩; haveI : InC wf kq (q.getD kk 0) := ⟨hIq⟩; have BQ : Hid ((words (q.getD kk 0).natAbs).length ≤ 50000000000) := hid (Nat.le_trans (KQ.out kk) (by have := HBm.out; omega))
         have KM2 : Hid ((words (topI R q).natAbs).length + (words (q.getD kk 0).natAbs).length ≤ 137438953472) := hid (Nat.le_trans (Nat.add_le_add BT.out BQ.out) (by decide))
         have KS1 : Hid ((words (R.getD i 0 * ((lastI q).natAbs : Int)).natAbs).length ≤ 137438953472) := hid (Nat.le_trans (mulI_len (Nat.le_refl _) (Nat.le_refl _)) KM.out); have KS2 : Hid ((words (topI R q * q.getD kk 0).natAbs).length ≤ 137438953472) := hid (Nat.le_trans (mulI_len (Nat.le_refl _) (Nat.le_refl _)) KM2.out)
         have NV : Hid (nxtI R q i = R.getD i 0 * ((lastI q).natAbs : Int) - topI R q * q.getD kk 0) := hid (by
          have e : R.length - q.length = d := by have h1 := HnR.out; have h2 := HM.out; have h3 := HK.out; omega
          rw [nxtI_high (by omega), e, show i - d = kk by omega])
         clear hkk hat hqx hIq hkm; go_wp2_with ((go_at_call 115; (with_reducible refine Calls.mono (biMulC KM.out) ?_); rintro e wc ⟨rfl, _, _⟩))
         go_region_held3 (fun W => W.cell? ⟨wf.heap.size, i, none⟩ = some (.pointer (some ⟨wr.heap.size, 0, none⟩)) ∧ W.cell? ⟨g2, off2 + kk, none⟩ = some (.pointer (some ⟨kq, 0, none⟩))) (refine ⟨?_, ?_⟩ <;> (first | exact Bk.cell BkC.out rfl | (simp [go_sem]; done) | (simp [go_sem, cu, fu, cq2]; done))) (first | (go_at_call 115; (with_reducible refine Calls.mono (biMulC KM2.out) ?_); rintro e wc ⟨rfl, _, _⟩) | (go_at_call 168; (with_reducible refine Calls.mono (biSubC KS1.out KS2.out) ?_); rintro e wc ⟨rfl, _, _⟩))
         all_goals (go_wp2_with fail)
         all_goals go_round
         all_goals first
          | (refine ⟨i + 1, by go_num, HLT.out, ?_, ⟨Gr.out⟩⟩
             refine Fl.step eok_EI HLC.out HLN.out HLE.out (BkC.out (T := 160)) (KG.out) HLT.out NX.out ⟨_, rfl, ?_⟩
             rw [NV.out]; exact InC.out)
          | (simp [intOf]; done)
          | (simp [intOf]; omega)
       · have g1' : ¬ (d : Int) ≤ (i : Int) := by omega
         have NV : Hid (nxtI R q i = R.getD i 0 * ((lastI q).natAbs : Int)) := hid (nxtI_low (by have h1 := HnR.out; have h2 := HM.out; have h3 := HK.out; omega))
         clear hat; go_wp2_with ((go_at_call 115; (with_reducible refine Calls.mono (biMulC KM.out) ?_); rintro e wc ⟨rfl, _, _⟩))
         go_round
         case rel =>
          refine ⟨i + 1, by go_num, HLT.out, ?_, ⟨Gr.out⟩⟩
          refine Fl.step eok_EI HLC.out HLN.out HLE.out (BkC.out (T := 160)) (KG.out) HLT.out NX.out ⟨_, rfl, ?_⟩
          rw [NV.out]; exact InC.out
         case measure => first | (simp [intOf]; done) | (simp [intOf]; omega)
  · have hgI : ¬ ((m + 1 : Nat) : Int) ≤ (nR : Int) := by omega
    have HEQ := hid ((remI_stop (k := n1 + 1 - t) (by have := hT.out; omega) (by rw [HM.out, ← HnR.out]; exact hge)).symm.trans hE.out)
    have BS := hid hS.out; have hnR4 : nR ≤ 4096 := by have h1 := hT.out; have h2 := HNP.out; have h3 := HnR.out; omega
    have HN4 := hid hnR4; clear hge; go_wp2_with fail
    go_loopw [95] (fun s95 wx => ∃ i : Nat, s95 = .int .i64 i ∧ i ≤ nR ∧ Rw 160 EI wx (.slice r1 nR cR) (negT R i) ∧ Kp0 w wx) (fun s95 _ => nR - (intOf s95).toNat)
    case atStart => exact ⟨0, rfl, Nat.zero_le _, by rw [negT_0]; exact HR.out, ⟨Gr.out⟩⟩
    case round =>
     obtain ⟨i, rfl, hi, hN, ik3⟩ := hrel; by_cases hin : i = nR
     · subst hin; rw [show negT R i = R.map (fun x => -x) by rw [HnR.out]; exact negT_all R] at hN
       have HN := hid hN; clear hN hi; go_wp2_with (go_at_call 169; (with_reducible refine Calls.mono (gaSmall (hv := ⟨VrC.out⟩) HN.out (by rw [List.length_map, ← HnR.out]; exact HN4.out) BS.out.neg (Nat.le_trans HB1.out (by decide))) ?_); rintro e wz ⟨vz, rfl, hz, _⟩)
       go_ret
       refine ⟨_, rfl, ?_, ⟨Gr.out⟩⟩
       rw [LR.out, ← HEQ.out]; exact hz
     · have hlt : i < nR := by omega
       have hI : (i : Int) < (nR : Int) := by omega
       have h0 : (0 : Int) ≤ (i : Int) := by omega
       have hx := getD_some (l := R) (i := i) (by rw [← HnR.out]; exact hlt)
       have BX : Hid ((words (R.getD i 0).natAbs).length ≤ 1099511627776) := hid (Nat.le_trans (getD_len BS.out i) (Nat.le_trans HB1.out (by decide)))
       generalize R.getD i 0 = x at hx BX; obtain ⟨gr, offr, u, rfl, hgr, ct, kt, rfl, hIt⟩ := hN.at (negT_at hx); haveI : Has wr gr := ⟨hgr⟩; haveI : InC wr kt x := ⟨hIt⟩; haveI : Up w.heap.size gr := ⟨hF.out gr rfl⟩; obtain ⟨Lc, hLc⟩ := hN.bk eok_EI (by rw [negT_len, ← HnR.out]; omega)
       haveI : BkC wr gr Lc 160 := ⟨hLc⟩; have fr := hLc.free (offr + i); have HX := hid hx; have HN := hid hN; have HLT := hid hlt; have HLC := hid hLc; clear hx hN hIt hi hin hlt hLc; go_wp2_with ((go_at_call 167; (with_reducible refine Calls.mono (biNegC BX.out) ?_); rintro e wc ⟨rfl, _, _⟩))
       go_round
       case rel =>
        refine ⟨i + 1, by go_num, HLT.out, ?_, ⟨Gr.out⟩⟩
        rw [negT_next HX.out]; exact HN.out.step eok_EI HLC.out HLT.out (BkC.out (T := 160)) (KG.out) ⟨_, rfl, InC.out⟩
       case measure => first | (simp [intOf]; done) | (simp [intOf]; omega)
theorem gaLessNeg {w : World} {v1 v2 : Value} {p q : List Int} {L M : Nat} [hv : VrB w] (hp : Rw 160 EI w v1 p) (hq : Rw 160 EI w v2 q) (p0 : 0 < p.length) (q0 : 0 < q.length) (np : p.length ≤ 4096) (nq : q.length ≤ 4096) (sp : SzI L p) (sq : SzI M q) (hb : L + (p.length + 1) * (M + 1) ≤ 50000000000) (hs : lastI q < 0) :
 Calls Tryz.prog 113 #[v1, v2] w fun e w' => ∃ v', e = .returned v' ∧ Rw 160 EI w' v' (lessI p q) ∧ Kp0 w w' := by
 obtain ⟨a1, c1, rfl, hc1⟩ := hp.form; obtain ⟨a2, c2, rfl, hc2⟩ := hq.form; obtain ⟨m, hm⟩ : ∃ m, q.length = m + 1 := ⟨q.length - 1, by omega⟩
 have hlast : q[m]? = some (lastI q) := by
  have := getD_some (l := q) (i := m) (by omega)
  unfold lastI; rw [hm, Nat.add_sub_cancel]; exact this
 have HQ := hid hq; have HP := hid hp; have HM := hid hm; have HNQ := hid nq; have HP0 := hid p0; have HB := hid hb
 have HBm := hid (show M + 1 ≤ 50000000000 by
  have : 1 * (M + 1) ≤ (p.length + 1) * (M + 1) := Nat.mul_le_mul_right _ (by omega)
  omega)
 have HNP := hid np; have SP := hid sp; have SQ := hid sq; have LR := hid (show lessI p q = smallI ((remI (p.length + 1) p q).map (fun x => -x)) from rfl)
 obtain ⟨g2, off2, u2, rfl, hg2, cl, kh, rfl, hIh⟩ := hq.at hlast; haveI : Has w g2 := ⟨hg2⟩; haveI : InC w kh (lastI q) := ⟨hIh⟩; have KL := hid (Nat.le_trans (sq.at hlast) (show M ≤ 1099511627776 by have := HBm.out; omega))
 have KQ := hid (fun j : Nat => getD_len sq j)
 have e1 : ((m + 1 : Nat) : Int) - 1 = (m : Int) := by omega
 have hmI0 : (0 : Int) ≤ (m : Int) := by omega
 have hm4 : (m : Int) ≤ 4096 := by omega
 have hmI1 : (m : Int) < ((m + 1 : Nat) : Int) := by omega
 have hsg : (lastI q).sign < 0 := by rw [Int.sign_eq_neg_one_of_neg hs]; decide
 have TOP := hid (fun R : List Int => show topI R q = -(lastI R) by unfold topI; rw [if_pos hs])
 rw [hm]; rw [hm] at HQ; generalize hPl : p.length = P at *; have HPl := hid hPl; clear hp hq q0 nq np p0 sp sq hb hlast hIh hm hPl hc1 hc2; go_enter Tryz.func113, Tryz.ntmps113; go_wp2_with (first | (at_builtin; refine app_z rfl _ _ rfl w.heap.size (v := .slice none 0 0) (l := []) rfl (Ox.nil _ _) rfl HP.out (by rw [HPl.out]; exact HP0.out) (by rw [HPl.out]; have := HNP.out; simp; omega) (Nat.le_refl _) ?_; intro g1 cap1 n1 w1 hn1 ho1 hg1 hbl1 hke1; have HN1 := hid hn1; have HO1 := hid ho1; clear hn1 ho1; haveI k1 : Kp0 w w1 := ⟨hbl1 w (Nat.le_refl _) (Below.refl _ _)⟩) | (go_at_call 165; (with_reducible refine Calls.mono (biAbsC KL.out) ?_); rintro e wl ⟨rfl, _, _⟩))
 have hn1 := HN1.out; rw [List.length_nil, Nat.zero_add, HPl.out] at hn1; have HO := HO1; rw [List.nil_append, hn1] at HO; clear HN1 HO1; obtain rfl := hn1; go_loopw [5] (fun s5 wx => ∃ (R : List Int) (t : Nat) (r1 : Option Addr) (cR : Nat), s5 = .slice r1 R.length cR ∧ Rw 160 EI wx (.slice r1 R.length cR) R ∧ Hid (Fresh w.heap.size (.slice r1 R.length cR)) ∧ Hid (R.length + t ≤ n1) ∧ Hid (SzI (L + t * (M + 1)) R) ∧ Hid (remI (n1 + 1 - t) R q = remI (n1 + 1) p q) ∧ Kp0 wl wx) (fun s5 _ => match s5 with | .slice _ k _ => k | _ => 0)
 case atStart =>
  refine ⟨p, 0, some ⟨g1, 0, none⟩, cap1, by rw [HPl.out], ?_, hid (Fresh.own hg1), hid (by rw [HPl.out]; omega), hid (by rw [Nat.zero_mul, Nat.add_zero]; exact SP.out), hid rfl, ⟨Gr.out⟩⟩
  rw [HPl.out]; exact (HO.out.below eok_EI Gr.out).rw
 case round =>
  obtain ⟨R, t, r1, cR, rfl, hR, hF, hT, hS, hE, ik⟩ := hrel; have HR := hid hR; obtain ⟨nR, hnR⟩ : ∃ nR, nR = R.length := ⟨_, rfl⟩; rw [← hnR] at hF HR ⊢; have HnR := hid hnR; have HB1 := hid (mulT HB.out (t := t) (by have := hT.out; omega))
  clear hR hnR; by_cases hge : m + 1 ≤ nR
  · obtain ⟨K, rfl⟩ : ∃ k, nR = k + 1 := ⟨nR - 1, by omega⟩
    obtain ⟨d, hK⟩ : ∃ d, K = m + d := ⟨K - m, by omega⟩
    have HK := hid hK; have hgI : ((m + 1 : Nat) : Int) ≤ ((K + 1 : Nat) : Int) := by omega
    have hk4 : K + 1 ≤ 4096 := by have h1 := hT.out; have h2 := HNP.out; have h3 := HnR.out; omega
    have hx : R[K]? = some (lastI R) := by
     have := getD_some (l := R) (i := K) (by rw [← HnR.out]; omega)
     unfold lastI; rw [← HnR.out, Nat.add_sub_cancel]; exact this
    obtain ⟨gr, offr, u, rfl, hgr, ct, kt, rfl, hIt⟩ := HR.out.at hx; haveI : Has wr gr := ⟨hgr⟩; haveI : InC wr kt (lastI R) := ⟨hIt⟩; have BR := hid (fun j : Nat => Nat.le_trans (getD_len hS.out j) HB1.out)
    have BL : Hid ((words (lastI R).natAbs).length ≤ 1099511627776) := hid (Nat.le_trans (BR.out _) (by decide))
    have BT : Hid ((words (topI R q).natAbs).length ≤ 50000000000) := hid (Nat.le_trans (topI_len hS.out) HB1.out); have HTT := hid (TOP.out R); have f1 : ((K + 1 : Nat) : Int) - 1 = (K : Int) := by omega
    have f2 : ((K + 1 : Nat) : Int) - ((m + 1 : Nat) : Int) = (d : Int) := by omega
    have f2c : (K : Int) + 1 - ((m : Int) + 1) = (d : Int) := by omega
    have f2b : (K : Int) - (m : Int) = (d : Int) := by omega
    have f3 : (K : Int) ≤ 4096 := by omega
    have f4 : (0 : Int) ≤ (K : Int) := by omega
    have f5 : (K : Int) < ((K + 1 : Nat) : Int) := by omega
    have f6 : (d : Int) ≤ 4096 := by omega
    have f7 : (0 : Int) ≤ (d : Int) := by omega
    clear hx hIt hK hge; go_upto_region 9 with (first | (go_at_call 166; (with_reducible refine Calls.mono (biSetC BL.out) ?_); rintro e wf ⟨rfl, _, _⟩) | (go_at_call 132; (with_reducible refine Calls.mono (biSignC) ?_); rintro e w' ⟨rfl, hw⟩; obtain rfl := hw.symm) | (go_at_call 167; (with_reducible refine Calls.mono (biNegC BL.out) ?_); rintro e wf ⟨rfl, _, _⟩))
    have HRf := hid (HR.out.below eok_EI (Gr.out (v := wr) (W := wf))); have HQf := hid (HQ.out.below eok_EI (Gr.out (v := w) (W := wf))); haveI : InC wf wr.heap.size (topI R q) := by rw [HTT.out]; infer_instance
    haveI : InC wf w1.heap.size ((lastI q).natAbs : Int) := inferInstance; haveI : Gr w wf := inferInstance; haveI : Gr wl wf := inferInstance; go_wp2_with (at_make; refine make_z (E := EI) (nextI R q) _ rfl _ _ rfl _ K rfl rfl (by first | rfl | omega | simp) (by omega) ?_; intro wn hF0 hK0)
    go_loopw [56] (fun s56 wx => ∃ i : Nat, s56 = .int .i64 i ∧ i ≤ K ∧ Fl 160 EI wx wf.heap.size K (nextI R q) i ∧ Kp0 wf wx) (fun s56 _ => K - (intOf s56).toNat)
    case atStart => exact ⟨0, rfl, Nat.zero_le _, hF0, hK0⟩
    case round =>
     obtain ⟨i, rfl, hi, fl, ik4⟩ := hrel; by_cases hiK : i = K
     · subst hiK; have HD := hid (fl.done (by rw [nextI_len, ← HnR.out]; omega) (by rw [nextI_len, ← HnR.out]; omega))
       clear hi fl; go_wp2_with (go_at_call 164; (with_reducible refine Calls.mono (gaCut HD.out (by rw [nextI_len, ← HnR.out]; have := hT.out; have := HNP.out; omega)) ?_); rintro e w' ⟨vc, rfl, hcut, hown, hw⟩; obtain rfl := hw.symm)
       obtain ⟨ac, cc, rfl, hcc⟩ := hcut.form
       have hlen : (cutI (nextI R q)).length ≤ i := by
        have h1 := cutI_len (nextI R q); rw [nextI_len, ← HnR.out] at h1; omega
       have HCUT := hid hcut; have HOWN := hid hown; have HLEN := hid hlen; clear hcut hown; go_round
       case rel =>
        refine ⟨cutI (nextI R q), t + 1, ac, cc, rfl, HCUT.out, hid (Fresh.of (Fresh.own (Gr.out (v := w) (W := wf)).size) HOWN.out), hid ?_, hid ?_, hid ?_, ⟨Gr.out⟩⟩
        · have h1 := hT.out; have h2 := HnR.out; have h3 := HLEN.out; omega
        · rw [Nat.add_mul, Nat.one_mul, ← Nat.add_assoc]; exact (hS.out.next SQ.out).cut
        · rw [← hE.out, show n1 + 1 - t = (n1 + 1 - (t + 1)) + 1 by have h1 := hT.out; have h2 := HnR.out; omega]
          exact (remI_step (by rw [HM.out, ← HnR.out]; have := HK.out; omega)).symm
       case measure => first | (simp; done) | (simp; omega)
     · have hlt : i < K := by omega
       have hI : (i : Int) < (K : Int) := by omega
       have hI2 : (i : Int) < ((K + 1 : Nat) : Int) := by omega
       have h0 : (0 : Int) ≤ (i : Int) := by omega
       have hx := getD_some (l := R) (i := i) (by rw [← HnR.out]; omega)
       obtain ⟨gx, ox, u, he, hgx, cx, kx, rfl, hIx⟩ := HRf.out.at hx; simp only [Option.some.injEq, Addr.mk.injEq, and_true] at he; obtain ⟨rfl, rfl⟩ := he; haveI : Has wf gr := ⟨hgx⟩; haveI : InC wf kx (R.getD i 0) := ⟨hIx⟩
       have BM : Hid ((words ((lastI q).natAbs : Int).natAbs).length ≤ 50000000000) := hid (by
        rw [Int.natAbs_natCast]; have h1 := KQ.out (q.length - 1); have h2 := HBm.out; exact Nat.le_trans h1 (by omega))
       have KM : Hid ((words (R.getD i 0).natAbs).length + (words ((lastI q).natAbs : Int).natAbs).length ≤ 137438953472) := hid (Nat.le_trans (Nat.add_le_add (BR.out i) BM.out) (by decide))
       obtain ⟨⟨u2, cu⟩, fu⟩ := fl.slot hlt; obtain ⟨Lc, hLc, hLn, hLe⟩ := fl.bk eok_EI; haveI : BkC wr wf.heap.size Lc 160 := ⟨hLc⟩; have HLC := hid hLc; have HLN := hid hLn; have HLE := hid hLe; have HLT := hid hlt; have NX := hid (nextI_at (r := R) (q := q) (i := i) (by rw [← HnR.out]; omega))
       clear hx hIx fl hLc hLn hLe hi hiK; by_cases hat : d ≤ i
       · obtain ⟨kk, hkk⟩ : ∃ kk, i = d + kk := ⟨i - d, by omega⟩
         have g1' : (d : Int) ≤ (i : Int) := by omega
         have g2' : (i : Int) - (d : Int) = (kk : Int) := by omega
         have hkm : kk < m + 1 := by have := HK.out; omega
         have g3 : (kk : Int) < ((m + 1 : Nat) : Int) := by omega
         have g3b : (kk : Int) < (m : Int) + 1 := by omega
         have g3c : kk < m + 1 := by omega
         have g4 : (0 : Int) ≤ (kk : Int) := by omega
         have g5 : (kk : Int) ≤ 4096 := by omega
         have g6 : IntKind.i64.wrap (kk : Int) = (kk : Int) := IntWalk.i64_in _ (by omega)
         have hqx := getD_some (l := q) (i := kk) (by rw [HM.out]; exact hkm)
         obtain ⟨gq, oq, uq, heq, hgq, cq2, kq, rfl, hIq⟩ := HQf.out.at hqx; simp only [Option.some.injEq, Addr.mk.injEq, and_true] at heq; obtain ⟨rfl, rfl⟩ := heq; haveI : Has wf g2 := ⟨hgq⟩; haveI : InC wf kq (q.getD kk 0) := ⟨hIq⟩; have BQ : Hid ((words (q.getD kk 0).natAbs).length ≤ 50000000000) := hid (Nat.le_trans (KQ.out kk) (by have := HBm.out; omega))
         have KM2 : Hid ((words (topI R q).natAbs).length + (words (q.getD kk 0).natAbs).length ≤ 137438953472) := hid (Nat.le_trans (Nat.add_le_add BT.out BQ.out) (by decide))
         have KS1 : Hid ((words (R.getD i 0 * ((lastI q).natAbs : Int)).natAbs).length ≤ 137438953472) := hid (Nat.le_trans (mulI_len (Nat.le_refl _) (Nat.le_refl _)) KM.out); have KS2 : Hid ((words (topI R q * q.getD kk 0).natAbs).length ≤ 137438953472) := hid (Nat.le_trans (mulI_len (Nat.le_refl _) (Nat.le_refl _)) KM2.out)
         have NV : Hid (nxtI R q i = R.getD i 0 * ((lastI q).natAbs : Int) - topI R q * q.getD kk 0) := hid (by
          have e : R.length - q.length = d := by have h1 := HnR.out; have h2 := HM.out; have h3 := HK.out; omega
          rw [nxtI_high (by omega), e, show i - d = kk by omega])
         clear hkk hat hqx hIq hkm; go_wp2_with ((go_at_call 115; (with_reducible refine Calls.mono (biMulC KM.out) ?_); rintro e wc ⟨rfl, _, _⟩))
         go_region_held3 (fun W => W.cell? ⟨wf.heap.size, i, none⟩ = some (.pointer (some ⟨wr.heap.size, 0, none⟩)) ∧ W.cell? ⟨g2, off2 + kk, none⟩ = some (.pointer (some ⟨kq, 0, none⟩))) (refine ⟨?_, ?_⟩ <;> (first | exact Bk.cell BkC.out rfl | (simp [go_sem]; done) | (simp [go_sem, cu, fu, cq2]; done))) (first | (go_at_call 115; (with_reducible refine Calls.mono (biMulC KM2.out) ?_); rintro e wc ⟨rfl, _, _⟩) | (go_at_call 168; (with_reducible refine Calls.mono (biSubC KS1.out KS2.out) ?_); rintro e wc ⟨rfl, _, _⟩))
         all_goals (go_wp2_with fail)
         all_goals go_round
         all_goals first
          | (refine ⟨i + 1, by go_num, HLT.out, ?_, ⟨Gr.out⟩⟩
             refine Fl.step eok_EI HLC.out HLN.out HLE.out (BkC.out (T := 160)) (KG.out) HLT.out NX.out ⟨_, rfl, ?_⟩
             rw [NV.out]; exact InC.out)
          | (simp [intOf]; done)
          | (simp [intOf]; omega)
       · have g1' : ¬ (d : Int) ≤ (i : Int) := by omega
         have NV : Hid (nxtI R q i = R.getD i 0 * ((lastI q).natAbs : Int)) := hid (nxtI_low (by have h1 := HnR.out; have h2 := HM.out; have h3 := HK.out; omega))
         clear hat; go_wp2_with ((go_at_call 115; (with_reducible refine Calls.mono (biMulC KM.out) ?_); rintro e wc ⟨rfl, _, _⟩))
         go_round
         case rel =>
          refine ⟨i + 1, by go_num, HLT.out, ?_, ⟨Gr.out⟩⟩
          refine Fl.step eok_EI HLC.out HLN.out HLE.out (BkC.out (T := 160)) (KG.out) HLT.out NX.out ⟨_, rfl, ?_⟩
          rw [NV.out]; exact InC.out
         case measure => first | (simp [intOf]; done) | (simp [intOf]; omega)
  · have hgI : ¬ ((m + 1 : Nat) : Int) ≤ (nR : Int) := by omega
    have HEQ := hid ((remI_stop (k := n1 + 1 - t) (by have := hT.out; omega) (by rw [HM.out, ← HnR.out]; exact hge)).symm.trans hE.out)
    have BS := hid hS.out; have hnR4 : nR ≤ 4096 := by have h1 := hT.out; have h2 := HNP.out; have h3 := HnR.out; omega
    have HN4 := hid hnR4; clear hge; go_wp2_with fail
    go_loopw [95] (fun s95 wx => ∃ i : Nat, s95 = .int .i64 i ∧ i ≤ nR ∧ Rw 160 EI wx (.slice r1 nR cR) (negT R i) ∧ Kp0 w wx) (fun s95 _ => nR - (intOf s95).toNat)
    case atStart => exact ⟨0, rfl, Nat.zero_le _, by rw [negT_0]; exact HR.out, ⟨Gr.out⟩⟩
    case round =>
     obtain ⟨i, rfl, hi, hN, ik3⟩ := hrel; by_cases hin : i = nR
     · subst hin; rw [show negT R i = R.map (fun x => -x) by rw [HnR.out]; exact negT_all R] at hN
       have HN := hid hN; clear hN hi; go_wp2_with (go_at_call 169; (with_reducible refine Calls.mono (gaSmall (hv := ⟨VrC.out⟩) HN.out (by rw [List.length_map, ← HnR.out]; exact HN4.out) BS.out.neg (Nat.le_trans HB1.out (by decide))) ?_); rintro e wz ⟨vz, rfl, hz, _⟩)
       go_ret
       refine ⟨_, rfl, ?_, ⟨Gr.out⟩⟩
       rw [LR.out, ← HEQ.out]; exact hz
     · have hlt : i < nR := by omega
       have hI : (i : Int) < (nR : Int) := by omega
       have h0 : (0 : Int) ≤ (i : Int) := by omega
       have hx := getD_some (l := R) (i := i) (by rw [← HnR.out]; exact hlt)
       have BX : Hid ((words (R.getD i 0).natAbs).length ≤ 1099511627776) := hid (Nat.le_trans (getD_len BS.out i) (Nat.le_trans HB1.out (by decide)))
       generalize R.getD i 0 = x at hx BX; obtain ⟨gr, offr, u, rfl, hgr, ct, kt, rfl, hIt⟩ := hN.at (negT_at hx); haveI : Has wr gr := ⟨hgr⟩; haveI : InC wr kt x := ⟨hIt⟩; haveI : Up w.heap.size gr := ⟨hF.out gr rfl⟩; obtain ⟨Lc, hLc⟩ := hN.bk eok_EI (by rw [negT_len, ← HnR.out]; omega)
       haveI : BkC wr gr Lc 160 := ⟨hLc⟩; have fr := hLc.free (offr + i); have HX := hid hx; have HN := hid hN; have HLT := hid hlt; have HLC := hid hLc; clear hx hN hIt hi hin hlt hLc; go_wp2_with ((go_at_call 167; (with_reducible refine Calls.mono (biNegC BX.out) ?_); rintro e wc ⟨rfl, _, _⟩))
       go_round
       case rel =>
        refine ⟨i + 1, by go_num, HLT.out, ?_, ⟨Gr.out⟩⟩
        rw [negT_next HX.out]; exact HN.out.step eok_EI HLC.out HLT.out (BkC.out (T := 160)) (KG.out) ⟨_, rfl, InC.out⟩
       case measure => first | (simp [intOf]; done) | (simp [intOf]; omega)
theorem gaLess0 {w : World} {a1 : Option Addr} {c1 : Nat} {v2 : Value} {q : List Int} {M : Nat} [hv : VrB w] (hq : Rw 160 EI w v2 q) (q0 : 0 < q.length) (nq : q.length ≤ 4096) (sq : SzI M q) (hb : M ≤ 50000000000) :
 Calls Tryz.prog 113 #[.slice a1 0 c1, v2] w fun e w' => ∃ v', e = .returned v' ∧ Rw 160 EI w' v' (lessI [] q) ∧ Kp0 w w' := by
 obtain ⟨a2, c2, rfl, hc2⟩ := hq.form; obtain ⟨m, hm⟩ : ∃ m, q.length = m + 1 := ⟨q.length - 1, by omega⟩
 have hlast : q[m]? = some (lastI q) := by
  have := getD_some (l := q) (i := m) (by omega)
  unfold lastI; rw [hm, Nat.add_sub_cancel]; exact this
 obtain ⟨g2, off2, u2, rfl, hg2, cl, kh, rfl, hIh⟩ := hq.at hlast; haveI : Has w g2 := ⟨hg2⟩; haveI : InC w kh (lastI q) := ⟨hIh⟩; have KL := hid (Nat.le_trans (sq.at hlast) (show M ≤ 1099511627776 by omega))
 have LR := hid (show lessI [] q = [] by
  unfold lessI; rw [remI_stop (by decide) (by rw [List.length_nil]; omega)]
  rfl)
 have e1 : ((m + 1 : Nat) : Int) - 1 = (m : Int) := by omega
 have hmI0 : (0 : Int) ≤ (m : Int) := by omega
 have hm4 : (m : Int) ≤ 4096 := by omega
 have hmI1 : (m : Int) < ((m + 1 : Nat) : Int) := by omega
 have hmI2 : ¬ ((m + 1 : Nat) : Int) ≤ 0 := by omega
 rw [hm]; clear hq q0 nq sq hb hlast hIh hm hc2; go_enter Tryz.func113, Tryz.ntmps113; have Z0 : SzI 0 ([] : List Int) := fun x h => by cases h
 have hpure : ∀ W : World, Sem.run Tryz.prog (pure (#[] : Array Value)) W = .ok #[] W := fun _ => rfl
 cases a1
 all_goals
  go_wp2_with (go_at_call 165; (with_reducible refine Calls.mono (biAbsC KL.out) ?_); rintro e wl ⟨rfl, _, _⟩)
  go_loop [5] (fun s5 => s5 = .slice none 0 0) (fun _ => 0)
  case atStart => exact rfl
  case round =>
   obtain rfl := hrel; go_wp2_with fail
   go_loop [95] (fun s95 => s95 = .int .i64 0) (fun _ => 0)
   case atStart => exact rfl
   case round =>
    obtain rfl := hrel; go_wp2_with (go_at_call 169; (with_reducible refine Calls.mono (gaSmall (l := []) (L := 0) (hv := ⟨VrC.out⟩) (Rw.nil _) (by decide) Z0 (by decide)) ?_); rintro e wz ⟨vz, rfl, hz, _⟩)
    go_ret
    refine ⟨_, rfl, ?_, ⟨Gr.out⟩⟩
    rw [LR.out]; exact hz
theorem gaLess {w : World} {v1 v2 : Value} {p q : List Int} {L M : Nat} [hv : VrC w] (hp : Rw 160 EI w v1 p) (hq : Rw 160 EI w v2 q) (q0 : 0 < q.length) (np : p.length ≤ 4096) (nq : q.length ≤ 4096) (sp : SzI L p) (sq : SzI M q) (hb : L + (p.length + 1) * (M + 1) ≤ 50000000000) :
 Calls Tryz.prog 113 #[v1, v2] w fun e w' => ∃ v', e = .returned v' ∧ Rw 160 EI w' v' (lessI p q) ∧ Kp0 w w' := by
 rcases Nat.eq_zero_or_pos p.length with h0 | h0
 · obtain ⟨a, c, rfl, -⟩ := hp.form; obtain rfl := List.length_eq_zero_iff.1 h0; rw [List.length_nil] at hb; exact gaLess0 (hv := ⟨hv.out⟩) hq q0 nq sq (by omega)
 · by_cases hs : lastI q < 0
   · exact gaLessNeg (hv := ⟨hv.out⟩) hp hq h0 q0 np nq sp sq hb hs
   · exact gaLessPos (hv := ⟨hv.out⟩) hp hq h0 q0 np nq sp sq hb hs
def chainI : Nat → List Int → List Int → List (List Int)
 | 0, p, _ => [p]
 | k + 1, p, q => if q = [] then [p] else p :: chainI k q (lessI p q)
def rowI (p q : List Int) : List (List Int) := chainI (q.length + 1) p q
theorem lessI_len {p q : List Int} (h : q ≠ []) : (lessI p q).length < q.length := by
 unfold lessI; rw [smallI_len, List.length_map]; exact (remI_len (p.length + 1) p q (Nat.lt_succ_self _)).resolve_right (fun e => h (List.length_eq_zero_iff.1 e))
theorem remI_sz {L M : Nat} {q : List Int} (hq : SzI M q) : ∀ (k : Nat) (r : List Int), SzI L r → SzI (L + (r.length + 1 - q.length) * (M + 1)) (remI k r q) := by
 intro k
 induction k generalizing L with
 | zero =>
   intro r hr; exact hr.mono (Nat.le_add_right _ _)
 | succ k ih =>
   intro r hr; rw [remI]; by_cases h : q.length ≤ r.length
   · rw [if_pos h]; have h1 := cutI_len (nextI r q); rw [nextI_len] at h1; by_cases h0 : r.length = 0
     · have e : cutI (nextI r q) = [] := List.length_eq_zero_iff.1 (by omega)
       rw [e]
       have : remI k [] q = [] := by
        clear ih
        induction k with
        | zero => rfl
        | succ k ihk =>
          rw [remI]
          split
          · exact ihk
          · rfl
       rw [this]; exact fun x hx => by cases hx
     · refine (ih _ (hr.next hq).cut).mono ?_
       have h2 : (cutI (nextI r q)).length + 1 - q.length ≤ r.length - q.length := by omega
       have h3 : r.length + 1 - q.length = (r.length - q.length) + 1 := by omega
       rw [h3, Nat.add_mul, Nat.one_mul]; have := Nat.mul_le_mul_right (M + 1) h2; omega
   · rw [if_neg h]; exact hr.mono (Nat.le_add_right _ _)
theorem lessI_sz {L M : Nat} {p q : List Int} (hp : SzI L p) (hq : SzI M q) : SzI (L + (p.length + 1 - q.length) * (M + 1)) (lessI p q) := (remI_sz hq _ p hp).neg.small
def growF (A n : Nat) : Nat := A * 3 ^ (17 - n)
theorem growF_mono {A m n : Nat} (h : m ≤ n) : growF A n ≤ growF A m := Nat.mul_le_mul_left _ (Nat.pow_le_pow_right (by decide) (by omega))
theorem pow3_ge (k : Nat) (h : 2 ≤ k) : 1 + 4 * k ≤ 3 ^ k := by
 induction k with
 | zero => omega
 | succ k ih =>
   rcases Nat.lt_or_ge k 2 with h2 | h2
   · obtain rfl : k = 1 := by omega
     decide
   · have := ih h2; rw [Nat.pow_succ]; omega
theorem pow3_ge1 (k : Nat) (h : 1 ≤ k) : 1 + 2 * k ≤ 3 ^ k := by
 induction k with
 | zero => omega
 | succ k ih =>
   rcases Nat.lt_or_ge k 1 with h2 | h2
   · obtain rfl : k = 0 := by omega
     decide
   · have := ih h2; rw [Nat.pow_succ]; omega
def InvC (A : Nat) (p q : List Int) : Prop := p.length ≤ 17 ∧ q.length < p.length ∧ SzI (growF A p.length) p ∧ SzI (growF A (p.length - 1)) q
def StartC (A : Nat) (p q : List Int) : Prop := p.length ≤ 17 ∧ q.length ≤ 17 ∧ SzI A p ∧ SzI A q
theorem inv_step {A : Nat} {p q : List Int} (hA : 1 ≤ A) (h : InvC A p q) (hq : q ≠ []) : InvC A q (lessI p q) := by
 obtain ⟨h1, h2, h3, h4⟩ := h; have hq0 : 0 < q.length := List.length_pos_iff.2 hq; refine ⟨by omega, lessI_len hq, h4.mono (growF_mono (by omega)), (lessI_sz h3 h4).mono ?_⟩
 obtain ⟨s, hs⟩ : ∃ s, p.length = q.length + s := ⟨p.length - q.length, by omega⟩
 have e1 : growF A (p.length - 1) = 3 * growF A p.length := by
  unfold growF; rw [show 17 - (p.length - 1) = (17 - p.length) + 1 by omega, Nat.pow_succ]
  grind
 have e2 : growF A (q.length - 1) = 3 ^ (s + 1) * growF A p.length := by
  unfold growF; rw [show 17 - (q.length - 1) = (17 - p.length) + (s + 1) by omega, Nat.pow_add]
  grind
 have f1 : 1 ≤ growF A p.length := Nat.mul_pos (by omega) (Nat.pow_pos (by decide))
 have hp3 := pow3_ge (s + 1) (by omega)
 rw [e1, e2, show p.length + 1 - q.length = s + 1 by omega]
 generalize growF A p.length = f at *; generalize 3 ^ (s + 1) = X at *; have h5 : (1 + 4 * (s + 1)) * f ≤ X * f := Nat.mul_le_mul_right _ hp3; have h6 : (s + 1) * 1 ≤ (s + 1) * f := Nat.mul_le_mul_left _ f1; have h7 : (s + 1) * (3 * f + 1) = 3 * ((s + 1) * f) + (s + 1) := by grind
 have h8 : (1 + 4 * (s + 1)) * f = f + 4 * ((s + 1) * f) := by grind
 omega
theorem start_step {A : Nat} {p q : List Int} (hA : 1 ≤ A) (h : StartC A p q) (hq : q ≠ []) : InvC A q (lessI p q) := by
 obtain ⟨h1, h2, h3, h4⟩ := h; have hq0 : 0 < q.length := List.length_pos_iff.2 hq; have g0 : ∀ n, A ≤ growF A n := fun n => Nat.le_mul_of_pos_right _ (Nat.pow_pos (by decide))
 refine ⟨h2, lessI_len hq, h4.mono (g0 _), (lessI_sz h3 h4).mono ?_⟩
 unfold growF; obtain ⟨k, hk⟩ : ∃ k, 17 - (q.length - 1) = k := ⟨_, rfl⟩; have hk1 : p.length + 1 - q.length ≤ k := by omega
 rw [hk]; have h5 : (p.length + 1 - q.length) * (A + 1) ≤ k * (A + 1) := Nat.mul_le_mul_right _ hk1; have h6 := pow3_ge1 k (by omega)
 have h7 : A * (1 + 2 * k) ≤ A * 3 ^ k := Nat.mul_le_mul_left _ h6; have h8 : A * (1 + 2 * k) = A + 2 * (A * k) := by grind
 have h9 : k * (A + 1) = A * k + k := by grind
 have h10 : 1 * k ≤ A * k := Nat.mul_le_mul_right _ hA; omega
theorem inv_bound {A : Nat} {p q : List Int} (hA : A ≤ 300) (h : InvC A p q) (hq : q ≠ []) : growF A p.length + (p.length + 1) * (growF A (p.length - 1) + 1) ≤ 50000000000 := by
 obtain ⟨h1, h2, -, -⟩ := h; have hq0 : 0 < q.length := List.length_pos_iff.2 hq; generalize p.length = n at *; have hn : 2 ≤ n := by omega
 unfold growF; have hc : ∀ n, n < 18 → 2 ≤ n → 300 * 3 ^ (17 - n) + (n + 1) * (300 * 3 ^ (17 - (n - 1)) + 1) ≤ 50000000000 := by decide
 refine Nat.le_trans (Nat.add_le_add (Nat.mul_le_mul_right _ hA) (Nat.mul_le_mul_left _ (Nat.add_le_add_right (Nat.mul_le_mul_right _ hA) 1))) (hc n (by omega) hn)
theorem start_bound {A : Nat} {p q : List Int} (hA : A ≤ 300) (h : StartC A p q) : A + (p.length + 1) * (A + 1) ≤ 50000000000 := by
 obtain ⟨h1, -, -, -⟩ := h; have : (p.length + 1) * (A + 1) ≤ 18 * 301 := Nat.mul_le_mul (by omega) (by omega)
 omega
theorem info101z : (Tryz.prog.info? 101).map (fun i => (i.zero, i.size, i.bytes)) = some (some (.slice none 0 0), 1, 24) := by kernel_rfl
theorem und104z : Tryz.prog.underlying 104 = some (.slice 101) := by kernel_rfl
theorem app_zz {ops : Array Oper} {rest : List Oper} {o : Oper} {a : Act} {w : World} {Q : Exit → Act → World → Prop} (hgd : o.guard = none) (s x : Operand)
 (ho : o.op = .call { callee := .builtin .append, args := #[s, x], argTypes := #[104, 104] }) (base : Nat) {v : Value} {l m : List (List Int)} (hs : a.eval s = v) (hown : Ox 101 (Rw 160 EI) base w v l)
 {ad : Option Addr} {k c : Nat} (hx : a.eval x = .slice ad k c) (hm : Rw 101 (Rw 160 EI) w (.slice ad k c) m) (h0 : 0 < m.length) (hlen : l.length + m.length ≤ 1048576) (hbase : base ≤ w.heap.size)
 (h : ∀ g cap n' w', n' = l.length + m.length → Ox 101 (Rw 160 EI) base w' (.slice (some ⟨g, 0, none⟩) n' cap) (l ++ m) → base ≤ g → (∀ v0 : World, v0.heap.size ≤ base → Below v0.heap.size v0 w → Below v0.heap.size v0 w') → (∀ u y, Rw 160 EI w u y → Rw 160 EI w' u y) → wpList Tryz.prog ops Q rest (a.put o.dst (.slice (some ⟨g, 0, none⟩) n' cap)) w') :
 wpList Tryz.prog ops Q (o :: rest) a w := by
 obtain ⟨ti, hti, htz, hts, htb⟩ := info_parts info101z; exact app_row eok_EZ hgd s x 104 ho base ti _ 24 und104z hti htz hts htb rfl (by decide) hs hown hx hm h0 hlen hbase h
section
variable {α : Type} {T : Nat} {E : World → Value → α → Prop}
theorem Ox.one (e : EOk T E) {w : World} {u : Value} {x : α} (h : E w u x) {s : Nat} [hs : HasSize w s] : Ox T E s (w.alloc (.cells #[u] T)) (.slice (some ⟨s, 0, none⟩) 1 1) [x] := by
 refine ⟨[u], ⟨rfl, .inr ⟨s, 1, #[u], rfl, Nat.le_refl _, block_at _ _ _, Nat.le_refl _, by unfold maxLen; omega, rfl, rfl⟩⟩, fun i y hy => ?_⟩
 rcases i with _ | i
 · obtain rfl : x = y := by simpa using hy
   exact ⟨u, rfl, e.below h ((Below.refl _ _).alloc (Nat.le_refl _) _)⟩
 · simp at hy
theorem Ox.mono {b b' : Nat} {w : World} {v : Value} {l : List α} (h : Ox T E b w v l) (k : b' ≤ b) : Ox T E b' w v l := by
 obtain ⟨xs, ⟨h1, h2⟩, h3⟩ := h; refine ⟨xs, ⟨h1, ?_⟩, h3⟩
 rcases h2 with h | ⟨g, cap, cur, rfl, hb, hg, hc, hm, hs, ht⟩
 · exact .inl h
 · exact .inr ⟨g, cap, cur, rfl, Nat.le_trans k hb, hg, hc, hm, hs, ht⟩
end
theorem chainI_stop (k : Nat) (p : List Int) : chainI k p [] = [p] := by
 cases k with
 | zero => rfl
 | succ k => rw [chainI, if_pos rfl]
theorem chainI_step {k : Nat} {p q : List Int} (h : q ≠ []) : chainI (k + 1) p q = p :: chainI k q (lessI p q) := by rw [chainI, if_neg h]
def RowI (A : Nat) (p q : List Int) : Prop := StartC A p q ∨ InvC A p q
theorem RowI.step {A : Nat} {p q : List Int} (hA : 1 ≤ A) (h : RowI A p q) (hq : q ≠ []) : RowI A q (lessI p q) := by
 rcases h with h | h
 · exact .inr (start_step hA h hq)
 · exact .inr (inv_step hA h hq)
theorem RowI.lens {A : Nat} {p q : List Int} (h : RowI A p q) : p.length ≤ 17 ∧ q.length ≤ 17 := by
 rcases h with ⟨h1, h2, -⟩ | ⟨h1, h2, -⟩
 · exact ⟨h1, h2⟩
 · exact ⟨h1, by omega⟩
theorem gaRow {w : World} {v1 v2 : Value} {p q : List Int} {A : Nat} [hv : VrB w] (hp : Rw 160 EI w v1 p) (hq : Rw 160 EI w v2 q) (hA1 : 1 ≤ A) (hA : A ≤ 300) (hI : RowI A p q) :
 Calls Tryz.prog 66 #[v1, v2] w fun e w' => ∃ v', e = .returned v' ∧ Rw 101 (Rw 160 EI) w' v' (rowI p q) ∧ Kp0 w w' := by
 obtain ⟨a1, c1, rfl, -⟩ := hp.form; obtain ⟨a2, c2, rfl, -⟩ := hq.form; have HP := hid hp; have HQ := hid hq; have HI := hid hI; have HA := hid (And.intro hA1 hA)
 have LE := hid (fun (P Q : List Int) (W : World) (u1 u2 : Value) (k1 : VrC W) (h1 : Rw 160 EI W u1 P) (h2 : Rw 160 EI W u2 Q) (h3 : RowI A P Q) (h4 : Q ≠ []) => show Calls Tryz.prog 113 #[u1, u2] W (fun e w' => ∃ v', e = .returned v' ∧ Rw 160 EI w' v' (lessI P Q) ∧ Kp0 W w') from by
  have hq0 : 0 < Q.length := List.length_pos_iff.2 h4; rcases h3 with h3 | h3
  · exact gaLess h1 h2 hq0 (by have := h3.1; omega) (by have := h3.2.1; omega) h3.2.2.1 h3.2.2.2 (start_bound hA h3)
  · exact gaLess h1 h2 hq0 (by have := h3.1; omega) (by have := h3.1; have := h3.2.1; omega) h3.2.2.1 h3.2.2.2 (inv_bound hA h3 h4))
 clear hp hq hI hA hA1; go_enter Tryz.func66, Tryz.ntmps66; go_wp2_with fail
 go_loopw [0, 1, 5] (fun s0 s1 s5 wx => ∃ (P Q : List Int) (pre : List (List Int)) (k : Nat) (b1 b2 : Option Addr) (d1 d2 g n5 c5 : Nat), s0 = .slice b1 P.length d1 ∧ s1 = .slice b2 Q.length d2 ∧ s5 = .slice (some ⟨g, 0, none⟩) n5 c5 ∧ Hid (n5 = pre.length + 1) ∧ Rw 160 EI wx (.slice b1 P.length d1) P ∧ Rw 160 EI wx (.slice b2 Q.length d2) Q ∧ Ox 101 (Rw 160 EI) w.heap.size wx (.slice (some ⟨g, 0, none⟩) n5 c5) (pre ++ [P]) ∧ RowI A P Q ∧ Hid (pre.length + Q.length ≤ q.length) ∧ Hid (Q.length < k) ∧ Hid (pre ++ chainI k P Q = rowI p q) ∧ Kp0 w wx) (fun _ s1 _ _ => match s1 with | .slice _ k _ => k | _ => 0)
 case atStart =>
  have al : ∀ {o : Obj}, Below w.heap.size w (w.alloc o) := (Below.refl _ _).alloc (Nat.le_refl _) _; exact ⟨p, q, [], q.length + 1, a1, a2, c1, c2, _, _, _, rfl, rfl, rfl, hid rfl, HP.out.below eok_EI al, HQ.out.below eok_EI al, Ox.one eok_EZ HP.out, HI.out, hid (by simp), hid (Nat.lt_succ_self _), hid rfl, ⟨Gr.out⟩⟩
 case round =>
  obtain ⟨P, Q, pre, k, b1, b2, d1, d2, g, n5, c5, rfl, rfl, rfl, hn5, hP, hQ, hO, hR, hl, hk, hE, ik⟩ := hrel; obtain ⟨nQ, hnQ⟩ : ∃ nQ, nQ = Q.length := ⟨_, rfl⟩; have hl17 := hR.lens; rw [← hnQ] at hQ hl hk hl17 ⊢; by_cases h0 : nQ = 0
  · subst h0; obtain rfl : Q = [] := List.length_eq_zero_iff.1 hnQ.symm; have HO := hid hO; have HE := hid (show pre ++ [P] = rowI p q by rw [← hE.out, chainI_stop])
    clear hP hQ hO hR hnQ hl17; go_wp2_with fail
    go_ret
    exact ⟨_, rfl, by rw [← HE.out]; exact HO.out.rw, ⟨Gr.out⟩⟩
  · have hne : Q ≠ [] := fun h => h0 (by rw [hnQ, h]; rfl)
    have hpos : (0 : Int) < (nQ : Int) := by omega
    have HNQ := hid hnQ; have HPW := hid hP; have HQW := hid hQ; have HOW := hid hO; have HRI := hid hR; have HNE := hid hne; have H17 := hid hl17; have HLL := hl; have al : Hid (∀ {o : Obj}, Below wr.heap.size wr (wr.alloc o)) := hid ((Below.refl _ _).alloc (Nat.le_refl _) _); have HOA := hid (Ox.one eok_EZ (hQ) (s := wr.heap.size)).rw; have HLP := hid (show (pre ++ [P]).length + [Q].length ≤ 1048576 by have h1 := hl.out; have h2 := HI.out.lens; simp; omega)
    clear hP hQ hO hR hne hnQ hl17 h0; go_wp2_with (first | (at_builtin; refine app_zz rfl _ _ rfl w.heap.size rfl (HOW.out.below eok_EZ al.out) rfl HOA.out Nat.one_pos HLP.out ?_ ?_; (focus (rw [World.size_alloc]; exact Nat.le_succ_of_le (Gr.out (v := w) (W := wr)).size)); intro g' cap' n' wa hn' ho' hg' hbl hke; have HN' := hid hn'; have HO' := hid ho'; have HKE := hid hke; clear hn' ho' hke; haveI ka : Kp0 w wa := ⟨hbl w (Nat.le_refl _) (Gr.out (v := w) (W := wr.alloc _))⟩; have HPA := hid (HKE.out _ _ (HPW.out.below eok_EI al.out)); have HQA := hid (HKE.out _ _ (HQW.out.below eok_EI al.out))) | (go_at_call 113; (with_reducible refine Calls.mono (LE.out _ _ _ _ _ inferInstance HPA.out HQA.out HRI.out HNE.out) ?_); rintro e wb ⟨vb, rfl, hvb, _⟩; have HVB := hid hvb; clear hvb))
    obtain ⟨ab, cb, rfl, -⟩ := HVB.out.form; go_round
    case rel =>
     refine ⟨Q, lessI P Q, pre ++ [P], k - 1, b2, ab, d2, cb, _, _, _, by rw [HNQ.out], rfl, rfl, hid ?_, ?_, HVB.out, ?_, HRI.out.step HA.out.1 HNE.out, hid ?_, hid ?_, hid ?_, ⟨Gr.out⟩⟩
     · rw [HN'.out, List.length_append]; rfl
     · rw [← HNQ.out]; exact HQA.out.below eok_EI Gr.out
     · exact HO'.out.below eok_EZ Gr.out
     · have h1 := lessI_len (p := P) HNE.out; have h2 := HLL.out; have h3 := HNQ.out; rw [List.length_append, List.length_singleton]; omega
     · have h1 := lessI_len (p := P) HNE.out; have h2 := hk.out; have h3 := HNQ.out; omega
     · rw [← hE.out, show k = (k - 1) + 1 by have := hk.out; omega, chainI_step HNE.out, Nat.add_sub_cancel, List.append_assoc, List.singleton_append]
    case measure =>
     have h1 := lessI_len (p := P) HNE.out; have h3 := HNQ.out
     first | (simp; done) | (simp; omega)
end Go.Proofs.YthjeejnggpjnjaaGreatDoor
