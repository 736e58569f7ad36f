/- A part: CG, CI, CJ, CK. -/
import Derived.Test.YthjeejnggpjnjaaGreatDoorZC17
set_option linter.unusedSimpArgs false
set_option linter.unusedVariables false
set_option maxRecDepth 100000
set_option maxHeartbeats 16000000
set_option synthInstance.maxHeartbeats 2000000
set_option synthInstance.maxSize 100000
namespace Go.Proofs.YthjeejnggpjnjaaGreatDoor
open Go.RowKit
def gcdI (l : List Int) : Nat := l.foldl (fun g x => Nat.gcd g x.natAbs) 0
def smallI (l : List Int) : List Int := if gcdI l = 0 then l else l.map (fun x => x.tdiv (gcdI l : Int))
theorem gcdI_take {l : List Int} {j : Nat} {x : Int} (h : l[j]? = some x) : gcdI (l.take (j + 1)) = Nat.gcd (gcdI (l.take j)) x.natAbs := by
 unfold gcdI; rw [List.take_add_one, h, List.foldl_append]; rfl
theorem gcd_len {a b k : Nat} (ha : (words a).length ≤ k) (hb : (words b).length ≤ k) : (words (Nat.gcd a b)).length ≤ k := by
 rcases Nat.eq_zero_or_pos a with h | h
 · subst h; rw [Nat.gcd_zero_left]; exact hb
 · exact Nat.le_trans (len_mono (Nat.le_of_dvd h (Nat.gcd_dvd_left a b))) ha
theorem gcdI_len {L : Nat} {l : List Int} (h : SzI L l) (j : Nat) : (words (gcdI (l.take j))).length ≤ L := by
 induction j with
 | zero =>
   show (words 0).length ≤ _
   rw [words_0]; exact Nat.zero_le _
 | succ j ih =>
   cases hx : l[j]? with
   | none =>
     rw [List.take_add_one, hx, Option.toList_none, List.append_nil]; exact ih
   | some x =>
     rw [gcdI_take hx]; exact gcd_len ih (h.at hx)
theorem smallI_len (l : List Int) : (smallI l).length = l.length := by
 unfold smallI
 split
 · rfl
 · rw [List.length_map]
theorem tdiv_len {x : Int} {g k : Nat} (h : (words x.natAbs).length ≤ k) : (words (x.tdiv (g : Int)).natAbs).length ≤ k := by
 rw [Int.natAbs_tdiv]; exact Nat.le_trans (len_mono (Nat.div_le_self _ _)) h
theorem SzI.small {L : Nat} {l : List Int} (h : SzI L l) : SzI L (smallI l) := by
 unfold smallI
 split
 · exact h
 · intro y hy; obtain ⟨x, hx, rfl⟩ := List.mem_map.1 hy; exact tdiv_len (h x hx)
theorem smallI_at {l : List Int} (h : gcdI l ≠ 0) {j : Nat} {x : Int} (hx : l[j]? = some x) : (smallI l)[j]? = some (x.tdiv (gcdI l : Int)) := by
 unfold smallI; rw [if_neg h, List.getElem?_map, hx]; rfl
theorem gaSmall {w : World} {v : Value} {l : List Int} {L : Nat} [hv : VrB w] (h : Rw 160 EI w v l) (hn : l.length ≤ 4096) (hs : SzI L l) (hL : L ≤ 100000000000) :
 Calls Tryz.prog 169 #[v] w fun e w' => ∃ v', e = .returned v' ∧ Rw 160 EI w' v' (smallI l) ∧ Kp0 w w' := by
 obtain ⟨a, cap, rfl, hcap⟩ := h.form; obtain ⟨n, hn2⟩ : ∃ n, n = l.length := ⟨_, rfl⟩; have HL := hid hn2; rw [← hn2] at hn hcap; have es : (.slice a l.length cap : Value) = .slice a n cap := by rw [hn2]
 rw [es] at h ⊢; have HH := hid h; have GL := hid (fun j : Nat => Nat.le_trans (gcdI_len hs j) (Nat.le_trans hL (by decide : 100000000000 ≤ 137438953472)))
 have SE := hid (fun (j : Nat) (x : Int) (hx : l[j]? = some x) => Nat.le_trans (hs.at hx) (Nat.le_trans hL (by decide : 100000000000 ≤ 137438953472)))
 have HN := hid hn; clear h hn2 es hs hL; go_enter Tryz.func169, Tryz.ntmps169; go_wp2_with fail
 go_loopw [12] (fun s12 wx => ∃ j : Nat, s12 = .int .i64 j ∧ j ≤ n ∧ InC wx w.heap.size ((gcdI (l.take j) : Nat) : Int) ∧ Kp0 w wx) (fun s12 _ => n - (intOf s12).toNat)
 case atStart =>
  refine ⟨0, rfl, by omega, ?_, ⟨Gr.out⟩⟩
  show InC _ _ 0
  infer_instance
 case round =>
  obtain ⟨j, rfl, hj, is, ik⟩ := hrel; by_cases hjn : j = n
  · subst hjn; rw [show l.take j = l by rw [HL.out, List.take_length]] at is
    have gl := GL.out j; rw [show l.take j = l by rw [HL.out, List.take_length]] at gl
    have HG := hid gl; clear hj gl; by_cases hg : gcdI l = 0
    · have b1 : (((gcdI l : Nat) : Int).sign == 0) = true := by rw [hg]; rfl
      have H0 := hid (show smallI l = l by unfold smallI; rw [if_pos hg])
      clear hg; go_wp2_with ((go_at_call 132; (with_reducible refine Calls.mono (biSignC) ?_); rintro e w' ⟨rfl, hw⟩; obtain rfl := hw.symm))
      go_ret
      refine ⟨_, rfl, ?_, ⟨Gr.out⟩⟩
      rw [H0.out]; exact HH.out.below eok_EI Gr.out
    · have hgI : ((gcdI l : Nat) : Int) ≠ 0 := by omega
      have b1 : (((gcdI l : Nat) : Int).sign == 0) = false := beq_eq_false_iff_ne.2 (fun h => hgI (Int.sign_eq_zero_iff_zero.1 h))
      have HG0 := hid hg; have HGI := hid hgI; have GB : Hid ((words ((gcdI l : Nat) : Int).natAbs).length ≤ 137438953472) := hid (by rw [Int.natAbs_natCast]; exact HG.out)
      clear hg hgI; go_wp2_with (first | (go_at_call 132; (with_reducible refine Calls.mono (biSignC) ?_); rintro e w' ⟨rfl, hw⟩; obtain rfl := hw.symm) | (at_make; refine make_z (E := EI) (smallI l) _ rfl _ _ rfl _ j rfl rfl (by first | rfl | omega | simp) (by omega) ?_; intro w1 hF hK1))
      go_loopw [32] (fun s32 wx => ∃ i : Nat, s32 = .int .i64 i ∧ i ≤ j ∧ Fl 160 EI wx wr.heap.size j (smallI l) i ∧ Kp0 wr wx) (fun s32 _ => j - (intOf s32).toNat)
      case atStart => exact ⟨0, rfl, by omega, hF, hK1⟩
      case round =>
       obtain ⟨i, rfl, hi, fl, ik2⟩ := hrel; by_cases hij : i = j
       · subst hij; have R := hid (fl.done (by rw [smallI_len, ← HL.out]; exact Nat.le_refl _) (by rw [smallI_len, ← HL.out]))
         clear hi fl; go_wp2_with fail
         go_ret
         exact ⟨_, rfl, R.out, ⟨Gr.out⟩⟩
       · have hlt : i < j := by omega
         have hI : (i : Int) < (j : Int) := by omega
         have h0 : (0 : Int) ≤ (i : Int) := by omega
         have hx : l[i]? = some l[i] := List.getElem?_eq_getElem (by rw [← HL.out]; omega)
         generalize l[i] = x at hx; obtain ⟨g, off, u, rfl, hg, cj, p2, rfl, hIx⟩ := HH.out.at hx; haveI : Has w g := ⟨hg⟩; haveI : InC w p2 x := ⟨hIx⟩; obtain ⟨⟨u2, cu⟩, fu⟩ := fl.slot hlt; haveI hgb := (⟨fl.lt⟩ : Has wr _); have FL := hid fl; have HX := hid hx; have k1 : Hid ((words x.natAbs).length ≤ 137438953472) := hid (SE.out i x hx); have HI := hid hlt; clear hx hIx hij hi fl hlt; go_wp2_with ((go_at_call 162; (with_reducible refine Calls.mono (biQuoC k1.out GB.out HGI.out) ?_); rintro e wc ⟨rfl, hq, _⟩))
         go_round
         case rel =>
          refine ⟨i + 1, by go_num, HI.out, ?_, ⟨Gr.out⟩⟩
          exact (FL.out.below eok_EI Gr.out).put eok_EI HI.out (smallI_at HG0.out HX.out) ⟨_, rfl, hq.out⟩
         case measure => first | (simp [intOf]; done) | (simp [intOf]; omega)
  · have hlt : j < n := by omega
    have hI : (j : Int) < (n : Int) := by omega
    have h0 : (0 : Int) ≤ (j : Int) := by omega
    have hx : l[j]? = some l[j] := List.getElem?_eq_getElem (by rw [← HL.out]; omega)
    generalize l[j] = x at hx; obtain ⟨g, off, u, rfl, hg, cj, p2, rfl, hIx⟩ := HH.out.at hx; haveI : Has w g := ⟨hg⟩; haveI : InC w p2 x := ⟨hIx⟩; have HX := hid (gcdI_take hx); have k1 := hid (SE.out j x hx); have k2 : Hid ((words ((gcdI (l.take j) : Nat) : Int).natAbs).length ≤ 137438953472) := hid (by rw [Int.natAbs_natCast]; exact GL.out j)
    have k3 : Hid ((words ((x.natAbs : Nat) : Int).natAbs).length ≤ 137438953472) := hid (by rw [Int.natAbs_natCast]; exact k1.out)
    have k4 : Hid ((words x.natAbs).length ≤ 1099511627776) := hid (Nat.le_trans k1.out (by decide))
    clear hx hIx hjn hj; go_wp2_with (first | (go_at_call 165; (with_reducible refine Calls.mono (biAbsC k4.out) ?_); rintro e wc ⟨rfl, _, _⟩) | (go_at_call 161; (with_reducible refine Calls.mono (biGcdC k2.out k3.out) ?_); rintro e wc ⟨rfl, hgcd, _⟩))
    go_round
    case rel =>
     refine ⟨j + 1, by go_num, by omega, ?_, ⟨Gr.out⟩⟩
     rw [HX.out]; rw [Int.natAbs_natCast, Int.natAbs_natCast] at hgcd; exact hgcd
    case measure => first | (simp [intOf]; done) | (simp [intOf]; omega)
def lastI (l : List Int) : Int := l.getD (l.length - 1) 0
def topI (r q : List Int) : Int := if lastI q < 0 then -lastI r else lastI r
def nxtI (r q : List Int) (i : Nat) : Int := r.getD i 0 * ((lastI q).natAbs : Int) - (if r.length - q.length ≤ i then topI r q * q.getD (i - (r.length - q.length)) 0 else 0)
def nextI (r q : List Int) : List Int := (List.range (r.length - 1)).map (nxtI r q)
def remI : Nat → List Int → List Int → List Int
 | 0, r, _ => r
 | k + 1, r, q => if q.length ≤ r.length then remI k (cutI (nextI r q)) q else r
def lessI (p q : List Int) : List Int := smallI ((remI (p.length + 1) p q).map (fun x => -x))
theorem nextI_len (r q : List Int) : (nextI r q).length = r.length - 1 := by unfold nextI; rw [List.length_map, List.length_range]
theorem nextI_at {r q : List Int} {i : Nat} (h : i < r.length - 1) : (nextI r q)[i]? = some (nxtI r q i) := by
 unfold nextI; rw [List.getElem?_map, List.getElem?_range h]; rfl
theorem nxtI_low {r q : List Int} {i : Nat} (h : i < r.length - q.length) : nxtI r q i = r.getD i 0 * ((lastI q).natAbs : Int) := by
 unfold nxtI; rw [if_neg (by omega), Int.sub_zero]
theorem nxtI_high {r q : List Int} {i : Nat} (h : r.length - q.length ≤ i) : nxtI r q i = r.getD i 0 * ((lastI q).natAbs : Int) - topI r q * q.getD (i - (r.length - q.length)) 0 := by
 unfold nxtI; rw [if_pos h]
theorem getD_len {L : Nat} {l : List Int} (h : SzI L l) (i : Nat) : (words (l.getD i 0).natAbs).length ≤ L := by
 rw [List.getD_eq_getElem?_getD]; cases hx : l[i]? with
 | none =>
   rw [Option.getD_none, show (0 : Int).natAbs = 0 from rfl, words_0]
   exact Nat.zero_le _
 | some x => exact h.at hx
theorem mulI_len {x y : Int} {L M : Nat} (hx : (words x.natAbs).length ≤ L) (hy : (words y.natAbs).length ≤ M) : (words (x * y).natAbs).length ≤ L + M := by
 rw [Int.natAbs_mul]; exact Nat.le_trans (mul_len _ _) (Nat.add_le_add hx hy)
theorem subI_len {x y : Int} {k : Nat} (hx : (words x.natAbs).length ≤ k) (hy : (words y.natAbs).length ≤ k) : (words (x - y).natAbs).length ≤ k + 1 := by
 rw [Int.sub_eq_add_neg]; exact addI_len hx (by rw [Int.natAbs_neg]; exact hy)
theorem topI_len {L : Nat} {r q : List Int} (h : SzI L r) : (words (topI r q).natAbs).length ≤ L := by
 unfold topI
 split
 · rw [Int.natAbs_neg]; exact getD_len h _
 · exact getD_len h _
theorem SzI.next {L M : Nat} {r q : List Int} (h : SzI L r) (k : SzI M q) : SzI (L + (M + 1)) (nextI r q) := by
 intro x hx; obtain ⟨i, -, rfl⟩ := List.mem_map.1 hx; unfold nxtI; have h1 : (words (r.getD i 0 * ((lastI q).natAbs : Int)).natAbs).length ≤ L + M := mulI_len (getD_len h i) (by rw [Int.natAbs_natCast]; exact getD_len k _)
 rw [← Nat.add_assoc]; refine subI_len h1 ?_
 split
 · exact mulI_len (topI_len h) (getD_len k _)
 · rw [show (0 : Int).natAbs = 0 from rfl, words_0]
   exact Nat.zero_le _
theorem remI_len : ∀ (k : Nat) (r q : List Int), r.length < k → (remI k r q).length < q.length ∨ q.length = 0 := by
 intro k
 induction k with
 | zero => intro r q h; omega
 | succ k ih =>
   intro r q h; rw [remI]; by_cases hq : q.length ≤ r.length
   · rw [if_pos hq]; by_cases h0 : q.length = 0
     · exact Or.inr h0
     · refine ih _ q ?_
       have := cutI_len (nextI r q); rw [nextI_len] at this; omega
   · rw [if_neg hq]; exact Or.inl (by omega)
theorem SzI.neg {L : Nat} {l : List Int} (h : SzI L l) : SzI L (l.map (fun x => -x)) := by
 intro y hy; obtain ⟨x, hx, rfl⟩ := List.mem_map.1 hy; rw [Int.natAbs_neg]; exact h x hx
def negT (R : List Int) (i : Nat) : List Int := (R.take i).map (fun x => -x) ++ R.drop i
theorem negT_0 (R : List Int) : negT R 0 = R := by unfold negT; simp
theorem negT_all (R : List Int) : negT R R.length = R.map (fun x => -x) := by unfold negT; simp
theorem negT_len (R : List Int) (i : Nat) : (negT R i).length = R.length := by
 unfold negT; rw [List.length_append, List.length_map, List.length_take, List.length_drop]; omega
theorem negT_at {R : List Int} {i : Nat} {x : Int} (h : R[i]? = some x) : (negT R i)[i]? = some x := by
 obtain ⟨hi, -⟩ := List.getElem?_eq_some_iff.1 h; unfold negT; rw [List.getElem?_append_right (by rw [List.length_map, List.length_take]; omega), List.length_map, List.length_take, Nat.min_eq_left (by omega), Nat.sub_self, List.getElem?_drop, Nat.add_zero]
 exact h
theorem negT_next {R : List Int} {i : Nat} {x : Int} (h : R[i]? = some x) : negT R (i + 1) = (negT R i).set i (-x) := by
 obtain ⟨hi, hx⟩ := List.getElem?_eq_some_iff.1 h; unfold negT; have e : (List.map (fun x => -x) (List.take i R)).length = i := by rw [List.length_map, List.length_take]; omega
 rw [List.set_append_right _ _ (by omega), e, Nat.sub_self, List.drop_eq_getElem_cons hi, List.set_cons_zero, List.take_add_one, h, List.map_append]
 simp
theorem remI_stop {k : Nat} {r q : List Int} (hk : 0 < k) (h : ¬ q.length ≤ r.length) : remI k r q = r := by
 obtain ⟨j, rfl⟩ : ∃ j, k = j + 1 := ⟨k - 1, by omega⟩
 rw [remI, if_neg h]
theorem remI_step {k : Nat} {r q : List Int} (h : q.length ≤ r.length) : remI (k + 1) r q = remI k (cutI (nextI r q)) q := by rw [remI, if_pos h]
instance (priority := 100) setC_any (L : List Value) (i : Nat) (x : Value) : SetC L i x (L.set i x) := ⟨rfl⟩
instance notW160 : NotW 160 := ⟨by decide⟩
instance notW101 : NotW 101 := ⟨by decide⟩
class KG (v : World) (g : Nat) (W : World) : Prop where
 out : Keeps v.heap.size [g] v W
instance kg_refl (v : World) (g : Nat) : KG v g v := ⟨Keeps.refl _ _ _⟩
instance kg_alloc (v : World) (g : Nat) (W : World) (o : Obj) [h : KG v g W] : KG v g (W.alloc o) := ⟨h.out.alloc h.out.size o⟩
instance kg_drew (v : World) (g : Nat) (W : World) [h : KG v g W] : KG v g W.drew := ⟨h.out.drew⟩
instance kg_kp0 (v : World) (g : Nat) (W w' : World) [k : Kp0 W w'] [h : KG v g W] : KG v g w' := ⟨h.out.trans ((Keeps.of_below k.out).mono h.out.size (fun _ _ h => h))⟩
instance kg_kp1 (v : World) (g n : Nat) (W w' : World) [k : Kp1 W n w'] [h : KG v g W] [u : Up v.heap.size n] : KG v g w' := ⟨h.out.trans (k.out.mono h.out.size (fun q hq hn => by
 rw [List.mem_singleton] at hn; have := u.out
 omega))⟩
instance kg_set (v : World) (g i : Nat) (x : Value) (W : World) [h : KG v g W] : KG v g (W.setCell ⟨g, i, none⟩ x) := ⟨h.out.set (Or.inl (List.mem_singleton.2 rfl)) i x⟩
instance kg_setN (v : World) (g n i : Nat) (x : Value) (W : World) [h : KG v g W] [u : Up v.heap.size n] : KG v g (W.setCell ⟨n, i, none⟩ x) := ⟨h.out.set (Or.inr u.out) i x⟩
section
variable {α : Type} {T : Nat} {E : World → Value → α → Prop}
theorem Fl.bk {w : World} {g n j : Nat} {l : List α} (e : EOk T E) (h : Fl T E w g n l j) : ∃ L, Bk w g L T ∧ L.length = n ∧ ∀ (i : Nat) (x : α), i < j → l[i]? = some x → ∃ u, L[i]? = some u ∧ E w u x := by
 obtain ⟨C, h1, h2, h3⟩ := h; refine ⟨C.toList, ⟨h1, e.ne⟩, by rw [Array.length_toList]; exact h2, fun i x hi hx => ?_⟩
 obtain ⟨u, q1, q2⟩ := h3 i x hi hx; exact ⟨u, by rw [Array.getElem?_toList]; exact q1, q2⟩
theorem Fl.step (e : EOk T E) {w W : World} {g n j : Nat} {l : List α} {L : List Value} {u : Value} {x : α} (hb : Bk w g L T) (hn : L.length = n) (h : ∀ (i : Nat) (x : α), i < j → l[i]? = some x → ∃ u, L[i]? = some u ∧ E w u x) (hW : Bk W g (L.set j u) T) (kg : Keeps w.heap.size [g] w W) (hj : j < n) (hx : l[j]? = some x) (hu : E W u x) : Fl T E W g n l (j + 1) := by
 refine ⟨(L.set j u).toArray, hW.1, by simp [hn], fun i y hi hy => ?_⟩
 rw [List.getElem?_toArray, List.getElem?_set]; by_cases hij : j = i
 · subst hij; rw [if_pos rfl, if_pos (by omega)]
   rw [hx] at hy; exact ⟨u, rfl, (Option.some.inj hy) ▸ hu⟩
 · rw [if_neg hij]; obtain ⟨v, q1, q2⟩ := h i y (by omega) hy
   exact ⟨v, q1, e.keep hb.1 kg q2⟩
theorem Rw.step (e : EOk T E) {w W : World} {g off n cap i : Nat} {l : List α} {L : List Value} {u : Value} {x : α} (h : Rw T E w (.slice (some ⟨g, off, none⟩) n cap) l) (hb : Bk w g L T) (hi : i < n) (hW : Bk W g (L.set (off + i) u) T) (kg : Keeps w.heap.size [g] w W) (hu : E W u x) : Rw T E W (.slice (some ⟨g, off, none⟩) n cap) (l.set i x) := by
 obtain ⟨a, c, h1, h2, h3⟩ := h; simp only [Value.slice.injEq] at h1; obtain ⟨rfl, rfl, rfl⟩ := h1; obtain ⟨g', off', C, k1, k2, k3⟩ := h3 (by omega)
 simp only [Option.some.injEq, Addr.mk.injEq, and_true] at k1; obtain ⟨rfl, rfl⟩ := k1
 have hC : C = L.toArray := by
  have := k2.symm.trans hb.1; simp only [Option.some.injEq, Obj.cells.injEq] at this; exact this.1
 subst hC; refine ⟨_, _, by rw [List.length_set], by rw [List.length_set]; exact h2, fun _ => ⟨g, off, (L.set (off + i) u).toArray, rfl, hW.1, fun j y hy => ?_⟩⟩
 rw [List.getElem?_toArray, List.getElem?_set]; rw [List.getElem?_set] at hy; by_cases hij : i = j
 · subst hij; rw [if_pos rfl, if_pos hi] at hy; obtain ⟨z, q1, -⟩ := k3 i l[i] (List.getElem?_eq_getElem hi); rw [List.getElem?_toArray] at q1; obtain ⟨hlt, -⟩ := List.getElem?_eq_some_iff.1 q1; rw [if_pos rfl, if_pos hlt]; exact ⟨u, rfl, (Option.some.inj hy) ▸ hu⟩
 · rw [if_neg hij] at hy; rw [if_neg (by omega)]
   obtain ⟨v, q1, q2⟩ := k3 j y hy; rw [List.getElem?_toArray] at q1; exact ⟨v, q1, e.keep hb.1 kg q2⟩
theorem Rw.bk (e : EOk T E) {w : World} {g off n cap : Nat} {l : List α} (h : Rw T E w (.slice (some ⟨g, off, none⟩) n cap) l) (h0 : 0 < l.length) : ∃ L, Bk w g L T := by
 obtain ⟨a, c, h1, h2, h3⟩ := h; simp only [Value.slice.injEq] at h1; obtain ⟨rfl, rfl, rfl⟩ := h1; obtain ⟨g', off', C, k1, k2, -⟩ := h3 h0; simp only [Option.some.injEq, Addr.mk.injEq, and_true] at k1; obtain ⟨rfl, rfl⟩ := k1; exact ⟨C.toList, k2, e.ne⟩
end
theorem app_z {ops : Array Oper} {rest : List Oper} {o : Oper} {a : Act} {w : World} {Q : Exit → Act → World → Prop} (hgd : o.guard = none) (s x : Operand)
 (ho : o.op = .call { callee := .builtin .append, args := #[s, x], argTypes := #[101, 101] }) (base : Nat) {v : Value} {l m : List Int} (hs : a.eval s = v) (hown : Ox 160 EI base w v l)
 {ad : Option Addr} {k c : Nat} (hx : a.eval x = .slice ad k c) (hm : Rw 160 EI w (.slice ad k c) m) (h0 : 0 < m.length) (hlen : l.length + m.length ≤ 1048576) (hbase : base ≤ w.heap.size)
 (h : ∀ g cap n' w', n' = l.length + m.length → Ox 160 EI base w' (.slice (some ⟨g, 0, none⟩) n' cap) (l ++ m) → base ≤ g → (∀ v0 : World, v0.heap.size ≤ base → Below v0.heap.size v0 w → Below v0.heap.size v0 w') → (∀ u y, EI w u y → EI w' u y) → wpList Tryz.prog ops Q rest (a.put o.dst (.slice (some ⟨g, 0, none⟩) n' cap)) w') :
 wpList Tryz.prog ops Q (o :: rest) a w := by
 obtain ⟨ti, hti, htz, hts, htb⟩ := info_parts info160z; exact app_row eok_EI hgd s x 101 ho base ti _ 8 und101z hti htz hts htb rfl (by decide) hs hown hx hm h0 hlen hbase h
theorem getD_some {l : List Int} {i : Nat} (h : i < l.length) : l[i]? = some (l.getD i 0) := by
 rw [List.getElem?_eq_getElem h, List.getD_eq_getElem?_getD, List.getElem?_eq_getElem h]; rfl
theorem mulT {t P M L : Nat} (h : L + (P + 1) * (M + 1) ≤ 50000000000) (ht : t ≤ P) : L + t * (M + 1) ≤ 50000000000 :=
 Nat.le_trans (Nat.add_le_add_left (Nat.mul_le_mul_right _ (by omega)) _) h
theorem gaLessPos {w : World} {v1 v2 : Value} {p q : List Int} {L M : Nat} [hv : VrB w] (hp : Rw 160 EI w v1 p) (hq : Rw 160 EI w v2 q) (p0 : 0 < p.length) (q0 : 0 < q.length) (np : p.length ≤ 4096) (nq : q.length ≤ 4096) (sp : SzI L p) (sq : SzI M q) (hb : L + (p.length + 1) * (M + 1) ≤ 50000000000) (hs : ¬ lastI q < 0) :
 Calls Tryz.prog 113 #[v1, v2] w fun e w' => ∃ v', e = .returned v' ∧ Rw 160 EI w' v' (lessI p q) ∧ Kp0 w w' := by
 obtain ⟨a1, c1, rfl, hc1⟩ := hp.form; obtain ⟨a2, c2, rfl, hc2⟩ := hq.form; obtain ⟨m, hm⟩ : ∃ m, q.length = m + 1 := ⟨q.length - 1, by omega⟩
 have hlast : q[m]? = some (lastI q) := by
  have := getD_some (l := q) (i := m) (by omega)
  unfold lastI; rw [hm, Nat.add_sub_cancel]; exact this
 have HQ := hid hq; have HP := hid hp; have HM := hid hm; have HNQ := hid nq; have HP0 := hid p0; have HB := hid hb
 have HBm := hid (show M + 1 ≤ 50000000000 by
  have : 1 * (M + 1) ≤ (p.length + 1) * (M + 1) := Nat.mul_le_mul_right _ (by omega)
  omega)
 have HNP := hid np; have SP := hid sp; have SQ := hid sq; have LR := hid (show lessI p q = smallI ((remI (p.length + 1) p q).map (fun x => -x)) from rfl)
 obtain ⟨g2, off2, u2, rfl, hg2, cl, kh, rfl, hIh⟩ := hq.at hlast; haveI : Has w g2 := ⟨hg2⟩; haveI : InC w kh (lastI q) := ⟨hIh⟩; have KL := hid (Nat.le_trans (sq.at hlast) (show M ≤ 1099511627776 by have := HBm.out; omega))
 have KQ := hid (fun j : Nat => getD_len sq j)
 have e1 : ((m + 1 : Nat) : Int) - 1 = (m : Int) := by omega
 have hmI0 : (0 : Int) ≤ (m : Int) := by omega
 have hm4 : (m : Int) ≤ 4096 := by omega
 have hmI1 : (m : Int) < ((m + 1 : Nat) : Int) := by omega
 have hsg : ¬ (lastI q).sign < 0 := by have := Int.sign_nonneg_iff.2 (Int.not_lt.1 hs); omega
 have TOP := hid (fun R : List Int => show topI R q = lastI R by unfold topI; rw [if_neg hs])
 rw [hm]; rw [hm] at HQ; generalize hPl : p.length = P at *; have HPl := hid hPl; clear hp hq q0 nq np p0 sp sq hb hlast hIh hm hPl hc1 hc2; go_enter Tryz.func113, Tryz.ntmps113; go_wp2_with (first | (at_builtin; refine app_z rfl _ _ rfl w.heap.size (v := .slice none 0 0) (l := []) rfl (Ox.nil _ _) rfl HP.out (by rw [HPl.out]; exact HP0.out) (by rw [HPl.out]; have := HNP.out; simp; omega) (Nat.le_refl _) ?_; intro g1 cap1 n1 w1 hn1 ho1 hg1 hbl1 hke1; have HN1 := hid hn1; have HO1 := hid ho1; clear hn1 ho1; haveI k1 : Kp0 w w1 := ⟨hbl1 w (Nat.le_refl _) (Below.refl _ _)⟩) | (go_at_call 165; (with_reducible refine Calls.mono (biAbsC KL.out) ?_); rintro e wl ⟨rfl, _, _⟩))
 have hn1 := HN1.out; rw [List.length_nil, Nat.zero_add, HPl.out] at hn1; have HO := HO1; rw [List.nil_append, hn1] at HO; clear HN1 HO1; obtain rfl := hn1; go_loopw [5] (fun s5 wx => ∃ (R : List Int) (t : Nat) (r1 : Option Addr) (cR : Nat), s5 = .slice r1 R.length cR ∧ Rw 160 EI wx (.slice r1 R.length cR) R ∧ Hid (Fresh w.heap.size (.slice r1 R.length cR)) ∧ Hid (R.length + t ≤ n1) ∧ Hid (SzI (L + t * (M + 1)) R) ∧ Hid (remI (n1 + 1 - t) R q = remI (n1 + 1) p q) ∧ Kp0 wl wx) (fun s5 _ => match s5 with | .slice _ k _ => k | _ => 0)
 case atStart =>
  refine ⟨p, 0, some ⟨g1, 0, none⟩, cap1, by rw [HPl.out], ?_, hid (Fresh.own hg1), hid (by rw [HPl.out]; omega), hid (by rw [Nat.zero_mul, Nat.add_zero]; exact SP.out), hid rfl, ⟨Gr.out⟩⟩
  rw [HPl.out]; exact (HO.out.below eok_EI Gr.out).rw
 case round =>
  obtain ⟨R, t, r1, cR, rfl, hR, hF, hT, hS, hE, ik⟩ := hrel; have HR := hid hR; obtain ⟨nR, hnR⟩ : ∃ nR, nR = R.length := ⟨_, rfl⟩; rw [← hnR] at hF HR ⊢; have HnR := hid hnR; have HB1 := hid (mulT HB.out (t := t) (by have := hT.out; omega))
  clear hR hnR; by_cases hge : m + 1 ≤ nR
  · obtain ⟨K, rfl⟩ : ∃ k, nR = k + 1 := ⟨nR - 1, by omega⟩
    obtain ⟨d, hK⟩ : ∃ d, K = m + d := ⟨K - m, by omega⟩
    have HK := hid hK; have hgI : ((m + 1 : Nat) : Int) ≤ ((K + 1 : Nat) : Int) := by omega
    have hk4 : K + 1 ≤ 4096 := by have h1 := hT.out; have h2 := HNP.out; have h3 := HnR.out; omega
    have hx : R[K]? = some (lastI R) := by
     have := getD_some (l := R) (i := K) (by rw [← HnR.out]; omega)
     unfold lastI; rw [← HnR.out, Nat.add_sub_cancel]; exact this
    obtain ⟨gr, offr, u, rfl, hgr, ct, kt, rfl, hIt⟩ := HR.out.at hx; haveI : Has wr gr := ⟨hgr⟩; haveI : InC wr kt (lastI R) := ⟨hIt⟩; have BR := hid (fun j : Nat => Nat.le_trans (getD_len hS.out j) HB1.out)
    have BL : Hid ((words (lastI R).natAbs).length ≤ 1099511627776) := hid (Nat.le_trans (BR.out _) (by decide))
    have BT : Hid ((words (topI R q).natAbs).length ≤ 50000000000) := hid (Nat.le_trans (topI_len hS.out) HB1.out); have HTT := hid (TOP.out R); have f1 : ((K + 1 : Nat) : Int) - 1 = (K : Int) := by omega
    have f2 : ((K + 1 : Nat) : Int) - ((m + 1 : Nat) : Int) = (d : Int) := by omega
    have f2c : (K : Int) + 1 - ((m : Int) + 1) = (d : Int) := by omega
    have f2b : (K : Int) - (m : Int) = (d : Int) := by omega
    have f3 : (K : Int) ≤ 4096 := by omega
    have f4 : (0 : Int) ≤ (K : Int) := by omega
    have f5 : (K : Int) < ((K + 1 : Nat) : Int) := by omega
    have f6 : (d : Int) ≤ 4096 := by omega
    have f7 : (0 : Int) ≤ (d : Int) := by omega
    clear hx hIt hK hge; go_upto_region 9 with (first | (go_at_call 166; (with_reducible refine Calls.mono (biSetC BL.out) ?_); rintro e wf ⟨rfl, _, _⟩) | (go_at_call 132; (with_reducible refine Calls.mono (biSignC) ?_); rintro e w' ⟨rfl, hw⟩; obtain rfl := hw.symm) | (go_at_call 167; (with_reducible refine Calls.mono (biNegC BL.out) ?_); rintro e wf ⟨rfl, _, _⟩))
    have HRf := hid (HR.out.below eok_EI (Gr.out (v := wr) (W := wf))); have HQf := hid (HQ.out.below eok_EI (Gr.out (v := w) (W := wf))); haveI : InC wf wr.heap.size (topI R q) := by rw [HTT.out]; infer_instance
    haveI : InC wf w1.heap.size ((lastI q).natAbs : Int) := inferInstance; haveI : Gr w wf := inferInstance; haveI : Gr wl wf := inferInstance; go_wp2_with (at_make; refine make_z (E := EI) (nextI R q) _ rfl _ _ rfl _ K rfl rfl (by first | rfl | omega | simp) (by omega) ?_; intro wn hF0 hK0)
    go_loopw [56] (fun s56 wx => ∃ i : Nat, s56 = .int .i64 i ∧ i ≤ K ∧ Fl 160 EI wx wf.heap.size K (nextI R q) i ∧ Kp0 wf wx) (fun s56 _ => K - (intOf s56).toNat)
    case atStart => exact ⟨0, rfl, Nat.zero_le _, hF0, hK0⟩
    case round =>
     obtain ⟨i, rfl, hi, fl, ik4⟩ := hrel; by_cases hiK : i = K
     · subst hiK; have HD := hid (fl.done (by rw [nextI_len, ← HnR.out]; omega) (by rw [nextI_len, ← HnR.out]; omega))
       clear hi fl; go_wp2_with (go_at_call 164; (with_reducible refine Calls.mono (gaCut HD.out (by rw [nextI_len, ← HnR.out]; have := hT.out; have := HNP.out; omega)) ?_); rintro e w' ⟨vc, rfl, hcut, hown, hw⟩; obtain rfl := hw.symm)
       obtain ⟨ac, cc, rfl, hcc⟩ := hcut.form
       have hlen : (cutI (nextI R q)).length ≤ i := by
        have h1 := cutI_len (nextI R q); rw [nextI_len, ← HnR.out] at h1; omega
       have HCUT := hid hcut; have HOWN := hid hown; have HLEN := hid hlen; clear hcut hown; go_round
       case rel =>
        refine ⟨cutI (nextI R q), t + 1, ac, cc, rfl, HCUT.out, hid (Fresh.of (Fresh.own (Gr.out (v := w) (W := wf)).size) HOWN.out), hid ?_, hid ?_, hid ?_, ⟨Gr.out⟩⟩
        · have h1 := hT.out; have h2 := HnR.out; have h3 := HLEN.out; omega
        · rw [Nat.add_mul, Nat.one_mul, ← Nat.add_assoc]; exact (hS.out.next SQ.out).cut
        · rw [← hE.out, show n1 + 1 - t = (n1 + 1 - (t + 1)) + 1 by have h1 := hT.out; have h2 := HnR.out; omega]
          exact (remI_step (by rw [HM.out, ← HnR.out]; have := HK.out; omega)).symm
       case measure => first | (simp; done) | (simp; omega)
     · have hlt : i < K := by omega
       have hI : (i : Int) < (K : Int) := by omega
       have hI2 : (i : Int) < ((K + 1 : Nat) : Int) := by omega
       have h0 : (0 : Int) ≤ (i : Int) := by omega
       have hx := getD_some (l := R) (i := i) (by rw [← HnR.out]; omega)
       obtain ⟨gx, ox, u, he, hgx, cx, kx, rfl, hIx⟩ := HRf.out.at hx; simp only [Option.some.injEq, Addr.mk.injEq, and_true] at he; obtain ⟨rfl, rfl⟩ := he; haveI : Has wf gr := ⟨hgx⟩; haveI : InC wf kx (R.getD i 0) := ⟨hIx⟩
       have BM : Hid ((words ((lastI q).natAbs : Int).natAbs).length ≤ 50000000000) := hid (by
        rw [Int.natAbs_natCast]; have h1 := KQ.out (q.length - 1); have h2 := HBm.out; exact Nat.le_trans h1 (by omega))
       have KM : Hid ((words (R.getD i 0).natAbs).length + (words ((lastI q).natAbs : Int).natAbs).length ≤ 137438953472) := hid (Nat.le_trans (Nat.add_le_add (BR.out i) BM.out) (by decide))
       obtain ⟨⟨u2, cu⟩, fu⟩ := fl.slot hlt; obtain ⟨Lc, hLc, hLn, hLe⟩ := fl.bk eok_EI; haveI : BkC wr wf.heap.size Lc 160 := ⟨hLc⟩; have HLC := hid hLc; have HLN := hid hLn; have HLE := hid hLe; have HLT := hid hlt; have NX := hid (nextI_at (r := R) (q := q) (i := i) (by rw [← HnR.out]; omega))
       clear hx hIx fl hLc hLn hLe hi hiK; by_cases hat : d ≤ i
       · obtain ⟨kk, hkk⟩ : ∃ kk, i = d + kk := ⟨i - d, by omega⟩
         have g1' : (d : Int) ≤ (i : Int) := by omega
         have g2' : (i : Int) - (d : Int) = (kk : Int) := by omega
         have hkm : kk < m + 1 := by have := HK.out; omega
         have g3 : (kk : Int) < ((m + 1 : Nat) : Int) := by omega
         have g3b : (kk : Int) < (m : Int) + 1 := by omega
         have g3c : kk < m + 1 := by omega
         have g4 : (0 : Int) ≤ (kk : Int) := by omega
         have g5 : (kk : Int) ≤ 4096 := by omega
         have g6 : IntKind.i64.wrap (kk : Int) = (kk : Int) := IntWalk.i64_in _ (by omega)
         have hqx := getD_some (l := q) (i := kk) (by rw [HM.out]; exact hkm)
         obtain ⟨gq, oq, uq, heq, hgq, cq2, kq, rfl, hIq⟩ := HQf.out.at hqx; simp only [Option.some.injEq, Addr.mk.injEq, and_true] at heq; obtain ⟨rfl, rfl⟩ := heq; haveI : Has wf g2 := ⟨hgq⟩; haveI : InC wf kq (q.getD kk 0) := ⟨hIq⟩; have BQ : Hid ((words (q.getD kk 0).natAbs).length ≤ 50000000000) := hid (Nat.le_trans (KQ.out kk) (by have := HBm.out; omega))
         have KM2 : Hid ((words (topI R q).natAbs).length + (words (q.getD kk 0).natAbs).length ≤ 137438953472) := hid (Nat.le_trans (Nat.add_le_add BT.out BQ.out) (by decide))
         have KS1 : Hid ((words (R.getD i 0 * ((lastI q).natAbs : Int)).natAbs).length ≤ 137438953472) := hid (Nat.le_trans (mulI_len (Nat.le_refl _) (Nat.le_refl _)) KM.out); have KS2 : Hid ((words (topI R q * q.getD kk 0).natAbs).length ≤ 137438953472) := hid (Nat.le_trans (mulI_len (Nat.le_refl _) (Nat.le_refl _)) KM2.out)
         have NV : Hid (nxtI R q i = R.getD i 0 * ((lastI q).natAbs : Int) - topI R q * q.getD kk 0) := hid (by
          have e : R.length - q.length = d := by have h1 := HnR.out; have h2 := HM.out; have h3 := HK.out; omega
          rw [nxtI_high (by omega), e, show i - d = kk by omega])
         clear hkk hat hqx hIq hkm; go_wp2_with ((go_at_call 115; (with_reducible refine Calls.mono (biMulC KM.out) ?_); rintro e wc ⟨rfl, _, _⟩))
         go_region_held3 (fun W => W.cell? ⟨wf.heap.size, i, none⟩ = some (.pointer (some ⟨wr.heap.size, 0, none⟩)) ∧ W.cell? ⟨g2, off2 + kk, none⟩ = some (.pointer (some ⟨kq, 0, none⟩))) (refine ⟨?_, ?_⟩ <;> (first | exact Bk.cell BkC.out rfl | (simp [go_sem]; done) | (simp [go_sem, cu, fu, cq2]; done))) (first | (go_at_call 115; (with_reducible refine Calls.mono (biMulC KM2.out) ?_); rintro e wc ⟨rfl, _, _⟩) | (go_at_call 168; (with_reducible refine Calls.mono (biSubC KS1.out KS2.out) ?_); rintro e wc ⟨rfl, _, _⟩))
         all_goals (go_wp2_with fail)
         all_goals go_round
         all_goals first
          | (refine ⟨i + 1, by go_num, HLT.out, ?_, ⟨Gr.out⟩⟩
             refine Fl.step eok_EI HLC.out HLN.out HLE.out (BkC.out (T := 160)) (KG.out) HLT.out NX.out ⟨_, rfl, ?_⟩
             rw [NV.out]; exact InC.out)
          | (simp [intOf]; done)
          | (simp [intOf]; omega)
       · have g1' : ¬ (d : Int) ≤ (i : Int) := by omega
         have NV : Hid (nxtI R q i = R.getD i 0 * ((lastI q).natAbs : Int)) := hid (nxtI_low (by have h1 := HnR.out; have h2 := HM.out; have h3 := HK.out; omega))
         clear hat; go_wp2_with ((go_at_call 115; (with_reducible refine Calls.mono (biMulC KM.out) ?_); rintro e wc ⟨rfl, _, _⟩))
         go_round
         case rel =>
          refine ⟨i + 1, by go_num, HLT.out, ?_, ⟨Gr.out⟩⟩
          refine Fl.step eok_EI HLC.out HLN.out HLE.out (BkC.out (T := 160)) (KG.out) HLT.out NX.out ⟨_, rfl, ?_⟩
          rw [NV.out]; exact InC.out
         case measure => first | (simp [intOf]; done) | (simp [intOf]; omega)
  · have hgI : ¬ ((m + 1 : Nat) : Int) ≤ (nR : Int) := by omega
    have HEQ := hid ((remI_stop (k := n1 + 1 - t) (by have := hT.out; omega) (by rw [HM.out, ← HnR.out]; exact hge)).symm.trans hE.out)
    have BS := hid hS.out; have hnR4 : nR ≤ 4096 := by have h1 := hT.out; have h2 := HNP.out; have h3 := HnR.out; omega
    have HN4 := hid hnR4; clear hge; go_wp2_with fail
    go_loopw [95] (fun s95 wx => ∃ i : Nat, s95 = .int .i64 i ∧ i ≤ nR ∧ Rw 160 EI wx (.slice r1 nR cR) (negT R i) ∧ Kp0 w wx) (fun s95 _ => nR - (intOf s95).toNat)
    case atStart => exact ⟨0, rfl, Nat.zero_le _, by rw [negT_0]; exact HR.out, ⟨Gr.out⟩⟩
    case round =>
     obtain ⟨i, rfl, hi, hN, ik3⟩ := hrel; by_cases hin : i = nR
     · subst hin; rw [show negT R i = R.map (fun x => -x) by rw [HnR.out]; exact negT_all R] at hN
       have HN := hid hN; clear hN hi; go_wp2_with (go_at_call 169; (with_reducible refine Calls.mono (gaSmall (hv := ⟨VrC.out⟩) HN.out (by rw [List.length_map, ← HnR.out]; exact HN4.out) BS.out.neg (Nat.le_trans HB1.out (by decide))) ?_); rintro e wz ⟨vz, rfl, hz, _⟩)
       go_ret
       refine ⟨_, rfl, ?_, ⟨Gr.out⟩⟩
       rw [LR.out, ← HEQ.out]; exact hz
     · have hlt : i < nR := by omega
       have hI : (i : Int) < (nR : Int) := by omega
       have h0 : (0 : Int) ≤ (i : Int) := by omega
       have hx := getD_some (l := R) (i := i) (by rw [← HnR.out]; exact hlt)
       have BX : Hid ((words (R.getD i 0).natAbs).length ≤ 1099511627776) := hid (Nat.le_trans (getD_len BS.out i) (Nat.le_trans HB1.out (by decide)))
       generalize R.getD i 0 = x at hx BX; obtain ⟨gr, offr, u, rfl, hgr, ct, kt, rfl, hIt⟩ := hN.at (negT_at hx); haveI : Has wr gr := ⟨hgr⟩; haveI : InC wr kt x := ⟨hIt⟩; haveI : Up w.heap.size gr := ⟨hF.out gr rfl⟩; obtain ⟨Lc, hLc⟩ := hN.bk eok_EI (by rw [negT_len, ← HnR.out]; omega)
       haveI : BkC wr gr Lc 160 := ⟨hLc⟩; have fr := hLc.free (offr + i); have HX := hid hx; have HN := hid hN; have HLT := hid hlt; have HLC := hid hLc; clear hx hN hIt hi hin hlt hLc; go_wp2_with ((go_at_call 167; (with_reducible refine Calls.mono (biNegC BX.out) ?_); rintro e wc ⟨rfl, _, _⟩))
       go_round
       case rel =>
        refine ⟨i + 1, by go_num, HLT.out, ?_, ⟨Gr.out⟩⟩
        rw [negT_next HX.out]; exact HN.out.step eok_EI HLC.out HLT.out (BkC.out (T := 160)) (KG.out) ⟨_, rfl, InC.out⟩
       case measure => first | (simp [intOf]; done) | (simp [intOf]; omega)
theorem gaLessNeg {w : World} {v1 v2 : Value} {p q : List Int} {L M : Nat} [hv : VrB w] (hp : Rw 160 EI w v1 p) (hq : Rw 160 EI w v2 q) (p0 : 0 < p.length) (q0 : 0 < q.length) (np : p.length ≤ 4096) (nq : q.length ≤ 4096) (sp : SzI L p) (sq : SzI M q) (hb : L + (p.length + 1) * (M + 1) ≤ 50000000000) (hs : lastI q < 0) :
 Calls Tryz.prog 113 #[v1, v2] w fun e w' => ∃ v', e = .returned v' ∧ Rw 160 EI w' v' (lessI p q) ∧ Kp0 w w' := by
 obtain ⟨a1, c1, rfl, hc1⟩ := hp.form; obtain ⟨a2, c2, rfl, hc2⟩ := hq.form; obtain ⟨m, hm⟩ : ∃ m, q.length = m + 1 := ⟨q.length - 1, by omega⟩
 have hlast : q[m]? = some (lastI q) := by
  have := getD_some (l := q) (i := m) (by omega)
  unfold lastI; rw [hm, Nat.add_sub_cancel]; exact this
 have HQ := hid hq; have HP := hid hp; have HM := hid hm; have HNQ := hid nq; have HP0 := hid p0; have HB := hid hb
 have HBm := hid (show M + 1 ≤ 50000000000 by
  have : 1 * (M + 1) ≤ (p.length + 1) * (M + 1) := Nat.mul_le_mul_right _ (by omega)
  omega)
 have HNP := hid np; have SP := hid sp; have SQ := hid sq; have LR := hid (show lessI p q = smallI ((remI (p.length + 1) p q).map (fun x => -x)) from rfl)
 obtain ⟨g2, off2, u2, rfl, hg2, cl, kh, rfl, hIh⟩ := hq.at hlast; haveI : Has w g2 := ⟨hg2⟩; haveI : InC w kh (lastI q) := ⟨hIh⟩; have KL := hid (Nat.le_trans (sq.at hlast) (show M ≤ 1099511627776 by have := HBm.out; omega))
 have KQ := hid (fun j : Nat => getD_len sq j)
 have e1 : ((m + 1 : Nat) : Int) - 1 = (m : Int) := by omega
 have hmI0 : (0 : Int) ≤ (m : Int) := by omega
 have hm4 : (m : Int) ≤ 4096 := by omega
 have hmI1 : (m : Int) < ((m + 1 : Nat) : Int) := by omega
 have hsg : (lastI q).sign < 0 := by rw [Int.sign_eq_neg_one_of_neg hs]; decide
 have TOP := hid (fun R : List Int => show topI R q = -(lastI R) by unfold topI; rw [if_pos hs])
 rw [hm]; rw [hm] at HQ; generalize hPl : p.length = P at *; have HPl := hid hPl; clear hp hq q0 nq np p0 sp sq hb hlast hIh hm hPl hc1 hc2; go_enter Tryz.func113, Tryz.ntmps113; go_wp2_with (first | (at_builtin; refine app_z rfl _ _ rfl w.heap.size (v := .slice none 0 0) (l := []) rfl (Ox.nil _ _) rfl HP.out (by rw [HPl.out]; exact HP0.out) (by rw [HPl.out]; have := HNP.out; simp; omega) (Nat.le_refl _) ?_; intro g1 cap1 n1 w1 hn1 ho1 hg1 hbl1 hke1; have HN1 := hid hn1; have HO1 := hid ho1; clear hn1 ho1; haveI k1 : Kp0 w w1 := ⟨hbl1 w (Nat.le_refl _) (Below.refl _ _)⟩) | (go_at_call 165; (with_reducible refine Calls.mono (biAbsC KL.out) ?_); rintro e wl ⟨rfl, _, _⟩))
 have hn1 := HN1.out; rw [List.length_nil, Nat.zero_add, HPl.out] at hn1; have HO := HO1; rw [List.nil_append, hn1] at HO; clear HN1 HO1; obtain rfl := hn1; go_loopw [5] (fun s5 wx => ∃ (R : List Int) (t : Nat) (r1 : Option Addr) (cR : Nat), s5 = .slice r1 R.length cR ∧ Rw 160 EI wx (.slice r1 R.length cR) R ∧ Hid (Fresh w.heap.size (.slice r1 R.length cR)) ∧ Hid (R.length + t ≤ n1) ∧ Hid (SzI (L + t * (M + 1)) R) ∧ Hid (remI (n1 + 1 - t) R q = remI (n1 + 1) p q) ∧ Kp0 wl wx) (fun s5 _ => match s5 with | .slice _ k _ => k | _ => 0)
 case atStart =>
  refine ⟨p, 0, some ⟨g1, 0, none⟩, cap1, by rw [HPl.out], ?_, hid (Fresh.own hg1), hid (by rw [HPl.out]; omega), hid (by rw [Nat.zero_mul, Nat.add_zero]; exact SP.out), hid rfl, ⟨Gr.out⟩⟩
  rw [HPl.out]; exact (HO.out.below eok_EI Gr.out).rw
 case round =>
  obtain ⟨R, t, r1, cR, rfl, hR, hF, hT, hS, hE, ik⟩ := hrel; have HR := hid hR; obtain ⟨nR, hnR⟩ : ∃ nR, nR = R.length := ⟨_, rfl⟩; rw [← hnR] at hF HR ⊢; have HnR := hid hnR; have HB1 := hid (mulT HB.out (t := t) (by have := hT.out; omega))
  clear hR hnR; by_cases hge : m + 1 ≤ nR
  · obtain ⟨K, rfl⟩ : ∃ k, nR = k + 1 := ⟨nR - 1, by omega⟩
    obtain ⟨d, hK⟩ : ∃ d, K = m + d := ⟨K - m, by omega⟩
    have HK := hid hK; have hgI : ((m + 1 : Nat) : Int) ≤ ((K + 1 : Nat) : Int) := by omega
    have hk4 : K + 1 ≤ 4096 := by have h1 := hT.out; have h2 := HNP.out; have h3 := HnR.out; omega
    have hx : R[K]? = some (lastI R) := by
     have := getD_some (l := R) (i := K) (by rw [← HnR.out]; omega)
     unfold lastI; rw [← HnR.out, Nat.add_sub_cancel]; exact this
    obtain ⟨gr, offr, u, rfl, hgr, ct, kt, rfl, hIt⟩ := HR.out.at hx; haveI : Has wr gr := ⟨hgr⟩; haveI : InC wr kt (lastI R) := ⟨hIt⟩; have BR := hid (fun j : Nat => Nat.le_trans (getD_len hS.out j) HB1.out)
    have BL : Hid ((words (lastI R).natAbs).length ≤ 1099511627776) := hid (Nat.le_trans (BR.out _) (by decide))
    have BT : Hid ((words (topI R q).natAbs).length ≤ 50000000000) := hid (Nat.le_trans (topI_len hS.out) HB1.out); have HTT := hid (TOP.out R); have f1 : ((K + 1 : Nat) : Int) - 1 = (K : Int) := by omega
    have f2 : ((K + 1 : Nat) : Int) - ((m + 1 : Nat) : Int) = (d : Int) := by omega
    have f2c : (K : Int) + 1 - ((m : Int) + 1) = (d : Int) := by omega
    have f2b : (K : Int) - (m : Int) = (d : Int) := by omega
    have f3 : (K : Int) ≤ 4096 := by omega
    have f4 : (0 : Int) ≤ (K : Int) := by omega
    have f5 : (K : Int) < ((K + 1 : Nat) : Int) := by omega
    have f6 : (d : Int) ≤ 4096 := by omega
    have f7 : (0 : Int) ≤ (d : Int) := by omega
    clear hx hIt hK hge; go_upto_region 9 with (first | (go_at_call 166; (with_reducible refine Calls.mono (biSetC BL.out) ?_); rintro e wf ⟨rfl, _, _⟩) | (go_at_call 132; (with_reducible refine Calls.mono (biSignC) ?_); rintro e w' ⟨rfl, hw⟩; obtain rfl := hw.symm) | (go_at_call 167; (with_reducible refine Calls.mono (biNegC BL.out) ?_); rintro e wf ⟨rfl, _, _⟩))
    have HRf := hid (HR.out.below eok_EI (Gr.out (v := wr) (W := wf))); have HQf := hid (HQ.out.below eok_EI (Gr.out (v := w) (W := wf))); haveI : InC wf wr.heap.size (topI R q) := by rw [HTT.out]; infer_instance
    haveI : InC wf w1.heap.size ((lastI q).natAbs : Int) := inferInstance; haveI : Gr w wf := inferInstance; haveI : Gr wl wf := inferInstance; go_wp2_with (at_make; refine make_z (E := EI) (nextI R q) _ rfl _ _ rfl _ K rfl rfl (by first | rfl | omega | simp) (by omega) ?_; intro wn hF0 hK0)
    go_loopw [56] (fun s56 wx => ∃ i : Nat, s56 = .int .i64 i ∧ i ≤ K ∧ Fl 160 EI wx wf.heap.size K (nextI R q) i ∧ Kp0 wf wx) (fun s56 _ => K - (intOf s56).toNat)
    case atStart => exact ⟨0, rfl, Nat.zero_le _, hF0, hK0⟩
    case round =>
     obtain ⟨i, rfl, hi, fl, ik4⟩ := hrel; by_cases hiK : i = K
     · subst hiK; have HD := hid (fl.done (by rw [nextI_len, ← HnR.out]; omega) (by rw [nextI_len, ← HnR.out]; omega))
       clear hi fl; go_wp2_with (go_at_call 164; (with_reducible refine Calls.mono (gaCut HD.out (by rw [nextI_len, ← HnR.out]; have := hT.out; have := HNP.out; omega)) ?_); rintro e w' ⟨vc, rfl, hcut, hown, hw⟩; obtain rfl := hw.symm)
       obtain ⟨ac, cc, rfl, hcc⟩ := hcut.form
       have hlen : (cutI (nextI R q)).length ≤ i := by
        have h1 := cutI_len (nextI R q); rw [nextI_len, ← HnR.out] at h1; omega
       have HCUT := hid hcut; have HOWN := hid hown; have HLEN := hid hlen; clear hcut hown; go_round
       case rel =>
        refine ⟨cutI (nextI R q), t + 1, ac, cc, rfl, HCUT.out, hid (Fresh.of (Fresh.own (Gr.out (v := w) (W := wf)).size) HOWN.out), hid ?_, hid ?_, hid ?_, ⟨Gr.out⟩⟩
        · have h1 := hT.out; have h2 := HnR.out; have h3 := HLEN.out; omega
        · rw [Nat.add_mul, Nat.one_mul, ← Nat.add_assoc]; exact (hS.out.next SQ.out).cut
        · rw [← hE.out, show n1 + 1 - t = (n1 + 1 - (t + 1)) + 1 by have h1 := hT.out; have h2 := HnR.out; omega]
          exact (remI_step (by rw [HM.out, ← HnR.out]; have := HK.out; omega)).symm
       case measure => first | (simp; done) | (simp; omega)
     · have hlt : i < K := by omega
       have hI : (i : Int) < (K : Int) := by omega
       have hI2 : (i : Int) < ((K + 1 : Nat) : Int) := by omega
       have h0 : (0 : Int) ≤ (i : Int) := by omega
       have hx := getD_some (l := R) (i := i) (by rw [← HnR.out]; omega)
       obtain ⟨gx, ox, u, he, hgx, cx, kx, rfl, hIx⟩ := HRf.out.at hx; simp only [Option.some.injEq, Addr.mk.injEq, and_true] at he; obtain ⟨rfl, rfl⟩ := he; haveI : Has wf gr := ⟨hgx⟩; haveI : InC wf kx (R.getD i 0) := ⟨hIx⟩
       have BM : Hid ((words ((lastI q).natAbs : Int).natAbs).length ≤ 50000000000) := hid (by
        rw [Int.natAbs_natCast]; have h1 := KQ.out (q.length - 1); have h2 := HBm.out; exact Nat.le_trans h1 (by omega))
       have KM : Hid ((words (R.getD i 0).natAbs).length + (words ((lastI q).natAbs : Int).natAbs).length ≤ 137438953472) := hid (Nat.le_trans (Nat.add_le_add (BR.out i) BM.out) (by decide))
       obtain ⟨⟨u2, cu⟩, fu⟩ := fl.slot hlt; obtain ⟨Lc, hLc, hLn, hLe⟩ := fl.bk eok_EI; haveI : BkC wr wf.heap.size Lc 160 := ⟨hLc⟩; have HLC := hid hLc; have HLN := hid hLn; have HLE := hid hLe; have HLT := hid hlt; have NX := hid (nextI_at (r := R) (q := q) (i := i) (by rw [← HnR.out]; omega))
       clear hx hIx fl hLc hLn hLe hi hiK; by_cases hat : d ≤ i
       · obtain ⟨kk, hkk⟩ : ∃ kk, i = d + kk := ⟨i - d, by omega⟩
         have g1' : (d : Int) ≤ (i : Int) := by omega
         have g2' : (i : Int) - (d : Int) = (kk : Int) := by omega
         have hkm : kk < m + 1 := by have := HK.out; omega
         have g3 : (kk : Int) < ((m + 1 : Nat) : Int) := by omega
         have g3b : (kk : Int) < (m : Int) + 1 := by omega
         have g3c : kk < m + 1 := by omega
         have g4 : (0 : Int) ≤ (kk : Int) := by omega
         have g5 : (kk : Int) ≤ 4096 := by omega
         have g6 : IntKind.i64.wrap (kk : Int) = (kk : Int) := IntWalk.i64_in _ (by omega)
         have hqx := getD_some (l := q) (i := kk) (by rw [HM.out]; exact hkm)
         obtain ⟨gq, oq, uq, heq, hgq, cq2, kq, rfl, hIq⟩ := HQf.out.at hqx; simp only [Option.some.injEq, Addr.mk.injEq, and_true] at heq; obtain ⟨rfl, rfl⟩ := heq; haveI : Has wf g2 := ⟨hgq⟩; haveI : InC wf kq (q.getD kk 0) := ⟨hIq⟩; have BQ : Hid ((words (q.getD kk 0).natAbs).length ≤ 50000000000) := hid (Nat.le_trans (KQ.out kk) (by have := HBm.out; omega))
         have KM2 : Hid ((words (topI R q).natAbs).length + (words (q.getD kk 0).natAbs).length ≤ 137438953472) := hid (Nat.le_trans (Nat.add_le_add BT.out BQ.out) (by decide))
         have KS1 : Hid ((words (R.getD i 0 * ((lastI q).natAbs : Int)).natAbs).length ≤ 137438953472) := hid (Nat.le_trans (mulI_len (Nat.le_refl _) (Nat.le_refl _)) KM.out); have KS2 : Hid ((words (topI R q * q.getD kk 0).natAbs).length ≤ 137438953472) := hid (Nat.le_trans (mulI_len (Nat.le_refl _) (Nat.le_refl _)) KM2.out)
         have NV : Hid (nxtI R q i = R.getD i 0 * ((lastI q).natAbs : Int) - topI R q * q.getD kk 0) := hid (by
          have e : R.length - q.length = d := by have h1 := HnR.out; have h2 := HM.out; have h3 := HK.out; omega
          rw [nxtI_high (by omega), e, show i - d = kk by omega])
         clear hkk hat hqx hIq hkm; go_wp2_with ((go_at_call 115; (with_reducible refine Calls.mono (biMulC KM.out) ?_); rintro e wc ⟨rfl, _, _⟩))
         go_region_held3 (fun W => W.cell? ⟨wf.heap.size, i, none⟩ = some (.pointer (some ⟨wr.heap.size, 0, none⟩)) ∧ W.cell? ⟨g2, off2 + kk, none⟩ = some (.pointer (some ⟨kq, 0, none⟩))) (refine ⟨?_, ?_⟩ <;> (first | exact Bk.cell BkC.out rfl | (simp [go_sem]; done) | (simp [go_sem, cu, fu, cq2]; done))) (first | (go_at_call 115; (with_reducible refine Calls.mono (biMulC KM2.out) ?_); rintro e wc ⟨rfl, _, _⟩) | (go_at_call 168; (with_reducible refine Calls.mono (biSubC KS1.out KS2.out) ?_); rintro e wc ⟨rfl, _, _⟩))
         all_goals (go_wp2_with fail)
         all_goals go_round
         all_goals first
          | (refine ⟨i + 1, by go_num, HLT.out, ?_, ⟨Gr.out⟩⟩
             refine Fl.step eok_EI HLC.out HLN.out HLE.out (BkC.out (T := 160)) (KG.out) HLT.out NX.out ⟨_, rfl, ?_⟩
             rw [NV.out]; exact InC.out)
          | (simp [intOf]; done)
          | (simp [intOf]; omega)
       · have g1' : ¬ (d : Int) ≤ (i : Int) := by omega
         have NV : Hid (nxtI R q i = R.getD i 0 * ((lastI q).natAbs : Int)) := hid (nxtI_low (by have h1 := HnR.out; have h2 := HM.out; have h3 := HK.out; omega))
         clear hat; go_wp2_with ((go_at_call 115; (with_reducible refine Calls.mono (biMulC KM.out) ?_); rintro e wc ⟨rfl, _, _⟩))
         go_round
         case rel =>
          refine ⟨i + 1, by go_num, HLT.out, ?_, ⟨Gr.out⟩⟩
          refine Fl.step eok_EI HLC.out HLN.out HLE.out (BkC.out (T := 160)) (KG.out) HLT.out NX.out ⟨_, rfl, ?_⟩
          rw [NV.out]; exact InC.out
         case measure => first | (simp [intOf]; done) | (simp [intOf]; omega)
  · have hgI : ¬ ((m + 1 : Nat) : Int) ≤ (nR : Int) := by omega
    have HEQ := hid ((remI_stop (k := n1 + 1 - t) (by have := hT.out; omega) (by rw [HM.out, ← HnR.out]; exact hge)).symm.trans hE.out)
    have BS := hid hS.out; have hnR4 : nR ≤ 4096 := by have h1 := hT.out; have h2 := HNP.out; have h3 := HnR.out; omega
    have HN4 := hid hnR4; clear hge; go_wp2_with fail
    go_loopw [95] (fun s95 wx => ∃ i : Nat, s95 = .int .i64 i ∧ i ≤ nR ∧ Rw 160 EI wx (.slice r1 nR cR) (negT R i) ∧ Kp0 w wx) (fun s95 _ => nR - (intOf s95).toNat)
    case atStart => exact ⟨0, rfl, Nat.zero_le _, by rw [negT_0]; exact HR.out, ⟨Gr.out⟩⟩
    case round =>
     obtain ⟨i, rfl, hi, hN, ik3⟩ := hrel; by_cases hin : i = nR
     · subst hin; rw [show negT R i = R.map (fun x => -x) by rw [HnR.out]; exact negT_all R] at hN
       have HN := hid hN; clear hN hi; go_wp2_with (go_at_call 169; (with_reducible refine Calls.mono (gaSmall (hv := ⟨VrC.out⟩) HN.out (by rw [List.length_map, ← HnR.out]; exact HN4.out) BS.out.neg (Nat.le_trans HB1.out (by decide))) ?_); rintro e wz ⟨vz, rfl, hz, _⟩)
       go_ret
       refine ⟨_, rfl, ?_, ⟨Gr.out⟩⟩
       rw [LR.out, ← HEQ.out]; exact hz
     · have hlt : i < nR := by omega
       have hI : (i : Int) < (nR : Int) := by omega
       have h0 : (0 : Int) ≤ (i : Int) := by omega
       have hx := getD_some (l := R) (i := i) (by rw [← HnR.out]; exact hlt)
       have BX : Hid ((words (R.getD i 0).natAbs).length ≤ 1099511627776) := hid (Nat.le_trans (getD_len BS.out i) (Nat.le_trans HB1.out (by decide)))
       generalize R.getD i 0 = x at hx BX; obtain ⟨gr, offr, u, rfl, hgr, ct, kt, rfl, hIt⟩ := hN.at (negT_at hx); haveI : Has wr gr := ⟨hgr⟩; haveI : InC wr kt x := ⟨hIt⟩; haveI : Up w.heap.size gr := ⟨hF.out gr rfl⟩; obtain ⟨Lc, hLc⟩ := hN.bk eok_EI (by rw [negT_len, ← HnR.out]; omega)
       haveI : BkC wr gr Lc 160 := ⟨hLc⟩; have fr := hLc.free (offr + i); have HX := hid hx; have HN := hid hN; have HLT := hid hlt; have HLC := hid hLc; clear hx hN hIt hi hin hlt hLc; go_wp2_with ((go_at_call 167; (with_reducible refine Calls.mono (biNegC BX.out) ?_); rintro e wc ⟨rfl, _, _⟩))
       go_round
       case rel =>
        refine ⟨i + 1, by go_num, HLT.out, ?_, ⟨Gr.out⟩⟩
        rw [negT_next HX.out]; exact HN.out.step eok_EI HLC.out HLT.out (BkC.out (T := 160)) (KG.out) ⟨_, rfl, InC.out⟩
       case measure => first | (simp [intOf]; done) | (simp [intOf]; omega)
theorem gaLess0 {w : World} {a1 : Option Addr} {c1 : Nat} {v2 : Value} {q : List Int} {M : Nat} [hv : VrB w] (hq : Rw 160 EI w v2 q) (q0 : 0 < q.length) (nq : q.length ≤ 4096) (sq : SzI M q) (hb : M ≤ 50000000000) :
 Calls Tryz.prog 113 #[.slice a1 0 c1, v2] w fun e w' => ∃ v', e = .returned v' ∧ Rw 160 EI w' v' (lessI [] q) ∧ Kp0 w w' := by
 obtain ⟨a2, c2, rfl, hc2⟩ := hq.form; obtain ⟨m, hm⟩ : ∃ m, q.length = m + 1 := ⟨q.length - 1, by omega⟩
 have hlast : q[m]? = some (lastI q) := by
  have := getD_some (l := q) (i := m) (by omega)
  unfold lastI; rw [hm, Nat.add_sub_cancel]; exact this
 obtain ⟨g2, off2, u2, rfl, hg2, cl, kh, rfl, hIh⟩ := hq.at hlast; haveI : Has w g2 := ⟨hg2⟩; haveI : InC w kh (lastI q) := ⟨hIh⟩; have KL := hid (Nat.le_trans (sq.at hlast) (show M ≤ 1099511627776 by omega))
 have LR := hid (show lessI [] q = [] by
  unfold lessI; rw [remI_stop (by decide) (by rw [List.length_nil]; omega)]
  rfl)
 have e1 : ((m + 1 : Nat) : Int) - 1 = (m : Int) := by omega
 have hmI0 : (0 : Int) ≤ (m : Int) := by omega
 have hm4 : (m : Int) ≤ 4096 := by omega
 have hmI1 : (m : Int) < ((m + 1 : Nat) : Int) := by omega
 have hmI2 : ¬ ((m + 1 : Nat) : Int) ≤ 0 := by omega
 rw [hm]; clear hq q0 nq sq hb hlast hIh hm hc2; go_enter Tryz.func113, Tryz.ntmps113; have Z0 : SzI 0 ([] : List Int) := fun x h => by cases h
 have hpure : ∀ W : World, Sem.run Tryz.prog (pure (#[] : Array Value)) W = .ok #[] W := fun _ => rfl
 cases a1
 all_goals
  go_wp2_with (go_at_call 165; (with_reducible refine Calls.mono (biAbsC KL.out) ?_); rintro e wl ⟨rfl, _, _⟩)
  go_loop [5] (fun s5 => s5 = .slice none 0 0) (fun _ => 0)
  case atStart => exact rfl
  case round =>
   obtain rfl := hrel; go_wp2_with fail
   go_loop [95] (fun s95 => s95 = .int .i64 0) (fun _ => 0)
   case atStart => exact rfl
   case round =>
    obtain rfl := hrel; go_wp2_with (go_at_call 169; (with_reducible refine Calls.mono (gaSmall (l := []) (L := 0) (hv := ⟨VrC.out⟩) (Rw.nil _) (by decide) Z0 (by decide)) ?_); rintro e wz ⟨vz, rfl, hz, _⟩)
    go_ret
    refine ⟨_, rfl, ?_, ⟨Gr.out⟩⟩
    rw [LR.out]; exact hz
theorem gaLess {w : World} {v1 v2 : Value} {p q : List Int} {L M : Nat} [hv : VrC w] (hp : Rw 160 EI w v1 p) (hq : Rw 160 EI w v2 q) (q0 : 0 < q.length) (np : p.length ≤ 4096) (nq : q.length ≤ 4096) (sp : SzI L p) (sq : SzI M q) (hb : L + (p.length + 1) * (M + 1) ≤ 50000000000) :
 Calls Tryz.prog 113 #[v1, v2] w fun e w' => ∃ v', e = .returned v' ∧ Rw 160 EI w' v' (lessI p q) ∧ Kp0 w w' := by
 rcases Nat.eq_zero_or_pos p.length with h0 | h0
 · obtain ⟨a, c, rfl, -⟩ := hp.form; obtain rfl := List.length_eq_zero_iff.1 h0; rw [List.length_nil] at hb; exact gaLess0 (hv := ⟨hv.out⟩) hq q0 nq sq (by omega)
 · by_cases hs : lastI q < 0
   · exact gaLessNeg (hv := ⟨hv.out⟩) hp hq h0 q0 np nq sp sq hb hs
   · exact gaLessPos (hv := ⟨hv.out⟩) hp hq h0 q0 np nq sp sq hb hs
end Go.Proofs.YthjeejnggpjnjaaGreatDoor
