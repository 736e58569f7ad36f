/- A part: GF, GL, GG. -/
import Derived.Test.YthjeejnggpjnjaaGreatDoorZY22
set_option linter.unusedSimpArgs false
set_option linter.unusedVariables false
set_option maxRecDepth 100000
set_option maxHeartbeats 16000000
set_option synthInstance.maxHeartbeats 2000000
set_option synthInstance.maxSize 100000
namespace Go.Proofs.YthjeejnggpjnjaaGreatDoor
open Go.RowKit
theorem step_q {ops : Array Oper} {dst : Option Nat} {ty : TypeId} {ps : String} {af : Array Edge} {a : Act} {w : World} {K : Act → World → Prop} {Q : Exit → Act → World → Prop} {F : Prop} {s x : Operand} (base : Nat) {v : Value} {l m : List Qt} (hs : a.eval s = v) (hown : Ox 92 (ER 125) base w v l)
 {ad : Option Addr} {k c : Nat} (hx : a.eval x = .slice ad k c) (hm : Rw 92 (ER 125) w (.slice ad k c) m) (h0 : 0 < m.length) (hlen : l.length + m.length ≤ 1048576) (hbase : base ≤ w.heap.size)
 (h : ∀ g cap n' w', n' = l.length + m.length → Ox 92 (ER 125) base w' (.slice (some ⟨g, 0, none⟩) n' cap) (l ++ m) → base ≤ g → (∀ v0 : World, v0.heap.size ≤ base → Below v0.heap.size v0 w → Below v0.heap.size v0 w') → (∀ u y, ER 125 w u y → ER 125 w' u y) → K (a.put dst (.slice (some ⟨g, 0, none⟩) n' cap)) w') :
 if Region.wanted { dst := dst, op := .call { callee := .builtin .append, args := #[s, x], argTypes := #[108, 108] }, type := ty, pos := ps, after := af, guard := none } (yielded ops a.tmps) = true then Oper.wp Tryz.prog { dst := dst, op := .call { callee := .builtin .append, args := #[s, x], argTypes := #[108, 108] }, type := ty, pos := ps, after := af, guard := none } a w K Q else F := by
 obtain ⟨ti, hti, htz, hts, htb⟩ := info_parts info92z; exact step_row eok_Q rfl s x 108 rfl base ti _ 8 und108z hti htz hts htb rfl (by decide) hs hown hx hm h0 hlen hbase h
theorem mk_muli (x k : Int) {D : Nat} (h : D ≠ 0) : mkRat x D * ((k : Int) : Qt) = mkRat (x * k) D := by
 have := nz_rat h; rw [Rat.mkRat_eq_div, Rat.mkRat_eq_div, Rat.intCast_mul]
 grind
theorem reSignsC {W : World} {u : Value} {P : List Int} (h : EV W u P) (hn : P.length ≤ 17) (hs : SzI 17000000000 P) (t : Trim P) : Calls Tryz.prog 122 #[u] W fun e w' => e = .returned (.tuple #[.int .i64 (endsI P).1, .int .i64 (endsI P).2]) ∧ Kp0 W w' :=
 OkS.signs (l := [P]) ⟨by simp, by simp, fun x hx => by obtain rfl := List.mem_singleton.1 hx; exact ⟨hn, hs, t⟩⟩ (List.mem_singleton.2 rfl) h
theorem chainI_trim : ∀ (k : Nat) (p q : List Int), Trim p → Trim q → ∀ P ∈ chainI k p q, Trim P := by
 intro k
 induction k with
 | zero =>
   intro p q hp hq P hP; obtain rfl : P = p := by simpa [chainI] using hP
   exact hp
 | succ k ih =>
   intro p q hp hq P hP; rw [chainI] at hP
   split at hP
   · obtain rfl : P = p := by simpa using hP
     exact hp
   · rcases List.mem_cons.1 hP with rfl | hP
     · exact hp
     · exact ih q _ hq (trim_less hp) P hP
theorem rowI_oks {p q : List Int} (h : RowI 130 p q) (tp : Trim p) (tq : Trim q) : OkS (rowI p q) := by
 have ok := rowI_ok (by decide) (by decide) h
 refine ⟨ok.1, ok.2.1, fun P hP => ?_⟩
 obtain ⟨h1, h2⟩ := chainI_ok (by decide) _ p q h P hP
 exact ⟨h1, h2.mono (by decide), chainI_trim _ _ _ tp tq P hP⟩
theorem slope_trim {l : List Int} (h : Trim l) : Trim (slopeI l) := by
 rcases h with rfl | h
 · exact .inl rfl
 · by_cases h1 : l.length ≤ 1
   · left
     exact List.length_eq_zero_iff.1 (by unfold slopeI; rw [slopeN_len]; omega)
   · right
     have e : lastI (slopeI l) = lastI l * ((l.length - 1 : Nat) : Int) := by
      have e0 : (slopeI l).length = l.length - 1 := slopeN_len _ _; unfold lastI; rw [e0]
      have : (slopeI l)[l.length - 1 - 1]? = some (l.getD (l.length - 1) 0 * ((l.length - 1 : Nat) : Int)) := by
       unfold slopeI slopeN; rw [List.getElem?_map, List.getElem?_range (by omega)]
       show some (l.getD (l.length - 1 - 1 + 1) 0 * ((l.length - 1 - 1 + 1 : Nat) : Int)) = _
       rw [show l.length - 1 - 1 + 1 = l.length - 1 by omega]
      exact getD_at this
     rw [e]; intro k; rcases Int.mul_eq_zero.1 k with k | k
     · exact h k
     · omega
theorem reTouch1 {w : World} {v : Value} {l : List Int} (h : EV w v l) (ok : OkZ 130 l) (tl : Trim l) (h1 : (endsI l).1 = 0) :
 Calls Tryz.prog 74 #[v] w fun e w' => e = .returned (.bool true) ∧ Kp0 w w' := by
 have hs17 : SzI 17000000000 l := ok.2.mono (Nat.le_trans (growF_mono (Nat.zero_le _)) (by decide))
 have E := hid (reSignsC h ok.1 hs17 tl); have b1 : ((endsI l).1 == 0) = true := beq_iff_eq.2 h1
 skip
 generalize (endsI l).1 = x1 at *; generalize (endsI l).2 = x2 at *; clear h ok tl hs17 h1; go_enter Tryz.func74, Tryz.ntmps74; go_wp2_with (go_at_call 122; (with_reducible refine Calls.mono E.out ?_); rintro e wa ⟨rfl, _⟩)
 go_ret
 exact ⟨rfl, ⟨Gr.out⟩⟩
theorem reTouch2 {w : World} {v : Value} {l : List Int} (h : EV w v l) (ok : OkZ 130 l) (tl : Trim l) (h1 : (endsI l).1 ≠ 0) (h2 : (endsI l).2 = 0) :
 Calls Tryz.prog 74 #[v] w fun e w' => e = .returned (.bool true) ∧ Kp0 w w' := by
 have hs17 : SzI 17000000000 l := ok.2.mono (Nat.le_trans (growF_mono (Nat.zero_le _)) (by decide))
 have E := hid (reSignsC h ok.1 hs17 tl); have b1 : ((endsI l).1 == 0) = false := beq_eq_false_iff_ne.2 h1; have b2 : ((endsI l).2 == 0) = true := beq_iff_eq.2 h2; generalize (endsI l).1 = x1 at *; generalize (endsI l).2 = x2 at *; clear h ok tl hs17 h1 h2; go_enter Tryz.func74, Tryz.ntmps74; go_wp2_with (go_at_call 122; (with_reducible refine Calls.mono E.out ?_); rintro e wa ⟨rfl, _⟩)
 go_ret
 exact ⟨rfl, ⟨Gr.out⟩⟩
theorem reTouch3 {w : World} {v : Value} {l : List Int} (h : EV w v l) (ok : OkZ 130 l) (tl : Trim l) (h1 : (endsI l).1 ≠ 0) (h2 : (endsI l).2 ≠ 0) :
 Calls Tryz.prog 74 #[v] w fun e w' => e = .returned (.bool (decide (turnI (rowI l (slopeI l)) ≠ 0))) ∧ Kp0 w w' := by
 have hs17 : SzI 17000000000 l := ok.2.mono (Nat.le_trans (growF_mono (Nat.zero_le _)) (by decide))
 have E := hid (reSignsC h ok.1 hs17 tl); have b1 : ((endsI l).1 == 0) = false := beq_eq_false_iff_ne.2 h1; have b2 : ((endsI l).2 == 0) = false := beq_eq_false_iff_ne.2 h2
 have hne : l ≠ [] := by
  intro hh; subst hh; exact h1 rfl
 have HRI0 : RowI 130 l (slopeI l) := Or.inr (slope_inv (by decide) ok hne)
 obtain ⟨D, hDe⟩ : ∃ D, D = (lastI l).natAbs := ⟨_, rfl⟩; have hD : D ≠ 0 := by have := trim_last tl hne; omega
 have hDw : (words D).length ≤ 17000000000 := by rw [hDe]; exact getD_len hs17 _
 have HDE := hid hDe; have HD := hid (And.intro hD hDw); generalize hT : turnI (rowI l (slopeI l)) = T; have HTT := hid hT; have HBN := hid (show (T != 0) = decide (T ≠ 0) by by_cases h : T = 0 <;> simp [h])
 clear hT; have HRI := hid HRI0; have HRK := hid (rowI_oks HRI0 tl (slope_trim tl)); have TL := hid tl; have SM := hid (fun j : Nat => show SmC (mkRat (l.getD j 0) D) 17179869184 from ⟨Sm.mk hD (Nat.le_trans (getD_len hs17 j) (by decide)) (Nat.le_trans hDw (by decide))⟩)
 obtain ⟨a, cap, rfl⟩ := h.form; generalize (endsI l).1 = x1 at *; generalize (endsI l).2 = x2 at *; have HH := hid (show Rw 92 (ER 125) w (.slice a l.length cap) (ovR D l) by rw [hDe]; exact h)
 obtain ⟨n, hn⟩ : ∃ n, l.length = n + 1 := ⟨l.length - 1, by have := List.length_pos_iff.2 hne; omega⟩
 have HN := hid hn; have HS := hid (show slopeI l = slopeN l n by unfold slopeI; rw [hn, Nat.add_sub_cancel])
 have n17 : n + 1 ≤ 17 := by have := ok.1; omega
 rw [hn] at HH E ⊢; clear h ok h1 h2 hne hn tl hs17 HRI0 hDe hD hDw; go_enter Tryz.func74, Tryz.ntmps74; go_wp2_with (go_at_call 122; (with_reducible refine Calls.mono E.out ?_); rintro e wa ⟨rfl, _⟩)
 go_loopw [5, 6] (fun s5 s6 wx => ∃ (j n5 c5 : Nat) (a5 : Option Addr), s5 = .slice a5 n5 c5 ∧ s6 = .int .i64 (j : Int) ∧ j ≤ n + 1 ∧ Hid (1 ≤ j) ∧ Hid (n5 = j - 1) ∧ Ox 92 (ER 125) w.heap.size wx (.slice a5 n5 c5) (ovR D (slopeN l (j - 1))) ∧ Kp0 w wx) (fun _ s6 _ => n + 1 - (intOf s6).toNat)
 case atStart => exact ⟨1, _, _, _, rfl, rfl, by omega, hid (Nat.le_refl _), hid rfl, Ox.nil _ _, ⟨Gr.out⟩⟩
 case round =>
  obtain ⟨j, n5, c5, a5, rfl, rfl, hi, h1j, h5, hO, ik⟩ := hrel; by_cases hin : j = n + 1
  · have HB : Hid (Rw 92 (ER 125) wr (.slice a5 n5 c5) (ovR D (slopeI l))) := hid (by rw [HS.out, show n = j - 1 by omega]; exact hO.rw)
    have hcmp : ¬ (j : Int) < ((n + 1 : Nat) : Int) := by omega
    have HH2 := hid (HH.out.below eok_Q (Gr.out (v := w) (W := wr))); clear hO hi hin; go_wp2_with (first | (go_at_call 72; (with_reducible refine Calls.mono (reChain HH2.out HB.out HD.out.1 HD.out.1 HD.out.2 HD.out.2 TL.out (slope_trim TL.out) HRI.out) ?_); rintro e wb ⟨vb, rfl, hvb, _⟩; have HVB := hid hvb; clear hvb) | (go_at_call 73; (with_reducible refine Calls.mono (reChanges HVB.out HRK.out) ?_); rintro e wc ⟨rfl, _⟩; rw [HTT.out]))
    go_ret
    refine ⟨?_, ⟨Gr.out⟩⟩
    rw [← HBN.out]; rfl
  · have hlt : j < n + 1 := by omega
    have hI : (j : Int) < ((n + 1 : Nat) : Int) := by omega
    have hI2 : (j : Int) < (n : Int) + 1 := by omega
    have h0 : (0 : Int) ≤ (j : Int) := by omega
    have h63 : (j : Int) ≤ 100 := by omega
    have Q12 := hid (show -9223372036854775808 ≤ (j : Int) ∧ (j : Int) < 9223372036854775808 by omega)
    have hx := getD_some (l := l) (i := j) (by rw [HN.out]; omega)
    obtain ⟨gp, offp, u, rfl, hgp, cj, kp, rfl, hIp⟩ := HH.out.at (ovR_at (D := D) hx); haveI : Has w gp := ⟨hgp⟩; haveI : RaC 125 w kp (mkRat (l.getD j 0) D) := ⟨hIp⟩; haveI := SM.out j; haveI : SmC (((j : Int) : Int) : Qt) 1 := ⟨by rw [int_num]; exact small_len (by rw [Int.natAbs_natCast]; omega), by rw [int_den]; exact small_len (by decide)⟩
    have HO := hid hO; have HLT := hid hlt; have HLE := hid (show (ovR D (slopeN l (j - 1))).length + [mkRat (l.getD j 0) D * (((j : Int) : Int) : Qt)].length ≤ 1048576 by rw [ovR_len, slopeN_len]; simp; omega)
    have HNX := hid (show ovR D (slopeN l j) = ovR D (slopeN l (j - 1)) ++ [mkRat (l.getD j 0) D * (((j : Int) : Int) : Qt)] by
     have := slopeN_next l (j - 1); rw [show j - 1 + 1 = j by have := h1j.out; omega] at this
     rw [this, mk_muli _ _ HD.out.1]; unfold ovR; rw [List.map_append]
     rfl)
    clear hx hIp hO hi hin hlt; go_wp2_with fail
    go_region_held3 (fun W => W.cell? ⟨gp, offp + j, none⟩ = some (.pointer (some ⟨kp, 0, none⟩))) (first | exact Bk.cell BkC.out rfl | (simp [go_sem]; done) | (simp [go_sem, cj]; done)) (first | (go_at_call 81; (with_reducible refine Calls.mono (eInt64C Q12.out.1 Q12.out.2) ?_); rintro e wc ⟨rfl, _, _⟩) | (go_at_call 124; (with_reducible refine Calls.mono (erMulC (by decide) (by decide)) ?_); rintro e wc ⟨rfl, _, _⟩) | (refine step_q w.heap.size rfl (HO.out.below eok_Q (Gr.out (v := wr))) rfl (Ox.one eok_Q ⟨_, rfl, RaC.out⟩).rw Nat.one_pos HLE.out ?_ ?_; (focus (rw [World.size_alloc]; exact Nat.le_succ_of_le (Gr.out (v := w)).size)); intro g' cap' n' wz hn' ho' hg' hbl hke; have HN' := hid hn'; have HO' := hid ho'; clear hn' ho' hke; haveI ka : Kp0 w wz := ⟨hbl w (Nat.le_refl _) (Gr.out (v := w))⟩))
    all_goals (go_wp2_with fail)
    all_goals go_round
    all_goals first
     | (refine ⟨j + 1, _, _, _, rfl, by go_num, HLT.out, hid (Nat.le_add_left 1 j), hid ?_, ?_, ⟨Gr.out⟩⟩
        · rw [HN'.out, ovR_len, slopeN_len, List.length_singleton]; have := h1j.out; omega
        · rw [Nat.add_sub_cancel, HNX.out]; exact HO'.out.below eok_Q Gr.out)
     | (simp [intOf]; done)
     | (simp [intOf]; omega)
theorem reTouches {w : World} {v : Value} {l : List Int} (h : EV w v l) (ok : OkZ 130 l) (tl : Trim l) :
 Calls Tryz.prog 74 #[v] w fun e w' => e = .returned (.bool (zeroI l)) ∧ Kp0 w w' := by
 unfold zeroI; by_cases h1 : (endsI l).1 = 0
 · rw [decide_eq_true h1, Bool.true_or]; exact reTouch1 h ok tl h1
 · rw [decide_eq_false h1, Bool.false_or]; by_cases h2 : (endsI l).2 = 0
   · rw [decide_eq_true h2, Bool.true_or]; exact reTouch2 h ok tl h1 h2
   · rw [decide_eq_false h2, Bool.false_or]; exact reTouch3 h ok tl h1 h2
def baseD (A : List (Qt × Qt)) (S c : Qt × Qt) (i : Nat) : Qt × Qt := if i = 0 then c else mulN (A.getD (i - 1) (0, 0)) S
def valD (A : List (Qt × Qt)) (F S c : Qt × Qt) (k i : Nat) : Qt × Qt := if i < k then addN (baseD A S c i) (mulN (A.getD i (0, 0)) F) else baseD A S c i
theorem valD_self (A : List (Qt × Qt)) (F S c : Qt × Qt) (k : Nat) : valD A F S c k k = baseD A S c k := by unfold valD; rw [if_neg (Nat.lt_irrefl _)]
theorem valD_next (A : List (Qt × Qt)) (F S c : Qt × Qt) (k i : Nat) : valD A F S c (k + 1) i = if i = k then addN (baseD A S c k) (mulN (A.getD k (0, 0)) F) else valD A F S c k i := by
 unfold valD; by_cases h : i = k
 · rw [if_pos h, if_pos (by omega), h]
 · rw [if_neg h]; by_cases h2 : i < k
   · rw [if_pos h2, if_pos (by omega)]
   · rw [if_neg h2, if_neg (by omega)]
theorem valD_all (A : List (Qt × Qt)) (F S c : Qt × Qt) {i : Nat} (hi : i < A.length + 1) : (nextN A F S c).getD i (0, 0) = valD A F S c A.length i := by
 rw [List.getD_eq_getElem?_getD, nextN_at A F S c hi, Option.getD_some]; unfold valD baseD roundN firstN; by_cases h0 : i = 0
 · subst h0; rw [if_pos rfl, if_neg (Nat.lt_irrefl _), if_pos rfl]; by_cases h1 : 0 < A.length
   · rw [if_pos h1, if_pos h1]; unfold addN; refine Prod.ext ?_ ?_ <;> simp only <;> grind
   · rw [if_neg h1, if_neg h1]; unfold addN; refine Prod.ext ?_ ?_ <;> simp only <;> grind
 · rw [if_neg h0, if_pos (Nat.pos_of_ne_zero h0), if_neg h0]; by_cases h1 : i < A.length
   · rw [if_pos h1, if_pos h1]; unfold addN; refine Prod.ext ?_ ?_ <;> simp only <;> grind
   · rw [if_neg h1, if_neg h1]; unfold addN; refine Prod.ext ?_ ?_ <;> simp only <;> grind
theorem baseD_sm {A : List (Qt × Qt)} {U V : Qt} {c : Qt × Qt} {k : Nat} (h : ∀ x ∈ A, SmC x.1 81 ∧ SmC x.2 81) (hk : k ≤ A.length) [SmC U 81] [SmC V 81] (c1 : SmC c.1 81) (c2 : SmC c.2 81) : SmC (baseD A (U, V) c k).1 2000 ∧ SmC (baseD A (U, V) c k).2 2000 := by
 unfold baseD; by_cases h0 : k = 0
 · rw [if_pos h0]; exact ⟨⟨c1.out.mono (by decide)⟩, ⟨c2.out.mono (by decide)⟩⟩
 · rw [if_neg h0]; obtain ⟨h1, h2⟩ := h (A.getD (k - 1) (0, 0)) (by rw [List.getD_eq_getElem?_getD, List.getElem?_eq_getElem (by omega)]; exact List.getElem_mem _)
   exact ⟨⟨(inferInstance : SmC ((A.getD (k - 1) (0, 0)).1 * U - (A.getD (k - 1) (0, 0)).2 * V) _).out.mono (by decide)⟩, ⟨(inferInstance : SmC ((A.getD (k - 1) (0, 0)).1 * V + (A.getD (k - 1) (0, 0)).2 * U) _).out.mono (by decide)⟩⟩
def Oy (base : Nat) (w : World) (g n cap : Nat) (f : Nat → Qt × Qt) : Prop :=
 base ≤ g ∧ n ≤ cap ∧ cap ≤ maxLen ∧ ∃ cur : Array Value, w.heap[g]? = some (.cells cur 94 (0, 0)) ∧ cur.size = cap * 2 ∧ ∀ i, i < n → ∃ a b, cur[i * 2]? = some (.pointer (some ⟨a, 0, none⟩)) ∧ cur[i * 2 + 1]? = some (.pointer (some ⟨b, 0, none⟩)) ∧ Ra 125 w a (f i).1 ∧ Ra 125 w b (f i).2
section
variable {base : Nat} {w w' : World} {g n cap : Nat} {f : Nat → Qt × Qt}
theorem Oy.lt (h : Oy base w g n cap f) : g < w.heap.size := by
 obtain ⟨-, -, -, cur, hg, -⟩ := h; exact lt_of_block hg
theorem Oy.below (h : Oy base w g n cap f) (b : Below w.heap.size w w') : Oy base w' g n cap f := by
 obtain ⟨h1, h2, h3, cur, hg, hs, hc⟩ := h; refine ⟨h1, h2, h3, cur, (b.block g (lt_of_block hg)).trans hg, hs, fun i hi => ?_⟩
 obtain ⟨p, q, c1, c2, c3, c4⟩ := hc i hi; exact ⟨p, q, c1, c2, c3.below b, c4.below b⟩
theorem Oy.weak (h : Oy base w g n cap f) {f' : Nat → Qt × Qt} (hf : ∀ i, i < n → f' i = f i) : Oy base w g n cap f' := by
 obtain ⟨h1, h2, h3, cur, hg, hs, hc⟩ := h; refine ⟨h1, h2, h3, cur, hg, hs, fun i hi => ?_⟩
 rw [hf i hi]; exact hc i hi
theorem Oy.mono (h : Oy base w g n cap f) {b' : Nat} (hb : b' ≤ base) : Oy b' w g n cap f := ⟨Nat.le_trans hb h.1, h.2⟩
theorem Oy.at (h : Oy base w g n cap f) {i : Nat} (hi : i < n) : ∃ a b, w.cell? ⟨g, i * 2, none⟩ = some (.pointer (some ⟨a, 0, none⟩)) ∧ w.cell? ⟨g, i * 2 + 1, none⟩ = some (.pointer (some ⟨b, 0, none⟩)) ∧ Ra 125 w a (f i).1 ∧ Ra 125 w b (f i).2 := by
 obtain ⟨h1, h2, h3, cur, hg, hs, hc⟩ := h; obtain ⟨p, q, c1, c2, c3, c4⟩ := hc i hi; exact ⟨p, q, by rw [cell_of_block hg]; exact c1, by rw [cell_of_block hg]; exact c2, c3, c4⟩
theorem Oy.free (h : Oy base w g n cap f) (k : Nat) : w.frozen? ⟨g, k, none⟩ = false := by
 obtain ⟨h1, h2, h3, cur, hg, hs, hc⟩ := h; exact free_of_block hg k
theorem Oy.one {a b : Nat} {x : Qt × Qt} (ha : Ra 125 w a x.1) (hb : Ra 125 w b x.2) {s : Nat} [hs : HasSize w s] : Oy s (w.alloc (.cells #[.pointer (some ⟨a, 0, none⟩), .pointer (some ⟨b, 0, none⟩)] 94)) s 1 1 (fun _ => x) := by
 refine ⟨Nat.le_refl _, Nat.le_refl _, by unfold maxLen; omega, _, block_at _ _ _, rfl, fun i hi => ?_⟩
 obtain rfl : i = 0 := by omega
 have bl : Below w.heap.size w (w.alloc (.cells #[.pointer (some ⟨a, 0, none⟩), .pointer (some ⟨b, 0, none⟩)] 94)) := (Below.refl _ _).alloc (Nat.le_refl _) _; exact ⟨a, b, rfl, rfl, ha.below bl, hb.below bl⟩
theorem Oy.put (h : Oy base w g n cap f) {i a b : Nat} {x : Qt × Qt} (hi : i < n) (ha : Ra 125 w a x.1) (hb : Ra 125 w b x.2) : Oy base ((w.setCell ⟨g, i * 2, none⟩ (.pointer (some ⟨a, 0, none⟩))).setCell ⟨g, i * 2 + 1, none⟩ (.pointer (some ⟨b, 0, none⟩))) g n cap (fun j => if j = i then x else f j) := by
 obtain ⟨h1, h2, h3, C, hg, hs, hc⟩ := h; have kp : Keeps w.heap.size [g] w ((w.setCell ⟨g, i * 2, none⟩ (.pointer (some ⟨a, 0, none⟩))).setCell ⟨g, i * 2 + 1, none⟩ (.pointer (some ⟨b, 0, none⟩))) := ((Keeps.refl _ _ _).set (Or.inl (List.mem_singleton.2 rfl)) _ _).set (Or.inl (List.mem_singleton.2 rfl)) _ _; refine ⟨h1, h2, h3, (C.setIfInBounds (i * 2) _).setIfInBounds (i * 2 + 1) _, set_of_block (set_of_block hg _ _) _ _, by rw [Array.size_setIfInBounds, Array.size_setIfInBounds]; exact hs, fun j hj => ?_⟩
 obtain ⟨u, v, q1, q2, q3, q4⟩ := hc j hj; by_cases hij : j = i
 · subst hij; refine ⟨a, b, ?_, ?_, ?_, ?_⟩
   · rw [Array.getElem?_setIfInBounds, if_neg (by omega), Array.getElem?_setIfInBounds, if_pos rfl, if_pos (by omega)]
   · rw [Array.getElem?_setIfInBounds, if_pos rfl, if_pos (by rw [Array.size_setIfInBounds]; omega)]
   · dsimp only
     rw [if_pos rfl]; exact ha.keepO hg kp (by decide) (by decide)
   · dsimp only
     rw [if_pos rfl]; exact hb.keepO hg kp (by decide) (by decide)
 · refine ⟨u, v, ?_, ?_, ?_, ?_⟩
   · rw [Array.getElem?_setIfInBounds, if_neg (by omega), Array.getElem?_setIfInBounds, if_neg (by omega)]; exact q1
   · rw [Array.getElem?_setIfInBounds, if_neg (by omega), Array.getElem?_setIfInBounds, if_neg (by omega)]; exact q2
   · dsimp only
     rw [if_neg hij]; exact q3.keepO hg kp (by decide) (by decide)
   · dsimp only
     rw [if_neg hij]; exact q4.keepO hg kp (by decide) (by decide)
end
theorem info94z : (Tryz.prog.info? 94).map (fun i => (i.zero, i.size, i.bytes)) = some (some (.agg #[.pointer none, .pointer none]), 2, 16) := by kernel_rfl
theorem und107z : Tryz.prog.underlying 107 = some (.slice 94) := by kernel_rfl
theorem step_2 {ops : Array Oper} {dst : Option Nat} {ty : TypeId} {ps : String} {af : Array Edge} {a : Act} {w : World} {K : Act → World → Prop} {Q : Exit → Act → World → Prop} {F : Prop} {s x : Operand} (base : Nat) {g n cap gb p q : Nat} {f : Nat → Qt × Qt} {y : Qt × Qt} (hs : a.eval s = .slice (some ⟨g, 0, none⟩) n cap) (hown : Oy base w g n cap f)
 (hx : a.eval x = .slice (some ⟨gb, 0, none⟩) 1 1) (hb : Bk w gb [.pointer (some ⟨p, 0, none⟩), .pointer (some ⟨q, 0, none⟩)] 94) (hp : Ra 125 w p y.1) (hq : Ra 125 w q y.2) (hlen : n + 1 ≤ 1048576) (hbase : base ≤ w.heap.size)
 (h : ∀ g' cap' w', Oy base w' g' (n + 1) cap' (fun i => if i = n then y else f i) → (∀ v0 : World, v0.heap.size ≤ base → Below v0.heap.size v0 w → Below v0.heap.size v0 w') → K (a.put dst (.slice (some ⟨g', 0, none⟩) (n + 1) cap')) w') :
 if Region.wanted { dst := dst, op := .call { callee := .builtin .append, args := #[s, x], argTypes := #[107, 107] }, type := ty, pos := ps, after := af, guard := none } (yielded ops a.tmps) = true then Oper.wp Tryz.prog { dst := dst, op := .call { callee := .builtin .append, args := #[s, x], argTypes := #[107, 107] }, type := ty, pos := ps, after := af, guard := none } a w K Q else F := by
 obtain ⟨ti, hti, htz, hts, htb⟩ := info_parts info94z; obtain ⟨h1, h2, h3, C, hg, hsz, hc⟩ := hown; have hl : (C.toList.take (n * 2)).length = n * 2 := by rw [List.length_take, Array.length_toList, hsz]; omega
 refine step_append_lies w rfl s x 107 rfl base 94 ti _ 2 16 und107z hti htz hts htb rfl (by decide) (.slice (some ⟨g, 0, none⟩) n cap) n (C.toList.take (n * 2)) hs ⟨hl, .inr ⟨g, cap, C, rfl, h1, hg, h2, h3, hsz, rfl⟩⟩ ⟨gb, 0, none⟩ 1 1 [.pointer (some ⟨p, 0, none⟩), .pointer (some ⟨q, 0, none⟩)] hx rfl
  (fun j u hu => World.news_of_block hb.1 j u (by simpa using hu)) (fun u hu => by simp only [List.mem_cons, List.not_mem_nil, or_false] at hu; rcases hu with rfl | rfl <;> rfl) (by decide) (by unfold maxLen; omega) (by omega) hbase _ rfl (fun g' cap' w' r1 r2 r3 r4 => ?_)
 have kp : Keeps w.heap.size [g] w w' := ⟨r2.os, r2.tape, r2.output, r2.size, fun k hk hn => r2.block k hk (by simpa [Value.ownBlock] using hn)⟩
 obtain ⟨hl', hh⟩ := r1; rcases hh with ⟨hh, -⟩ | ⟨g2, cap2, cur2, hh, hb2, hg2, hn2, hm2, hs2, ht2⟩
 · cases hh
 simp only [Value.slice.injEq, Option.some.injEq, Addr.mk.injEq, and_true, true_and] at hh; obtain ⟨rfl, rfl⟩ := hh
 have hat : ∀ k, k < (n + 1) * 2 → cur2[k]? = (C.toList.take (n * 2) ++ [.pointer (some ⟨p, 0, none⟩), .pointer (some ⟨q, 0, none⟩)])[k]? := by
  intro k hk; rw [← ht2, List.getElem?_take, if_pos hk, Array.getElem?_toList]
 refine h g' cap' w' ⟨hb2, hn2, hm2, cur2, hg2, hs2, fun i hi => ?_⟩ (fun v0 hv hbl => ?_)
 · by_cases hin : i = n
   · subst hin; refine ⟨p, q, ?_, ?_, ?_, ?_⟩
     · rw [hat _ (by omega), List.getElem?_append_right (by omega), hl, Nat.sub_self]
       rfl
     · rw [hat _ (by omega), List.getElem?_append_right (by omega), hl, Nat.add_sub_cancel_left]
       rfl
     · dsimp only
       rw [if_pos rfl]; exact hp.keepO hg kp (by decide) (by decide)
     · dsimp only
       rw [if_pos rfl]; exact hq.keepO hg kp (by decide) (by decide)
   · obtain ⟨u, v, c1, c2, c3, c4⟩ := hc i (by omega)
     refine ⟨u, v, ?_, ?_, ?_, ?_⟩
     · rw [hat _ (by omega), List.getElem?_append_left (by omega), List.getElem?_take, if_pos (by omega), Array.getElem?_toList]
       exact c1
     · rw [hat _ (by omega), List.getElem?_append_left (by omega), List.getElem?_take, if_pos (by omega), Array.getElem?_toList]
       exact c2
     · dsimp only
       rw [if_neg hin]; exact c3.keepO hg kp (by decide) (by decide)
     · dsimp only
       rw [if_neg hin]; exact c4.keepO hg kp (by decide) (by decide)
 · refine ⟨r2.os.trans hbl.os, r2.tape.trans hbl.tape, r2.output.trans hbl.output, Nat.le_trans hbl.size r2.size, fun k hk => ?_⟩
   refine (r2.block k (Nat.lt_of_lt_of_le hk hbl.size) (fun hh => ?_)).trans (hbl.block k hk)
   simp only [Value.ownBlock, Option.some.injEq] at hh; omega
theorem app_row3 {α : Type} {T : Nat} {E : World → Value → α → Prop} (e : EOk T E) {ops : Array Oper} {rest : List Oper} {o : Oper} {a : Act} {w : World} {Q : Exit → Act → World → Prop} (hgd : o.guard = none) (s x : Operand) (t : TypeId)
 (ho : o.op = .call { callee := .builtin .append, args := #[s, x], argTypes := #[t, t] }) (base : Nat) (i : TypeInfo) (z : Value) (bytes : Nat) (ht : Tryz.prog.underlying t = some (.slice T)) (hi : Tryz.prog.info? T = some i) (hz : i.zero = some z)
 (hsize : i.size = 1) (hby : i.bytes = bytes) (hzs : z.cells.size = 1) (hb64 : bytes ≤ 64) {v : Value} {l m : List α} (hs : a.eval s = v) (hown : Ox T E base w v l)
 {ad : Option Addr} {k c : Nat} (hx : a.eval x = .slice ad k c) (hm : Rw T E w (.slice ad k c) m) (h0 : 0 < m.length) (hlen : l.length + m.length ≤ 1048576) (hbase : base ≤ w.heap.size)
 (h : ∀ g cap n' w', n' = l.length + m.length → Ox T E base w' (.slice (some ⟨g, 0, none⟩) n' cap) (l ++ m) → base ≤ g → (∀ v0 : World, v0.heap.size ≤ base → Below v0.heap.size v0 w → Below v0.heap.size v0 w') → (∀ u y, E w u y → E w' u y) → w.grownBy w' v.ownBlock → (v.ownBlock = some g ∨ g = w.heap.size) → wpList Tryz.prog ops Q rest (a.put o.dst (.slice (some ⟨g, 0, none⟩) n' cap)) w') :
 wpList Tryz.prog ops Q (o :: rest) a w := by
 obtain ⟨g0, off0, rfl, news, hl, hc, hE⟩ := hm.news h0
 obtain ⟨cap0, hk, -⟩ : ∃ cap0, k = m.length ∧ cap0 = c := by
  obtain ⟨a', cap', h1, -, -⟩ := hm; simp only [Value.slice.injEq] at h1; exact ⟨c, h1.2.1, rfl⟩
 subst hk; obtain ⟨xs, hown2, hEx⟩ := hown
 have h1c : ∀ u ∈ news, u.oneCell' = true := by
  intro u hu; obtain ⟨j, hj⟩ := List.getElem?_of_mem hu; obtain ⟨hjl, -⟩ := List.getElem?_eq_some_iff.1 hj; obtain ⟨u', q1, q2⟩ := hE j m[j] (List.getElem?_eq_getElem (by omega))
  rw [hj] at q1; rw [Option.some.inj q1]; exact e.one q2
 have hby2 : (l.length + m.length) * bytes ≤ 140737488355328 := by
  have : (l.length + m.length) * bytes ≤ 1048576 * 64 := Nat.mul_le_mul hlen hb64; omega
 refine wpList_append_lies w hgd s x t ho base T i z 1 bytes ht hi hz hsize hby hzs (by decide) v l.length xs hs hown2 ⟨g0, off0, none⟩ m.length c news hx (by omega) hc h1c h0 (by unfold maxLen; omega) hby2 hbase _ rfl (fun g cap w' r1 r2 r3 r4 => ?_)
 have hxl : xs.length = l.length := by rw [hown2.1, Nat.mul_one]
 have kE : ∀ u y, E w u y → E w' u y := by
  intro u y hu; rcases hown2.2 with ⟨rfl, -⟩ | ⟨g1, cap1, cur1, rfl, hb1, hg1, -⟩
  · exact e.below hu (Keeps.below ⟨r2.os, r2.tape, r2.output, r2.size, fun q hq _ => r2.block q hq (by simp [Value.ownBlock])⟩)
  · exact e.keep hg1 ⟨r2.os, r2.tape, r2.output, r2.size, fun q hq hn => r2.block q hq (by simpa [Value.ownBlock] using hn)⟩ hu
 have hgb : base ≤ g := by
  rcases r1.2 with ⟨hh, -⟩ | ⟨g2, cap2, cur2, hh, hb2, -⟩
  · cases hh
  · simp only [Value.slice.injEq, Option.some.injEq, Addr.mk.injEq] at hh; omega
 refine h g cap _ w' rfl ⟨xs ++ news, ?_, fun j y hy => ?_⟩ hgb (fun v0 hv hb => ?_) kE r2 r3
 · rw [List.length_append]; exact r1
 · rcases Nat.lt_or_ge j l.length with hj | hj
   · rw [List.getElem?_append_left hj] at hy; obtain ⟨u, q1, q2⟩ := hEx j y hy; exact ⟨u, by rw [List.getElem?_append_left (by omega)]; exact q1, kE _ _ q2⟩
   · rw [List.getElem?_append_right hj] at hy; obtain ⟨u, q1, q2⟩ := hE _ y hy; exact ⟨u, by rw [List.getElem?_append_right (by omega), hxl]; exact q1, kE _ _ q2⟩
 · refine ⟨r2.os.trans hb.os, r2.tape.trans hb.tape, r2.output.trans hb.output, Nat.le_trans hb.size r2.size, fun q hq => ?_⟩
   refine (r2.block q (Nat.lt_of_lt_of_le hq hb.size) (fun hh => ?_)).trans (hb.block q hq)
   rcases hown2.2 with ⟨rfl, -⟩ | ⟨g1, cap1, cur1, rfl, hb1, -⟩
   · cases hh
   · simp only [Value.ownBlock, Option.some.injEq] at hh; omega
theorem app_q3 {ops : Array Oper} {rest : List Oper} {o : Oper} {a : Act} {w : World} {Q : Exit → Act → World → Prop} (hgd : o.guard = none) (s x : Operand)
 (ho : o.op = .call { callee := .builtin .append, args := #[s, x], argTypes := #[108, 108] }) (base : Nat) {v : Value} {l m : List Qt} (hs : a.eval s = v) (hown : Ox 92 (ER 125) base w v l)
 {ad : Option Addr} {k c : Nat} (hx : a.eval x = .slice ad k c) (hm : Rw 92 (ER 125) w (.slice ad k c) m) (h0 : 0 < m.length) (hlen : l.length + m.length ≤ 1048576) (hbase : base ≤ w.heap.size)
 (h : ∀ g cap n' w', n' = l.length + m.length → Ox 92 (ER 125) base w' (.slice (some ⟨g, 0, none⟩) n' cap) (l ++ m) → base ≤ g → (∀ v0 : World, v0.heap.size ≤ base → Below v0.heap.size v0 w → Below v0.heap.size v0 w') → (∀ u y, ER 125 w u y → ER 125 w' u y) → w.grownBy w' v.ownBlock → (v.ownBlock = some g ∨ g = w.heap.size) → wpList Tryz.prog ops Q rest (a.put o.dst (.slice (some ⟨g, 0, none⟩) n' cap)) w') :
 wpList Tryz.prog ops Q (o :: rest) a w := by
 obtain ⟨ti, hti, htz, hts, htb⟩ := info_parts info92z; exact app_row3 eok_Q hgd s x 108 ho base ti _ 8 und108z hti htz hts htb rfl (by decide) hs hown hx hm h0 hlen hbase h
theorem Ox.grown {α : Type} {T base : Nat} {E : World → Value → α → Prop} {w w' : World} {v : Value} {l : List α} {r : Option Nat} (h : Ox T E base w v l) (kE : ∀ u y, E w u y → E w' u y) (g : w.grownBy w' r) (hne : ∀ q, v.ownBlock = some q → r ≠ some q) : Ox T E base w' v l := by
 obtain ⟨xs, ⟨h1, h2⟩, h3⟩ := h; refine ⟨xs, ⟨h1, ?_⟩, fun i x hx => ?_⟩
 · rcases h2 with h | ⟨q, cap, cur, rfl, hb, hg, hc, hm, hs, ht⟩
   · exact .inl h
   · exact .inr ⟨q, cap, cur, rfl, hb, (g.block q (lt_of_block hg) (Ne.symm (hne q rfl))).trans hg, hc, hm, hs, ht⟩
 · obtain ⟨u, q1, q2⟩ := h3 i x hx; exact ⟨u, q1, kE _ _ q2⟩
theorem Ox.own_lt {α : Type} {T base : Nat} {E : World → Value → α → Prop} {w : World} {v : Value} {l : List α} (h : Ox T E base w v l) {q : Nat} (hq : v.ownBlock = some q) : q < w.heap.size := by
 obtain ⟨xs, ⟨h1, h2⟩, h3⟩ := h; rcases h2 with ⟨rfl, -⟩ | ⟨g, cap, cur, rfl, hb, hg, -⟩
 · cases hq
 · obtain rfl := Option.some.inj hq; exact lt_of_block hg
theorem reAlong {w : World} {g off cap : Nat} {l : List (Nat × Nat)} {f1 f2 s1 s2 : Nat} {X Y U V : _root_.Rat} [hc : ClC w g off l] [hf1 : RaC 125 w f1 X] [hf2 : RaC 125 w f2 Y] [hs1 : RaC 125 w s1 U] [hs2 : RaC 125 w s2 V] (hl : okB l) (hn : l.length ≤ 17) (hfe : ∀ c ∈ l, fexp c.1 ≠ 2047 ∧ fexp c.2 ≠ 2047) (hF : DyN 92 140 (X, Y)) (hS : DyN 92 140 (U, V)) (hlD : ∀ c ∈ l, DyN 92 140 (frat c.1, frat c.2)) (hDD : wholeD ((alongN (X, Y) (U, V) l).map Prod.fst) ((alongN (X, Y) (U, V) l).map Prod.snd) ≠ 0 ∧ True) :
 Calls Tryz.prog 70 #[.slice (some ⟨g, off, none⟩) l.length cap, .agg #[.pointer (some ⟨f1, 0, none⟩), .pointer (some ⟨f2, 0, none⟩)], .agg #[.pointer (some ⟨s1, 0, none⟩), .pointer (some ⟨s2, 0, none⟩)]] w fun e w' => ∃ u u', e = .returned (.tuple #[u, u']) ∧ Rw 92 (ER 125) w' u (ovR (wholeD ((alongN (X, Y) (U, V) l).map Prod.fst) ((alongN (X, Y) (U, V) l).map Prod.snd)) (wholeX ((alongN (X, Y) (U, V) l).map Prod.fst) ((alongN (X, Y) (U, V) l).map Prod.snd))) ∧ Rw 92 (ER 125) w' u' (ovR (wholeD ((alongN (X, Y) (U, V) l).map Prod.fst) ((alongN (X, Y) (U, V) l).map Prod.snd)) (wholeY ((alongN (X, Y) (U, V) l).map Prod.fst) ((alongN (X, Y) (U, V) l).map Prod.snd))) ∧ Kp0 w w' := by
 have CB := hid (fun (j : Nat) (c : Nat × Nat) (h : l[j]? = some c) => And.intro (hl c (List.mem_of_getElem? h)) (hfe c (List.mem_of_getElem? h)))
 have HG := hid hc.out; have DD := hid hDD; haveI := has_cl hc; haveI sX : SmC X 81 := ⟨Nat.le_trans hF.1.num (by decide), Nat.le_trans hF.1.den (by decide)⟩
 haveI sY : SmC Y 81 := ⟨Nat.le_trans hF.2.num (by decide), Nat.le_trans hF.2.den (by decide)⟩
 haveI sU : SmC U 81 := ⟨Nat.le_trans hS.1.num (by decide), Nat.le_trans hS.1.den (by decide)⟩
 haveI sV : SmC V 81 := ⟨Nat.le_trans hS.2.num (by decide), Nat.le_trans hS.2.den (by decide)⟩
 obtain ⟨n, hn2⟩ : ∃ n, n = l.length := ⟨_, rfl⟩; have SA := hid (fun j : Nat => alongN_sm hF hS (l := l.drop j) (by rw [List.length_drop]; omega) (fun c hc' => hlD c (List.mem_of_mem_drop hc')))
 have CD := hid (fun (j : Nat) (c : Nat × Nat) (h : l[j]? = some c) => show SmC (frat c.1) 81 ∧ SmC (frat c.2) 81 from by
  have q := hlD c (List.mem_of_getElem? h); exact ⟨⟨Nat.le_trans q.1.num (by decide), Nat.le_trans q.1.den (by decide)⟩, ⟨Nat.le_trans q.2.num (by decide), Nat.le_trans q.2.den (by decide)⟩⟩)
 have LA := hid (fun j : Nat => show (alongN (X, Y) (U, V) (l.drop j)).length = n - j by rw [alongN_len, List.length_drop, hn2])
 have AD := hid (fun (j : Nat) (c : Nat × Nat) (h : l[j]? = some c) => alongN_drop (F := (X, Y)) (S := (U, V)) h)
 have AN := hid (show alongN (X, Y) (U, V) (l.drop n) = [] by rw [hn2, List.drop_length]; rfl)
 rw [← hn2] at hn ⊢; have HL := hid hn2; have HN := hid hn; clear hn2 hl hfe hlD hF hS hc hDD; go_enter Tryz.func70, Tryz.ntmps70; go_wp2_with fail
 go_loopw [8, 9] (fun s8 s9 wx => ∃ (m : Nat) (aA : Option Addr) (cA nA : Nat) (A : List (_root_.Rat × _root_.Rat)), s9 = .int .i64 ((m : Int) - 1) ∧ s8 = .slice aA nA cA ∧ m ≤ n ∧ Hid (A = alongN (X, Y) (U, V) (l.drop m)) ∧ Hid (nA = A.length) ∧ Hid (nA = 0 ∨ ∃ gA, aA = some ⟨gA, 0, none⟩ ∧ Oy w.heap.size wx gA nA cA (fun i => A.getD i (0, 0))) ∧ Kp0 ((w.alloc (.cells #[.pointer (some ⟨f1, 0, none⟩), .pointer (some ⟨f2, 0, none⟩)] 94)).alloc (.cells #[.pointer (some ⟨s1, 0, none⟩), .pointer (some ⟨s2, 0, none⟩)] 94)) wx) (fun _ s9 _ => (intOf s9 + 1).toNat)
 case atStart =>
  exact ⟨n, none, 0, 0, [], by go_num, rfl, Nat.le_refl _, hid AN.out.symm, hid rfl, hid (.inl rfl), ⟨Gr.out⟩⟩
 case round =>
  obtain ⟨m, aA, cA, nA, A, rfl, rfl, hm, HA, HNA, HR, ik⟩ := hrel; generalize hwo : wr = wo at *; clear hwo; rcases m with _ | m
  · skip
    have hneg : ¬ (0 : Int) ≤ ((0 : Nat) : Int) - 1 := by omega
    have hA17 : nA ≤ 17 := by have := LA.out 0; rw [← HA.out, ← HNA.out] at this; have := HN.out; omega
    rw [List.drop_zero] at HA; clear hm; go_wp2_with fail
    go_loopw [12, 13, 14] (fun s12 s13 s14 wx => ∃ (k n2 n3 c2 c3 : Nat) (a2 a3 : Option Addr), s12 = .slice a2 n2 c2 ∧ s13 = .slice a3 n3 c3 ∧ s14 = .int .i64 k ∧ k ≤ nA ∧ Hid (n2 = k) ∧ Hid (n3 = k) ∧ Ox 92 (ER 125) wo.heap.size wx (.slice a2 n2 c2) ((A.map Prod.fst).take k) ∧ Ox 92 (ER 125) wo.heap.size wx (.slice a3 n3 c3) ((A.map Prod.snd).take k) ∧ Hid (∀ q, (Value.slice a2 n2 c2).ownBlock = some q → (Value.slice a3 n3 c3).ownBlock ≠ some q) ∧ Kp0 wo wx) (fun _ _ s14 _ => nA - (intOf s14).toNat)
    case atStart => exact ⟨0, 0, 0, 0, 0, none, none, rfl, rfl, rfl, Nat.zero_le _, hid rfl, hid rfl, Ox.nil _ _, Ox.nil _ _, hid (fun q h => by cases h), ⟨Gr.out⟩⟩
    case round =>
     obtain ⟨k, n2, n3, c2, c3, a2, a3, rfl, rfl, rfl, hk, hn2, hn3, hX, hY, hNE, ik2⟩ := hrel; by_cases hkn : k = nA
     · have eX : (A.map Prod.fst).take k = A.map Prod.fst := List.take_of_length_le (by rw [List.length_map, ← HNA.out]; omega)
       have eY : (A.map Prod.snd).take k = A.map Prod.snd := List.take_of_length_le (by rw [List.length_map, ← HNA.out]; omega)
       rw [eX] at hX; rw [eY] at hY; obtain ⟨D, hDe⟩ : ∃ D, D = wholeD (A.map Prod.fst) (A.map Prod.snd) := ⟨_, rfl⟩; have dD := lcmL_den (A.map Prod.snd) (lcmL 1 (A.map Prod.fst)); have d1 : ∀ x ∈ A.map Prod.fst, x.den ∣ D := fun x hx => by rw [hDe]; exact Nat.dvd_trans ((lcmL_den _ _).2 x hx) dD.1
       have d2 : ∀ x ∈ A.map Prod.snd, x.den ∣ D := fun x hx => by rw [hDe]; exact dD.2 x hx
       have HD := DD.out; rw [← HA.out, ← hDe] at HD; have oX := ovR_whole d1 HD.1; have oY := ovR_whole d2 HD.1; have l1 : ((A.map Prod.fst).map (wholeI D)).length = n2 := by rw [List.length_map, List.length_map, ← HNA.out, hn2.out, hkn]
       have l2 : ((A.map Prod.snd).map (wholeI D)).length = n3 := by rw [List.length_map, List.length_map, ← HNA.out, hn3.out, hkn]
       have RX := hX.rw; have RY := hY.rw; rw [← oX] at RX; rw [← oY] at RY
       have CX := hid (fun (W : World) (q : Gr wr W) => show Calls Tryz.prog 118 #[.slice a2 n2 c2] W (fun e w' => e = .returned (.slice a2 (cutI ((A.map Prod.fst).map (wholeI D))).length c2) ∧ w' = W) from by
        have := reRow (w := W) (a := a2) (cap := c2) (l := (A.map Prod.fst).map (wholeI D)) (by rw [l1]; exact RX.below eok_Q q.out) HD.1 (by rw [l1, hn2.out]; omega)
        rwa [l1] at this)
       have CY := hid (fun (W : World) (q : Gr wr W) => show Calls Tryz.prog 118 #[.slice a3 n3 c3] W (fun e w' => e = .returned (.slice a3 (cutI ((A.map Prod.snd).map (wholeI D))).length c3) ∧ w' = W) from by
        have := reRow (w := W) (a := a3) (cap := c3) (l := (A.map Prod.snd).map (wholeI D)) (by rw [l2]; exact RY.below eok_Q q.out) HD.1 (by rw [l2, hn3.out]; omega)
        rwa [l2] at this)
       have FX := hid (show Rw 92 (ER 125) wr (.slice a2 (cutI ((A.map Prod.fst).map (wholeI D))).length c2) (ovR D (wholeX (A.map Prod.fst) (A.map Prod.snd))) by
        have := RX.take (k := (cutI ((A.map Prod.fst).map (wholeI D))).length) (by rw [ovR_len]; exact cutI_len _)
        rw [← ovR_take, ← cutI_pre] at this; unfold wholeX; rw [← hDe]; exact this)
       have FY := hid (show Rw 92 (ER 125) wr (.slice a3 (cutI ((A.map Prod.snd).map (wholeI D))).length c3) (ovR D (wholeY (A.map Prod.fst) (A.map Prod.snd))) by
        have := RY.take (k := (cutI ((A.map Prod.snd).map (wholeI D))).length) (by rw [ovR_len]; exact cutI_len _)
        rw [← ovR_take, ← cutI_pre] at this; unfold wholeY; rw [← hDe]; exact this)
       have HDE := hid hDe; have hcmp : ¬ (k : Int) < (nA : Int) := by omega
       generalize (cutI ((A.map Prod.fst).map (wholeI D))).length = m2 at *; generalize (cutI ((A.map Prod.snd).map (wholeI D))).length = m3 at *; clear hk hX hY eX eY dD d1 d2 HD oX oY l1 l2 RX RY hDe hkn; go_wp2_with (first | (go_at_call 118; (with_reducible refine Calls.mono (CX.out _ inferInstance) ?_); rintro e w' ⟨rfl, hw⟩; obtain rfl := hw.symm) | (go_at_call 118; (with_reducible refine Calls.mono (CY.out _ inferInstance) ?_); rintro e w' ⟨rfl, hw⟩; obtain rfl := hw.symm))
       go_ret2
       rw [← HA.out, ← HDE.out]; exact ⟨_, _, rfl, FX.out, FY.out, ⟨Gr.out⟩⟩
     · have hlt : k < nA := by omega
       have hkI : (k : Int) < (nA : Int) := by omega
       have hk0 : (0 : Int) ≤ (k : Int) := by omega
       obtain ⟨gA, rfl, HRA⟩ : ∃ gA, aA = some ⟨gA, 0, none⟩ ∧ Oy w.heap.size wo gA nA cA (fun i => A.getD i (0, 0)) := HR.out.resolve_left (by omega)
       obtain ⟨p3, q3, k3, k4, r3, r4⟩ := HRA.at hlt; haveI : Has wo gA := ⟨HRA.lt⟩; haveI : RaC 125 wo p3 (A.getD k (0, 0)).1 := ⟨r3⟩; haveI : RaC 125 wo q3 (A.getD k (0, 0)).2 := ⟨r4⟩; have HLT := hid hlt
       have HG0 := hid (show (A.map Prod.fst).take (k + 1) = (A.map Prod.fst).take k ++ [(A.getD k (0, 0)).1] by
        rw [List.take_add_one, List.getElem?_map, getN_some (A := A) (k := k) (by rw [← HNA.out]; exact hlt)]
        rfl)
       have HG1 := hid (show (A.map Prod.snd).take (k + 1) = (A.map Prod.snd).take k ++ [(A.getD k (0, 0)).2] by
        rw [List.take_add_one, List.getElem?_map, getN_some (A := A) (k := k) (by rw [← HNA.out]; exact hlt)]
        rfl)
       have HE0 := hid (show ((A.map Prod.fst).take k).length + [(A.getD k (0, 0)).1].length ≤ 1048576 by rw [List.length_take]; simp; omega)
       have HE1 := hid (show ((A.map Prod.snd).take k).length + [(A.getD k (0, 0)).2].length ≤ 1048576 by rw [List.length_take]; simp; omega)
       have HT0 := hid (show ((A.map Prod.fst).take k).length = k by rw [List.length_take, List.length_map, ← HNA.out]; omega)
       have HT1 := hid (show ((A.map Prod.snd).take k).length = k by rw [List.length_take, List.length_map, ← HNA.out]; omega)
       have HX := hid hX; have HY := hid hY; have RA3 := hid (fun (W : World) (q : Gr wo W) => show ER 125 W (.pointer (some ⟨p3, 0, none⟩)) (A.getD k (0, 0)).1 from ⟨_, rfl, r3.below q.out⟩)
       have RB3 := hid (fun (W : World) (q : Gr wo W) => show ER 125 W (.pointer (some ⟨q3, 0, none⟩)) (A.getD k (0, 0)).2 from ⟨_, rfl, r4.below q.out⟩)
       clear hX hY hk hkn r3 r4 hlt; go_upto_region 16 with fail
       go_cut [12] from 64 to 71 (fun s12 wx => ∃ g2 c2' n2', s12 = .slice (some ⟨g2, 0, none⟩) n2' c2' ∧ Hid (n2' = k + 1) ∧ Ox 92 (ER 125) wo.heap.size wx (.slice (some ⟨g2, 0, none⟩) n2' c2') ((A.map Prod.fst).take (k + 1)) ∧ Ox 92 (ER 125) wo.heap.size wx (.slice a3 n3 c3) ((A.map Prod.snd).take k) ∧ Hid ((Value.slice a3 n3 c3).ownBlock ≠ some g2) ∧ Kp0 wo wx)
       case first =>
        go_wp2_with (at_builtin; refine app_q3 rfl _ _ rfl wo.heap.size rfl (HX.out.below eok_Q Gr.out) rfl (Ox.one eok_Q (RA3.out wr inferInstance) (s := wr.heap.size)).rw Nat.one_pos HE0.out ?_ ?_; (focus (exact (Gr.out (v := wo)).size)); intro g' cap' n' wd hn' ho' hg' hbl hke hgr hor; have HN' := hid hn'; have HO' := hid ho'; have HKE := hid hke; have HGR := hid hgr; have HOR := hid hor; clear hn' ho' hke hgr hor; haveI kd : Kp0 wo wd := ⟨hbl wo (Nat.le_refl _) Gr.out⟩)
        go_meet
        have hne1 : ∀ q, (Value.slice a3 n3 c3).ownBlock = some q → (Value.slice a2 n2 c2).ownBlock ≠ some q := fun q h1 h2 => hNE.out q h2 h1
        refine ⟨_, _, _, rfl, hid ?_, ?_, (HY.out.below eok_Q (Gr.out (v := wr))).grown HKE.out HGR.out hne1, hid ?_, ⟨Gr.out⟩⟩
        · rw [HN'.out, HT0.out]; rfl
        · rw [HG0.out]; exact HO'.out
        · intro h; rcases HOR.out with ho | ho
          · exact hne1 _ h ho
          · have h3 := HY.out.own_lt h; rw [ho, World.size_alloc] at h3; omega
       case rest =>
       obtain ⟨g2, c2', n2', rfl, hn2', hX2, hY2, hN2, ik3⟩ := hcut; have HX2 := hid hX2; have HY2 := hid hY2; clear hX2 hY2 HX HY ik2; generalize hwe : wc = we at *; clear hwe; go_wp2_with (at_builtin; refine app_q3 rfl _ _ rfl wo.heap.size rfl (HY2.out.below eok_Q Gr.out) rfl (Ox.one eok_Q (RB3.out we inferInstance) (s := we.heap.size)).rw Nat.one_pos HE1.out ?_ ?_; (focus (exact (Gr.out (v := wo)).size)); intro g' cap' n' wd hn' ho' hg' hbl hke hgr hor; have HN' := hid hn'; have HO' := hid ho'; have HKE := hid hke; have HGR := hid hgr; have HOR := hid hor; clear hn' ho' hke hgr hor; haveI kd : Kp0 wo wd := ⟨hbl wo (Nat.le_refl _) Gr.out⟩)
       go_round
       case rel =>
        have hne2 : ∀ q, (Value.slice (some ⟨g2, 0, none⟩) n2' c2').ownBlock = some q → (Value.slice a3 n3 c3).ownBlock ≠ some q := fun q h1 h2 => by
         obtain rfl := Option.some.inj h1; exact hN2.out h2
        refine ⟨k + 1, _, _, _, _, _, _, rfl, rfl, by go_num, HLT.out, hn2', hid ?_, ((HX2.out.below eok_Q (Gr.out (v := we))).grown HKE.out HGR.out hne2).below eok_Q Gr.out, ?_, hid ?_, ⟨Gr.out⟩⟩
        · rw [HN'.out, HT1.out]; rfl
        · rw [HG1.out]; exact HO'.out.below eok_Q Gr.out
        · intro q h1 h2; have e1 : g2 = q := Option.some.inj h1; have e2 : g' = q := Option.some.inj h2; rcases HOR.out with ho | ho
          · exact hN2.out ((show (Value.slice a3 n3 c3).ownBlock = some g' from ho).trans (congrArg some (e2.trans e1.symm)))
          · have h3 := HX2.out.own_lt (q := g2) rfl; rw [World.size_alloc] at ho; omega
       case measure => first | (simp [intOf]; done) | (simp [intOf]; omega)
  · rw [show ((m + 1 : Nat) : Int) - 1 = (m : Int) by omega]
    have hI : (m : Int) < (n : Int) := by omega
    have h0 : (0 : Int) ≤ (m : Int) := by omega
    have hA17 : nA ≤ 17 := by have := LA.out (m + 1); rw [← HA.out, ← HNA.out] at this; have := HN.out; omega
    have HM := hid hm; have hAI : (nA : Int) ≤ 17 := by omega
    obtain ⟨c, hcj⟩ : ∃ c, l[m]? = some c := ⟨_, List.getElem?_eq_getElem (by rw [← HL.out]; omega)⟩
    have HJ := hid hcj; have HAD := hid (AD.out m c hcj); obtain ⟨⟨cb1, cb2⟩, ce1, ce2⟩ := CB.out m c hcj; obtain ⟨cs1, cs2⟩ := CD.out m c hcj; have SAm := SA.out (m + 1); rw [← HA.out] at SAm; have SB := hid (fun (k : Nat) (hk : k ≤ A.length) => baseD_sm (U := U) (V := V) (c := (frat c.1, frat c.2)) (k := k) SAm hk cs1 cs2)
    haveI : ClC w g off l := ⟨HG.out⟩; have cc := HG.out.cell hcj; clear hm hcj SAm; go_wp2_with ((go_at_call 61; (with_reducible refine Calls.mono (reExact cb1 cb2 ce1 ce2) ?_); rintro e wc ⟨a9, b9, rfl, hp9, hq9, _⟩))
    go_loopw [10, 11] (fun s10 s11 wx => ∃ (k gN cN : Nat), s10 = .slice (some ⟨gN, 0, none⟩) (k + 1) cN ∧ s11 = .int .i64 k ∧ k ≤ nA ∧ Oy wo.heap.size wx gN (k + 1) cN (valD A (X, Y) (U, V) (frat c.1, frat c.2) k) ∧ Kp0 wo wx) (fun _ s11 _ => nA - (intOf s11).toNat)
    case atStart =>
     refine ⟨0, _, _, rfl, rfl, Nat.zero_le _, ((Oy.one hp9.out hq9.out (x := (frat c.1, frat c.2)) (s := wc.heap.size)).mono (Gr.out (v := wo) (W := wc)).size).weak (fun i hi => ?_), ⟨Gr.out⟩⟩
     obtain rfl : i = 0 := by omega
     rw [valD_self]; rfl
    case round =>
     obtain ⟨k, gN, cN, rfl, rfl, hk, HOy, ik2⟩ := hrel; by_cases hkn : k = nA
     · have HF := hid (HOy.weak (f' := fun i => (nextN A (X, Y) (U, V) (frat c.1, frat c.2)).getD i (0, 0)) (fun i hi => by rw [valD_all _ _ _ _ (by rw [← HNA.out]; omega), ← HNA.out, hkn]))
       have hcmp : ¬ (k : Int) < (nA : Int) := by omega
       have HKN := hid hkn; clear hk hkn HOy; go_wp2_with fail
       go_round
       case rel =>
        refine ⟨m, some ⟨gN, 0, none⟩, cN, k + 1, nextN A (X, Y) (U, V) (frat c.1, frat c.2), by go_num, rfl, Nat.le_of_succ_le HM.out, hid (by rw [HAD.out, HA.out]), hid (by rw [nextN_len, ← HNA.out, HKN.out]), hid (.inr ⟨gN, rfl, ?_⟩), ⟨Gr.out⟩⟩
        exact (HF.out.below Gr.out).mono (Gr.out (v := w) (W := wo)).size
       case measure => first | (simp [intOf]; done) | (simp [intOf]; omega)
     · have hlt : k < nA := by omega
       have hkI : (k : Int) < (nA : Int) := by omega
       have hk0 : (0 : Int) ≤ (k : Int) := by omega
       have hk1 : (k : Int) < ((k + 1 : Nat) : Int) := by omega
       have hk1b : (k : Int) < (k : Int) + 1 := by omega
       obtain ⟨gA, rfl, HRA⟩ : ∃ gA, aA = some ⟨gA, 0, none⟩ ∧ Oy w.heap.size wo gA nA cA (fun i => A.getD i (0, 0)) := HR.out.resolve_left (by omega)
       obtain ⟨a3, b3, c3, c4, r3, r4⟩ := HRA.at hlt; haveI : Has wo gA := ⟨HRA.lt⟩; haveI : RaC 125 wo a3 (A.getD k (0, 0)).1 := ⟨r3⟩; haveI : RaC 125 wo b3 (A.getD k (0, 0)).2 := ⟨r4⟩; obtain ⟨sx1, sx2⟩ := SA.out (m + 1) (A.getD k (0, 0)) (by rw [← HA.out]; exact List.mem_of_getElem? (getN_some (A := A) (k := k) (by rw [← HNA.out]; exact hlt)))
       obtain ⟨a5, b5, c5, c6, r5, r6⟩ := HOy.at (Nat.lt_succ_self k); rw [valD_self] at r5 r6; haveI : Has wr gN := ⟨HOy.lt⟩; haveI : RaC 125 wr a5 (baseD A (U, V) (frat c.1, frat c.2) k).1 := ⟨r5⟩; haveI : RaC 125 wr b5 (baseD A (U, V) (frat c.1, frat c.2) k).2 := ⟨r6⟩; obtain ⟨sb1, sb2⟩ := SB.out k (Nat.le_of_lt (by rw [← HNA.out]; exact hlt))
       have fr0 := HOy.free (k * 2); have fr1 := HOy.free (k * 2 + 1); haveI uN2 : Up wo.heap.size gN := ⟨HOy.1⟩; haveI uN1 : Up w.heap.size gN := ⟨Nat.le_trans (Gr.out (v := w) (W := wo)).size HOy.1⟩; haveI uN3 := (⟨Nat.le_trans ik.out.size HOy.1⟩ : Up ((w.alloc (.cells #[.pointer (some ⟨f1, 0, none⟩), .pointer (some ⟨f2, 0, none⟩)] 94)).alloc (.cells #[.pointer (some ⟨s1, 0, none⟩), .pointer (some ⟨s2, 0, none⟩)] 94)).heap.size gN); haveI : NeN gA gN := ⟨Nat.ne_of_lt (Nat.lt_of_lt_of_le HRA.lt HOy.1)⟩; have d3 := hid c3; have d4 := hid c4; have d5 := hid c5; have d6 := hid c6; have HCU := hid HOy; have HLT := hid hlt; have HK1 := hid (show k + 1 + 1 ≤ 1048576 by omega)
       have HAD1 := hid (fun (x : Nat) => show (addN (baseD A (U, V) (frat c.1, frat c.2) k) (mulN (A.getD k (0, 0)) (X, Y))) = ((baseD A (U, V) (frat c.1, frat c.2) k).1 + ((A.getD k (0, 0)).1 * X - (A.getD k (0, 0)).2 * Y), (baseD A (U, V) (frat c.1, frat c.2) k).2 + ((A.getD k (0, 0)).1 * Y + (A.getD k (0, 0)).2 * X)) from rfl)
       clear r3 r4 r5 r6 HOy hk hkn hlt; go_upto_region 9 with fail
       go_cut [] from 34 to 47 (fun wx => Oy wo.heap.size wx gN (k + 1) cN (fun i => if i = k then addN (baseD A (U, V) (frat c.1, frat c.2) k) (mulN (A.getD k (0, 0)) (X, Y)) else valD A (X, Y) (U, V) (frat c.1, frat c.2) k i) ∧ Kp0 wo wx)
       case first =>
        refine wp_region_late (S := (fun W => W.cell? ⟨gN, k * 2, none⟩ = some (.pointer (some ⟨a5, 0, none⟩)) ∧ W.cell? ⟨gN, k * 2 + 1, none⟩ = some (.pointer (some ⟨b5, 0, none⟩)) ∧ W.cell? ⟨gA, k * 2, none⟩ = some (.pointer (some ⟨a3, 0, none⟩)) ∧ W.cell? ⟨gA, k * 2 + 1, none⟩ = some (.pointer (some ⟨b3, 0, none⟩)) ∧ W.cell? ⟨w.heap.size, 0, none⟩ = some (.pointer (some ⟨f1, 0, none⟩)) ∧ W.cell? ⟨w.heap.size, 1, none⟩ = some (.pointer (some ⟨f2, 0, none⟩)))) 14 (by kernel_rfl) ?_ (fun hHeld => ?_)
        · (refine ⟨?_, ?_, ?_, ?_, ?_, ?_⟩ <;> (first | exact Bk.cell BkC.out rfl | (simp [go_sem]; done) | (simp [go_sem, d3.out]; done) | (simp [go_sem, d4.out]; done) | (simp [go_sem, d5.out]; done) | (simp [go_sem, d6.out]; done)))
        refine wpAnyL_p 0 (v := ?_) rfl (Or.inl ⟨by rfl, ?_⟩) ?_
        rotate_left
        · intro w hSw
          (try dsimp only at hSw)
          go_simp
          all_goals (with_reducible rfl)
        try simp only [Act.put, List.setIfInBounds_toArray, List.set_cons_zero, List.set_cons_succ]
        refine wpAnyL_p 1 (v := ?_) rfl (Or.inl ⟨by rfl, ?_⟩) ?_
        rotate_left
        · intro w hSw
          (try dsimp only at hSw)
          go_simp
          all_goals (with_reducible rfl)
        try simp only [Act.put, List.setIfInBounds_toArray, List.set_cons_zero, List.set_cons_succ]
        refine wpAnyL_p 2 (v := ?_) rfl (Or.inl ⟨by rfl, ?_⟩) ?_
        rotate_left
        · intro w hSw
          (try dsimp only at hSw)
          go_simp
          all_goals (with_reducible rfl)
        try simp only [Act.put, List.setIfInBounds_toArray, List.set_cons_zero, List.set_cons_succ]
        refine wpAnyL_p 3 (v := ?_) rfl (Or.inl ⟨by rfl, ?_⟩) ?_
        rotate_left
        · intro w hSw
          (try dsimp only at hSw)
          go_simp
          all_goals (with_reducible rfl)
        try simp only [Act.put, List.setIfInBounds_toArray, List.set_cons_zero, List.set_cons_succ]
        refine wpAnyL_p 4 (v := ?_) rfl (Or.inl ⟨by rfl, ?_⟩) ?_
        rotate_left
        · intro w hSw
          (try dsimp only at hSw)
          go_simp
          all_goals (with_reducible rfl)
        try simp only [Act.put, List.setIfInBounds_toArray, List.set_cons_zero, List.set_cons_succ]
        refine wpAnyL_p 6 (v := ?_) rfl (Or.inl ⟨by rfl, ?_⟩) ?_
        rotate_left
        · intro w hSw
          (try dsimp only at hSw)
          go_simp
          all_goals (with_reducible rfl)
        try simp only [Act.put, List.setIfInBounds_toArray, List.set_cons_zero, List.set_cons_succ]
        refine wpAnyL_p 7 (v := ?_) rfl (Or.inl ⟨by rfl, ?_⟩) ?_
        rotate_left
        · intro w hSw
          (try dsimp only at hSw)
          go_simp
          all_goals (with_reducible rfl)
        try simp only [Act.put, List.setIfInBounds_toArray, List.set_cons_zero, List.set_cons_succ]
        refine wpAnyL_p 8 (v := ?_) rfl (Or.inl ⟨by rfl, ?_⟩) ?_
        rotate_left
        · intro w hSw
          (try dsimp only at hSw)
          go_simp
          all_goals (with_reducible rfl)
        try simp only [Act.put, List.setIfInBounds_toArray, List.set_cons_zero, List.set_cons_succ]
        refine wpAnyL_t 5 (v := ?_) rfl (Or.inl ⟨by rfl, ?_⟩) ?_
        rotate_left
        · intro w hSw
          (try dsimp only at hSw)
          go_simp
          all_goals (with_reducible rfl)
        try simp only [Act.put, List.setIfInBounds_toArray, List.set_cons_zero, List.set_cons_succ]
        refine wpAnyL_t 9 (v := ?_) rfl (Or.inl ⟨by rfl, ?_⟩) ?_
        rotate_left
        · intro w hSw
          (try dsimp only at hSw)
          go_simp
          all_goals (with_reducible rfl)
        try simp only [Act.put, List.setIfInBounds_toArray, List.set_cons_zero, List.set_cons_succ]
        refine wpAnyL_t 10 (v := ?_) rfl (Or.inl ⟨by rfl, ?_⟩) ?_
        rotate_left
        · intro w hSw
          (try dsimp only at hSw)
          go_simp
          all_goals (with_reducible rfl)
        try simp only [Act.put, List.setIfInBounds_toArray, List.set_cons_zero, List.set_cons_succ]
        refine wpAnyL_ready (rs := [11]) (by kernel_rfl) (by simp) ?_
        refine AllReadyL.early rfl (fun K hK => ?_) AllReadyL.nil
        go_simp
        (go_at_call 95; (with_reducible refine Calls.mono (reTimesC (by decide) (by decide) (by decide) (by decide)) ?_); rintro e wc ⟨_, _, rfl, _, _, _, _, _, _⟩)
        refine hK.out _ _ ?_ (fun hHeld => ?_)
        · (refine ⟨?_, ?_, ?_, ?_, ?_, ?_⟩ <;> (first | exact Bk.cell BkC.out rfl | (simp [go_sem]; done) | (simp [go_sem, d3.out]; done) | (simp [go_sem, d4.out]; done) | (simp [go_sem, d5.out]; done) | (simp [go_sem, d6.out]; done)))
        clear hK K
        try simp only [Act.put, List.setIfInBounds_toArray, List.set_cons_zero, List.set_cons_succ]
        refine wpAnyL_ready (rs := [12]) (by kernel_rfl) (by simp) ?_
        refine AllReadyL.early rfl (fun K hK => ?_) AllReadyL.nil
        go_simp
        (go_at_call 94; (with_reducible refine Calls.mono (rePlusC (by decide) (by decide) (by decide) (by decide)) ?_); rintro e wc ⟨a7, b7, rfl, hp7, hq7, _⟩)
        refine hK.out _ _ ?_ (fun hHeld => ?_)
        · (refine ⟨?_, ?_, ?_, ?_, ?_, ?_⟩ <;> (first | exact Bk.cell BkC.out rfl | (simp [go_sem]; done) | (simp [go_sem, d3.out]; done) | (simp [go_sem, d4.out]; done) | (simp [go_sem, d5.out]; done) | (simp [go_sem, d6.out]; done)))
        clear hK K
        try simp only [Act.put, List.setIfInBounds_toArray, List.set_cons_zero, List.set_cons_succ]
        refine wpAnyL_p 13 (v := ?_) rfl (Or.inl ⟨by rfl, ?_⟩) ?_
        rotate_left
        · intro w hSw
          (try dsimp only at hSw)
          go_simp
          all_goals (with_reducible rfl)
        try simp only [Act.put, List.setIfInBounds_toArray, List.set_cons_zero, List.set_cons_succ]
        refine wpAnyL_ready (rs := [14]) (by kernel_rfl) (by simp) ?_
        refine AllReadyL.late rfl (by kernel_rfl) (fun K hK => ?_) AllReadyL.nil
        go_simp
        refine hK.out _ _ ?_
        clear hK K
        try simp only [Act.put, List.setIfInBounds_toArray, List.set_cons_zero, List.set_cons_succ]
        refine wpAnyL_done (by kernel_rfl) ?_ _
        skip
        all_goals (go_wp2_with fail)
        all_goals go_meet
        all_goals (refine ⟨?_, ⟨Gr.out⟩⟩; rw [HAD1.out 0]; exact (HCU.out.below (Gr.out (v := wr))).put (Nat.lt_succ_self k) hp7.out hq7.out)
       case rest =>
       obtain ⟨HOy2, ik3⟩ := hcut; have HOY := hid (HOy2.weak (f' := valD A (X, Y) (U, V) (frat c.1, frat c.2) (k + 1)) (fun i _ => valD_next _ _ _ _ _ _))
       clear HOy2 HCU ik2; generalize hwd : wc = wd at *; clear hwd; haveI : Gr w wd := inferInstance; have HBN := hid (show baseD A (U, V) (frat c.1, frat c.2) (k + 1) = ((A.getD k (0, 0)).1 * U - (A.getD k (0, 0)).2 * V, (A.getD k (0, 0)).1 * V + (A.getD k (0, 0)).2 * U) by unfold baseD; rw [if_neg (Nat.succ_ne_zero k), Nat.add_sub_cancel]; rfl)
       go_wp2_with fail
       go_region_held3 (fun W => W.cell? ⟨gA, k * 2, none⟩ = some (.pointer (some ⟨a3, 0, none⟩)) ∧ W.cell? ⟨gA, k * 2 + 1, none⟩ = some (.pointer (some ⟨b3, 0, none⟩)) ∧ W.cell? ⟨w.heap.size + 1, 0, none⟩ = some (.pointer (some ⟨s1, 0, none⟩)) ∧ W.cell? ⟨w.heap.size + 1, 1, none⟩ = some (.pointer (some ⟨s2, 0, none⟩))) (refine ⟨?_, ?_, ?_, ?_⟩ <;> (first | exact Bk.cell BkC.out rfl | (simp [go_sem]; done) | (simp [go_sem, d3.out]; done) | (simp [go_sem, d4.out]; done))) (first | (go_at_call 95; (with_reducible refine Calls.mono (reTimesC (by decide) (by decide) (by decide) (by decide)) ?_); rintro e wc ⟨a8, b8, rfl, hp8, hq8, _, _, _, _⟩) | (refine step_2 wo.heap.size (y := ((A.getD k (0, 0)).1 * U - (A.getD k (0, 0)).2 * V, (A.getD k (0, 0)).1 * V + (A.getD k (0, 0)).2 * U)) rfl (HOY.out.below (Gr.out (v := wd))) rfl BkC.out (hp8.out.below ((Below.refl _ _).alloc (Nat.le_refl _) _)) (hq8.out.below ((Below.refl _ _).alloc (Nat.le_refl _) _)) HK1.out ?_ ?_; (focus (rw [World.size_alloc]; exact Nat.le_succ_of_le (Gr.out (v := wo)).size)); intro g' cap' wz ho' hbl; have HO' := hid ho'; clear ho'; haveI ka : Kp0 wo wz := ⟨hbl wo (Nat.le_refl _) (Gr.out (v := wo))⟩))
       all_goals (go_wp2_with fail)
       all_goals go_round
       all_goals first
        | (refine ⟨k + 1, _, _, rfl, by go_num, HLT.out, (HO'.out.below Gr.out).weak (fun i hi => ?_), ⟨Gr.out⟩⟩
           by_cases h : i = k + 1
           · rw [if_pos h, h, valD_self, HBN.out]
           · rw [if_neg h])
        | (simp [intOf]; done)
        | (simp [intOf]; omega)
end Go.Proofs.YthjeejnggpjnjaaGreatDoor
