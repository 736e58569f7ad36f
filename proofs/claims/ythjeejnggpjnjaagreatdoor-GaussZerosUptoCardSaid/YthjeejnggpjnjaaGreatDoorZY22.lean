/- A part: GC, GD, GE. -/
import Derived.Test.YthjeejnggpjnjaaGreatDoorZY21
set_option linter.unusedSimpArgs false
set_option linter.unusedVariables false
set_option maxRecDepth 100000
set_option maxHeartbeats 16000000
set_option synthInstance.maxHeartbeats 2000000
set_option synthInstance.maxSize 100000
namespace Go.Proofs.YthjeejnggpjnjaaGreatDoor
open Go.RowKit
def OkS (l : List (List Int)) : Prop := l ≠ [] ∧ l.length ≤ 64 ∧ ∀ P ∈ l, P.length ≤ 17 ∧ SzI 17000000000 P ∧ Trim P
theorem OkS.signs {l : List (List Int)} (ok : OkS l) {P : List Int} (hP : P ∈ l) {W : World} {u : Value} (hu : EV W u P) : Calls Tryz.prog 122 #[u] W fun e w' => e = .returned (.tuple #[.int .i64 (endsI P).1, .int .i64 (endsI P).2]) ∧ Kp0 W w' := by
 obtain ⟨h1, h2, h3⟩ := ok.2.2 P hP; rcases h3 with rfl | h3
 · exact reSigns (D := 1) (L := 17000000000) hu (by decide) (by decide) (fun x hx => by cases hx) (Nat.le_trans (small_len (by decide)) (by decide)) (by decide)
 · exact reSigns hu (by omega) (by omega) h2 (getD_len h2 _) (Nat.le_refl _)
theorem reChanges {w : World} {v : Value} {l : List (List Int)} (h : Rw 108 EV w v l) (ok : OkS l) :
 Calls Tryz.prog 73 #[v] w fun e w' => e = .returned (.int .i64 (turnI l)) ∧ Kp0 w w' := by
 obtain ⟨a, cap, rfl, hcap⟩ := h.form; have HH := hid h; have EN := hid (fun (W : World) (u : Value) (P : List Int) (hP : P ∈ l) (hu : EV W u P) => ok.signs hP hu)
 obtain ⟨n, hn⟩ : ∃ n, l.length = n + 1 := ⟨l.length - 1, by have := List.length_pos_iff.2 ok.1; omega⟩
 have HN := hid hn; have HT := hid (show turnI l = turnN l n by unfold turnI; rw [hn, Nat.add_sub_cancel])
 have hn64 : (n : Int) ≤ 64 := by have := ok.2.1; omega
 have hn0 : (0 : Int) ≤ (n : Int) := by omega
 rw [hn] at HH ⊢; obtain ⟨V, hV⟩ : ∃ V, V = turnI l := ⟨_, rfl⟩; rw [← hV]; have HV := hid (hV.trans HT.out); clear h ok hcap hV hn HT; go_enter Tryz.func73, Tryz.ntmps73; go_wp2_with fail
 go_loopw [3, 4] (fun s3 s4 wx => ∃ j : Nat, s3 = .int .i64 (turnN l j) ∧ s4 = .int .i64 ((j + 1 : Nat) : Int) ∧ j ≤ n ∧ Kp0 w wx) (fun _ s4 _ => n + 1 - (intOf s4).toNat)
 case atStart => exact ⟨0, rfl, rfl, Nat.zero_le _, ⟨Gr.out⟩⟩
 case round =>
  obtain ⟨j, rfl, rfl, hj, ik⟩ := hrel; by_cases hjn : j = n
  · subst hjn; clear hj; go_wp2_with fail
    go_ret
    exact ⟨by rw [HV.out]; rfl, ⟨Gr.out⟩⟩
  · have hlt : j < n := by omega
    have hI : (j : Int) < (n : Int) := by omega
    have h0 : (0 : Int) ≤ (j : Int) := by omega
    have j0 : ((j + 1 : Nat) : Int) - 1 = (j : Int) := by omega
    have j1 : (j : Int) < ((n + 1 : Nat) : Int) := by omega
    have j2 : ((j + 1 : Nat) : Int) < ((n + 1 : Nat) : Int) := by omega
    have hp := getL_some (l := l) (i := j) (by rw [HN.out]; omega)
    have hq := getL_some (l := l) (i := j + 1) (by rw [HN.out]; omega)
    obtain ⟨g, off, u, rfl, hg, cp, hP⟩ := HH.out.at hp; obtain ⟨g', off', u', he, -, cq, hQ⟩ := HH.out.at hq; simp only [Option.some.injEq, Addr.mk.injEq, and_true] at he; obtain ⟨rfl, rfl⟩ := he; haveI : Has w g := ⟨hg⟩; have E1 := hid (fun W (q : Gr w W) => EN.out W u _ (List.mem_of_getElem? hp) (eok_EV.below hP q.out))
    have E2 := hid (fun W (q : Gr w W) => EN.out W u' _ (List.mem_of_getElem? hq) (eok_EV.below hQ q.out))
    have hTN := hid (show turnN l (j + 1) = turnN l j + (absd (endsI (l.getD j [])).1 (endsI (l.getD (j + 1) [])).1 - absd (endsI (l.getD j [])).2 (endsI (l.getD (j + 1) [])).2) from rfl)
    have bT := turnN_bound l j; obtain ⟨b1, b2⟩ := ends_bound (l.getD j []); obtain ⟨b3, b4⟩ := ends_bound (l.getD (j + 1) []); generalize (endsI (l.getD j [])).1 = x1 at *; generalize (endsI (l.getD j [])).2 = y1 at *; generalize (endsI (l.getD (j + 1) [])).1 = x2 at *; generalize (endsI (l.getD (j + 1) [])).2 = y2 at *; generalize turnN l j = T at *; have A1 := hid (fun W : World => reAway (w := W) b1 b3)
    have A2 := hid (fun W : World => reAway (w := W) b2 b4)
    have c1 := absd_bound b1 b3; have c2 := absd_bound b2 b4; generalize absd x1 x2 = X at *; generalize absd y1 y2 = Y at *; have w1 : IntKind.i64.wrap (T + X) = T + X := IntWalk.i64_in _ (by omega)
    have w2 : IntKind.i64.wrap (T + X - Y) = T + X - Y := IntWalk.i64_in _ (by omega)
    clear hp hq hP hQ hj hjn bT b1 b2 b3 b4 c1 c2; go_wp2_with (first | (go_at_call 122; (with_reducible refine Calls.mono (E1.out _ inferInstance) ?_); rintro e wa ⟨rfl, _⟩) | (go_at_call 122; (with_reducible refine Calls.mono (E2.out _ inferInstance) ?_); rintro e wb ⟨rfl, _⟩) | (go_at_call 123; (with_reducible refine Calls.mono (A1.out _) ?_); rintro e w' ⟨rfl, hw⟩; obtain rfl := hw.symm) | (go_at_call 123; (with_reducible refine Calls.mono (A2.out _) ?_); rintro e w' ⟨rfl, hw⟩; obtain rfl := hw.symm))
    go_round
    case rel =>
     refine ⟨j + 1, ?_, by go_num, hlt, ⟨Gr.out⟩⟩
     simp only [Value.int.injEq, true_and]; rw [hTN.out]; omega
    case measure => first | (simp [intOf]; done) | (simp [intOf]; omega)
theorem reScaled {w : World} {v : Value} {l : List Int} {D L : Nat} (h : Rw 92 (ER 125) w v (ovR D l)) (hD : D ≠ 0) (ht : Trim l) (hn : l.length ≤ 4096) (hs : SzI L l) (hDl : (words D).length ≤ L) (hL : L ≤ 17000000000) :
 Calls Tryz.prog 120 #[v] w fun e w' => ∃ v', e = .returned v' ∧ Rw 92 (ER 125) w' v' (scI l) ∧ Kp0 w w' := by
 obtain ⟨a, cap, rfl, hcap⟩ := h.form; have HH := hid h; rw [ovR_len] at hcap HH ⊢; rcases ht with rfl | ht
 · clear h hs hcap; rw [show ([] : List Int).length = 0 from rfl]
   go_enter Tryz.func120, Tryz.ntmps120; go_wp2_with fail
   go_ret
   exact ⟨_, rfl, HH.out, ⟨Gr.out⟩⟩
 · obtain ⟨m, hm⟩ : ∃ m, l.length = m + 1 := ⟨l.length - 1, by
    rcases l with _ | ⟨x, t⟩
    · exact absurd rfl ht
    · simp⟩
   have HM := hid hm
   have hlast : l[m]? = some (lastI l) := by
    have := getD_some (l := l) (i := m) (by omega)
    unfold lastI; rw [hm, Nat.add_sub_cancel]; exact this
   obtain ⟨g, off, u, rfl, hg, cl, kl, rfl, hIl⟩ := HH.out.at (ovR_at (D := D) hlast); haveI : Has w g := ⟨hg⟩; haveI : RaC 125 w kl (mkRat (lastI l) D) := ⟨hIl⟩; have SE := hid (fun (j : Nat) (x : Int) (hx : l[j]? = some x) => show SmC (mkRat x D) 17179869184 from ⟨Sm.mk hD (by have := hs.at hx; omega) (by omega)⟩)
   haveI : SmC (mkRat (lastI l) D) 17179869184 := SE.out m _ hlast; haveI SA : SmC (rabs (mkRat (lastI l) D)) 17179869184 := ⟨by rw [rabs_num, Int.natAbs_natCast]; exact (SE.out m _ hlast).out.1, by rw [rabs_den]; exact (SE.out m _ hlast).out.2⟩
   have NZ := hid (show (rabs (mkRat (lastI l) D)).num ≠ 0 by
    rw [rabs_num]; intro hh; exact ht ((mk_zero (x := lastI l) hD).1 (by omega)))
   have SC := hid (fun x : Int => mk_scaled x hD ht)
   have HTL := hid (show (lastI l).natAbs ≠ 0 by omega)
   have e1 : ((m + 1 : Nat) : Int) - 1 = (m : Int) := by omega
   have e2 : (((m + 1 : Nat) : Int) == 0) = false := beq_eq_false_iff_ne.2 (by omega)
   have hmI0 : (0 : Int) ≤ (m : Int) := by omega
   have hm4 : (m : Int) ≤ 4096 := by omega
   have hm4n : m ≤ 4096 := by omega
   rw [hm] at HH ⊢; clear h hs hD ht hn hDl hL hcap hlast hIl hm; generalize hRR : rabs (mkRat (lastI l) D) = RR at *; have HRR := hid hRR; clear hRR; go_enter Tryz.func120, Tryz.ntmps120; go_wp2_with ((go_at_call 175; (with_reducible refine Calls.mono (erAbsC (by decide)) ?_); rintro e wc ⟨rfl, habs, _⟩))
   rw [HRR.out] at habs; go_loopw [4, 5] (fun s4 s5 wx => ∃ (j : Nat), s5 = .int .i64 j ∧ j ≤ m + 1 ∧ ∃ a4 n4 c4, s4 = .slice a4 n4 c4 ∧ Hid (n4 = j) ∧ Ox 92 (ER 125) w.heap.size wx (.slice a4 n4 c4) ((scI l).take j) ∧ RaC 125 wx w.heap.size RR ∧ Kp0 w wx) (fun _ s5 _ => m + 1 - (intOf s5).toNat)
   case atStart => exact ⟨0, rfl, Nat.zero_le _, _, _, _, rfl, hid rfl, Ox.nil _ _, habs, ⟨Gr.out⟩⟩
   case round =>
    obtain ⟨j, rfl, hj, a4, n4, c4, rfl, hn4, hO, iR, ik⟩ := hrel; by_cases hjn : j = m + 1
    · have HF := hid (show Rw 92 (ER 125) wr (.slice a4 n4 c4) (scI l) by
       have := hO.rw
       rwa [List.take_of_length_le (by unfold scI; rw [ovR_len, HM.out]; omega)] at this)
      have hcmp : ¬ (j : Int) < ((m + 1 : Nat) : Int) := by omega
      clear hO hj hjn; go_wp2_with fail
      go_ret
      exact ⟨_, rfl, HF.out, ⟨Gr.out⟩⟩
    · have hlt : j < m + 1 := by omega
      have hI : (j : Int) < ((m + 1 : Nat) : Int) := by omega
      have hI2 : (j : Int) < (m : Int) + 1 := by omega
      have h0 : (0 : Int) ≤ (j : Int) := by omega
      have hx := getD_some (l := l) (i := j) (by rw [HM.out]; omega)
      generalize l.getD j 0 = x at hx; obtain ⟨g2, off2, u, he, -, cj, kp, rfl, hIx⟩ := HH.out.at (ovR_at (D := D) hx); simp only [Option.some.injEq, Addr.mk.injEq, and_true] at he; obtain ⟨rfl, rfl⟩ := he; haveI : RaC 125 w kp (mkRat x D) := ⟨hIx⟩; haveI := SE.out j x hx
      have HNX := hid (show (scI l).take (j + 1) = (scI l).take j ++ [mkRat x D / RR] by
       rw [List.take_add_one, show (scI l)[j]? = some (mkRat x (lastI l).natAbs) from ovR_at hx, ← SC.out x]
       rfl)
      have HLE := hid (show ((scI l).take j).length + [mkRat x D / RR].length ≤ 1048576 by
       rw [List.length_take]
       simp
       omega)
      have HT4 := hid (show ((scI l).take j).length = j by rw [List.length_take, show (scI l).length = m + 1 from (ovR_len _ _).trans HM.out]; omega)
      have HO := hid hO; have HLT := hid hlt; clear hx hIx hO hj hjn hlt; go_wp2_with (first | (go_at_call 99; (with_reducible refine Calls.mono (erQuoC (by decide) (by decide) NZ.out) ?_); rintro e wc ⟨rfl, hq, _⟩) | (at_builtin; refine app_q eok_Q rfl _ _ rfl w.heap.size rfl (HO.out.below eok_Q Gr.out) rfl (Ox.one eok_Q ⟨_, rfl, hq.out⟩ (s := wc.heap.size)).rw Nat.one_pos HLE.out ?_ ?_; (focus (exact (Gr.out (v := w)).size)); intro g' cap' n' wa hn' ho' hg' hbl hke; have HN' := hid hn'; have HO' := hid ho'; have hra := (hke _ _ ⟨_, rfl, (inferInstance : RaC 125 _ w.heap.size RR).out⟩).ra; clear hn' ho' hke; haveI ka : Kp0 w wa := ⟨hbl w (Nat.le_refl _) Gr.out⟩))
      go_round
      case rel =>
       refine ⟨j + 1, by go_num, HLT.out, _, _, _, rfl, hid ?_, ?_, hra, ⟨Gr.out⟩⟩
       · rw [HN'.out, HT4.out]; rfl
       · rw [HNX.out]; exact HO'.out.below eok_Q Gr.out
      case measure => first | (simp [intOf]; done) | (simp [intOf]; omega)
def OkD (D : Nat) : Prop := D ≠ 0 ∧ (words D).length ≤ 17000000000
theorem Oz.turnC {T R B : Nat} {w w' : World} {a : Option Addr} {n cap : Nat} {k : Nat → Nat} {f f' : Nat → Qt} (hT : T ≠ 190) (hR : R ≠ T) (h : Oz T R B w a n cap k f) {j kj : Nat} {x : Qt} (hj : j < n) (hk : kj = k j) [kg : KG w kj w'] [hx : RaC R w' kj x] (hf : ∀ i, i < n → f' i = upQ f j x i) : Oz T R B w' a n cap k f' := by
 subst hk; exact (h.turn hT hR hj kg.out hx.out).weak hf
instance kg_kp1s (v : World) (g : Nat) (W w' : World) [k : Kp1 W g w'] [h : KG v g W] : KG v g w' := ⟨h.out.trans (k.out.mono h.out.size (fun q hq hn => hn))⟩
theorem mk_top {R Q : List Int} {D : Nat} (hD : D ≠ 0) (hQ : lastI Q ≠ 0) : mkRat (lastI R) D / mkRat (lastI Q) (lastI Q).natAbs = mkRat (topI R Q) D := mk_lead _ hD hQ
theorem mk_turn {R Q : List Int} {D : Nat} (hD : D ≠ 0) (hQ : lastI Q ≠ 0) {d i : Nat} (hd : R.length - Q.length = d) : mkRat (R.getD (d + i) 0) D - mkRat (topI R Q) D * mkRat (Q.getD i 0) (lastI Q).natAbs = mkRat (nxtI R Q (d + i)) (D * (lastI Q).natAbs) := by
 have := (mk_step (R := R) hD hQ (d + i)).2 (by omega)
 rw [mk_top hD hQ, hd, Nat.add_sub_cancel_left] at this; exact this
def halfQ (R Q : List Int) (D d i : Nat) (j : Nat) : Qt := if d ≤ j ∧ j < d + i then mkRat (nxtI R Q j) (D * (lastI Q).natAbs) else mkRat (R.getD j 0) D
theorem halfQ_0 (R Q : List Int) (D d : Nat) (j : Nat) : halfQ R Q D d 0 j = mkRat (R.getD j 0) D := by
 unfold halfQ; rw [if_neg (by omega)]
theorem halfQ_next {R Q : List Int} {D d i : Nat} (j : Nat) : halfQ R Q D d (i + 1) j = upQ (halfQ R Q D d i) (d + i) (mkRat (nxtI R Q (d + i)) (D * (lastI Q).natAbs)) j := by
 unfold upQ halfQ; by_cases h : j = d + i
 · rw [if_pos h, if_pos (by omega), h]
 · rw [if_neg h]; by_cases h2 : d ≤ j ∧ j < d + i
   · rw [if_pos h2, if_pos (by omega)]
   · rw [if_neg h2, if_neg (by omega)]
theorem halfQ_at {R Q : List Int} {D d i : Nat} : halfQ R Q D d i (d + i) = mkRat (R.getD (d + i) 0) D := by
 unfold halfQ; rw [if_neg (by omega)]
theorem halfQ_all {R Q : List Int} {D d : Nat} (hD : D ≠ 0) (hQ : lastI Q ≠ 0) (hd : R.length - Q.length = d) (h0 : 0 < Q.length) (hl : Q.length ≤ R.length) {j : Nat} (hj : j < R.length - 1) : halfQ R Q D d Q.length j = mkRat ((nextI R Q).getD j 0) (D * (lastI Q).natAbs) := by
 have e : (nextI R Q).getD j 0 = nxtI R Q j := getD_at (nextI_at hj); rw [e]; unfold halfQ; by_cases h : d ≤ j ∧ j < d + Q.length
 · rw [if_pos h]
 · rw [if_neg h]; exact (mk_step hD hQ j).1 (by omega)
theorem getD_take {l : List Int} {k j : Nat} (h : j < k) : (l.take k).getD j 0 = l.getD j 0 := by
 rw [List.getD_eq_getElem?_getD, List.getD_eq_getElem?_getD, List.getElem?_take, if_pos h]
def turnQ (R : List Int) (D i : Nat) (j : Nat) : Qt := if j < i then mkRat (-(R.getD j 0)) D else mkRat (R.getD j 0) D
theorem turnQ_next {R : List Int} {D i : Nat} (j : Nat) : turnQ R D (i + 1) j = upQ (turnQ R D i) i (-mkRat (R.getD i 0) D) j := by
 unfold upQ turnQ; by_cases h : j = i
 · rw [if_pos h, if_pos (by omega), h, mk_neg]
 · rw [if_neg h]; by_cases h2 : j < i
   · rw [if_pos h2, if_pos (by omega)]
   · rw [if_neg h2, if_neg (by omega)]
theorem turnQ_at {R : List Int} {D i : Nat} : turnQ R D i i = mkRat (R.getD i 0) D := by
 unfold turnQ; rw [if_neg (by omega)]
theorem Oz.ne {T R B : Nat} {w : World} {g off n cap : Nat} {k : Nat → Nat} {f : Nat → Qt} (hT : T ≠ 190) (hR : R ≠ T) (h : Oz T R B w (some ⟨g, off, none⟩) n cap k f) {i : Nat} (hi : i < n) : g ≠ k i := by
 obtain ⟨-, h2, -⟩ := h; obtain ⟨g', off', C, ha, hg, hc⟩ := h2 (by omega)
 simp only [Option.some.injEq, Addr.mk.injEq, and_true] at ha; obtain ⟨rfl, rfl⟩ := ha; obtain ⟨-, -, r⟩ := hc i hi; obtain ⟨_, _, bj, -⟩ := r; exact fun e => bj.ne ⟨hg, hT⟩ hR e.symm
theorem reRest {w : World} {v1 v2 : Value} {p q : List Int} {D1 L M : Nat} (hp : Rw 92 (ER 125) w v1 (ovR D1 p)) (hq : Rw 92 (ER 125) w v2 (scI q)) (hD1 : D1 ≠ 0) (hq0 : lastI q ≠ 0) (np : p.length ≤ 4096) (nq : q.length ≤ 4096) (sp : SzI L p) (sD : (words D1).length ≤ L) (sq : SzI M q) (hb : L + (p.length + 1 - q.length) * (M + 1) ≤ 17000000000) :
 Calls Tryz.prog 121 #[v1, v2] w fun e w' => ∃ v', e = .returned v' ∧ ∃ D, OkD D ∧ Rw 92 (ER 125) w' v' (ovR D ((remI (p.length + 1) p q).map (fun x => -x))) ∧ SzI 17000000000 ((remI (p.length + 1) p q).map (fun x => -x)) ∧ Kp0 w w' := by
 obtain ⟨a1, c1, rfl, hc1⟩ := hp.form; obtain ⟨a2, c2, rfl, hc2⟩ := hq.form; have HP := hid hp; have HQ := hid hq; rw [show (scI q).length = q.length from ovR_len _ _] at HQ hc2 ⊢
 rw [ovR_len] at HP hc1 ⊢
 obtain ⟨m, hm⟩ : ∃ m, q.length = m + 1 := ⟨q.length - 1, by
  rcases q with _ | ⟨x, t⟩
  · exact absurd rfl hq0
  · simp⟩
 have HM := hid hm
 have hlast : q[m]? = some (lastI q) := by
  have := getD_some (l := q) (i := m) (by omega)
  unfold lastI; rw [hm, Nat.add_sub_cancel]; exact this
 obtain ⟨g2, off2, u2, rfl, hg2, cl, kh, rfl, hIh⟩ := HQ.out.at (show (scI q)[m]? = some (mkRat (lastI q) (lastI q).natAbs) from ovR_at hlast)
 haveI : Has w g2 := ⟨hg2⟩; haveI : RaC 125 w kh (mkRat (lastI q) (lastI q).natAbs) := ⟨hIh⟩; obtain ⟨nb, hnb⟩ : ∃ nb, nb = (lastI q).natAbs := ⟨_, rfl⟩; have HNB := hid hnb; have HQ0 := hid hq0; have hnb0 : nb ≠ 0 := by omega
 have HNB0 := hid hnb0; have LB : (words nb).length ≤ M := by rw [hnb]; exact getD_len sq _
 have HLB := hid LB; have KQ := hid (fun j : Nat => show SmC (mkRat (q.getD j 0) nb) M from ⟨Sm.mk hnb0 (getD_len sq j) LB⟩)
 have SL := hid (show SmC (mkRat (lastI q) nb) M from ⟨Sm.mk hnb0 (getD_len sq _) LB⟩)
 have NZQ := hid (show (mkRat (lastI q) nb).num ≠ 0 from fun hh => hq0 ((mk_zero hnb0).1 hh))
 have SP := hid sp; have SQ := hid sq; have HB := hid hb; have HDD := hid (And.intro hD1 sD); have HNP := hid np; rw [← hnb] at this; rw [show scI q = ovR nb q by rw [hnb]; rfl] at HQ
 have e1 : ((m + 1 : Nat) : Int) - 1 = (m : Int) := by omega
 have hmI0 : (0 : Int) ≤ (m : Int) := by omega
 have hm4 : (m : Int) ≤ 4096 := by omega
 have hmI1 : (m : Int) < ((m + 1 : Nat) : Int) := by omega
 have SP1 := hid (fun (j : Nat) (x : Int) (hx : p[j]? = some x) => show SmC (mkRat x D1) L from ⟨Sm.mk hD1 (sp.at hx) sD⟩)
 have HL9 := hid (show L ≤ 1099511627776 by omega)
 obtain ⟨n, hn⟩ : ∃ n, n = p.length := ⟨_, rfl⟩; have HN := hid hn; rw [← hn] at HP HB HNP ⊢; rw [hm] at HQ HB ⊢; have hn4 : (n : Int) ≤ 4096 := by have := HNP.out; omega
 clear hp hq hD1 hq0 np nq sp sD sq hb hc1 hc2 hm hlast hIh hnb0 LB hnb hn; go_enter Tryz.func121, Tryz.ntmps121; go_wp2_with fail
 go_loopw [5, 6] (fun s5 s6 wx => ∃ (j : Nat) (K : List (Nat × Qt)) (a5 : Option Addr) (n5 c5 : Nat), s5 = .slice a5 n5 c5 ∧ s6 = .int .i64 j ∧ j ≤ n ∧ Hid (n5 = j) ∧ Hid (K.length = j) ∧ Ox 92 (EP 125) w.heap.size wx (.slice a5 n5 c5) K ∧ Hid (K.Pairwise (fun x y => x.1 < y.1)) ∧ Hid (∀ x ∈ K, w.heap.size ≤ x.1 ∧ x.1 < wx.heap.size) ∧ Hid (K.map Prod.snd = ovR D1 (p.take j)) ∧ Kp0 w wx) (fun _ s6 _ => n - (intOf s6).toNat)
 case atStart => exact ⟨0, [], _, _, _, rfl, rfl, Nat.zero_le _, hid rfl, hid rfl, Ox.nil _ _, hid List.Pairwise.nil, hid (fun x hx => by cases hx), hid rfl, ⟨Gr.out⟩⟩
 case round =>
  obtain ⟨j, K, a5, n5, c5, rfl, rfl, hj, hn5, hKl, hO, hPW, hKB, hKv, ik⟩ := hrel; by_cases hjn : j = n
  · subst hjn; have HZ0 := hid (hO.oz (B := w.heap.size) (n := n5) (by rw [hn5.out, hKl.out]) hPW.out (fun x hx => (hKB.out x hx).1))
    have HZ1 : Hid (∃ ks : Nat → Nat, Oz 92 125 w.heap.size wr a5 j c5 ks (fun i => mkRat (p.getD i 0) D1)) := hid (by
     have hv := hKv.out; have h5 := hn5.out; have hl := hKl.out; have z := HZ0.out; subst h5; refine ⟨_, z.weak (fun i hi => ?_)⟩
     have h1 : (K.map Prod.snd)[i]? = (ovR D1 (p.take n5))[i]? := by rw [hv]
     rw [List.getElem?_map, List.getElem?_eq_getElem (by omega), ovR_at (x := p.getD i 0) (by rw [List.getElem?_take, if_pos hi, getD_some (l := p) (by rw [← HN.out]; omega)])] at h1
     have h2 : (K.getD i (0, 0)) = K[i]'(by omega) := by rw [List.getD_eq_getElem?_getD, List.getElem?_eq_getElem (by omega)]; rfl
     show mkRat (p.getD i 0) D1 = (K.getD i (0, 0)).2
     rw [h2]; exact (Option.some.inj h1).symm)
    have h5 := hn5.out; subst h5; obtain ⟨k0, hZ1⟩ := HZ1.out; have HZ2 := hid hZ1; clear hZ1 HZ0 HZ1 hO hj hPW hKB hKv hKl hn5; generalize hwl : wr = wl at *; clear hwl; go_wp2_with fail
    go_loopw [5] (fun s5 wx => ∃ (R : List Int) (t D : Nat) (r1 : Option Addr) (cR : Nat) (ks : Nat → Nat), s5 = .slice r1 R.length cR ∧ Oz 92 125 w.heap.size wx r1 R.length cR ks (fun i => mkRat (R.getD i 0) D) ∧ Hid (R.length + t ≤ n5) ∧ Hid (SzI (L + t * (M + 1)) R) ∧ Hid (D ≠ 0) ∧ Hid ((words D).length ≤ L + t * (M + 1)) ∧ Hid (L + t * (M + 1) ≤ 17000000000) ∧ Hid (remI (n5 + 1 - t) R q = remI (n5 + 1) p q) ∧ Kp0 w wx) (fun s5 _ => match s5 with | .slice _ k _ => k | _ => 0)
    case atStart =>
     refine ⟨p, 0, D1, a5, c5, k0, by rw [← HN.out], ?_, hid (by rw [← HN.out]; omega), hid (by rw [Nat.zero_mul, Nat.add_zero]; exact SP.out), hid HDD.out.1, hid (by rw [Nat.zero_mul, Nat.add_zero]; exact HDD.out.2), hid (by rw [Nat.zero_mul, Nat.add_zero]; exact Nat.le_trans (Nat.le_add_right _ _) HB.out), hid rfl, ⟨Gr.out⟩⟩
     rw [← HN.out]; exact HZ2.out
    case round =>
     obtain ⟨R, t, D, r1, cR, ks, rfl, hZ, hT, hS, hD, hDw, hBt, hE, ik⟩ := hrel; obtain ⟨nR, hnR⟩ : ∃ nR, nR = R.length := ⟨_, rfl⟩; rw [← hnR] at hZ ⊢; have HnR := hid hnR; have HZ := hid hZ; have SR := hid (fun j : Nat => show SmC (mkRat (R.getD j 0) D) 17179869184 from ⟨Sm.mk hD.out (Nat.le_trans (getD_len hS.out j) (Nat.le_trans hBt.out (by decide))) (Nat.le_trans hDw.out (Nat.le_trans hBt.out (by decide)))⟩)
     have n4 : (nR : Int) ≤ 4096 := by have h1 := hT.out; have h2 := HNP.out; omega
     clear hZ hnR; by_cases hge : m + 1 ≤ nR
     · obtain ⟨K, rfl⟩ : ∃ k, nR = k + 1 := ⟨nR - 1, by omega⟩
       obtain ⟨d, hK⟩ : ∃ d, K = m + d := ⟨K - m, by omega⟩
       have HK := hid hK; have hgI : ((m + 1 : Nat) : Int) ≤ ((K + 1 : Nat) : Int) := by omega
       have hmK : m ≤ K := by omega
       obtain ⟨gr, offr, rfl, hgr, ct, hkB, hIt⟩ := HZ.out.at (i := K) (Nat.lt_succ_self K); haveI : Has wr gr := ⟨hgr⟩; rw [show R.getD K 0 = lastI R by unfold lastI; rw [← HnR.out, Nat.add_sub_cancel]] at hIt
       haveI : RaC 125 wr (ks K) (mkRat (lastI R) D) := ⟨hIt⟩; haveI : SmC (mkRat (lastI R) D) 17179869184 := SR.out _; have hTB := hid (show L + (t + 1) * (M + 1) ≤ 17000000000 from Nat.le_trans (Nat.add_le_add_left (Nat.mul_le_mul_right _ (by have := hT.out; have := HnR.out; have := HK.out; omega)) _) HB.out)
       obtain ⟨TB, hTBe⟩ : ∃ TB, TB = L + t * (M + 1) := ⟨_, rfl⟩; have hTM := hid (show TB + M + 1 ≤ 17000000000 by have := hTB.out; rw [Nat.add_mul, Nat.one_mul] at this; omega)
       have TB1 := hid (show TB ≤ 34359738368 by have := hTM.out; omega)
       have MB1 := hid (show M ≤ 34359738368 by have := hTM.out; omega)
       have PB1 := hid (show TB + M ≤ 17179869184 by have := hTM.out; omega)
       haveI : SmC (mkRat (lastI q) nb) 17179869184 := ⟨SL.out.out.mono (by have := hTM.out; omega)⟩
       have HTOP := hid (show mkRat (lastI R) D / mkRat (lastI q) nb = mkRat (topI R q) D by rw [HNB.out]; exact mk_top hD.out HQ0.out)
       haveI STOP : SmC (mkRat (topI R q) D) TB := ⟨Sm.mk hD.out (by rw [hTBe]; exact topI_len hS.out) (by rw [hTBe]; exact hDw.out)⟩
       have HTBe := hid hTBe
       have KLT := hid (fun (i : Nat) (hi : i < K + 1) => show ks i < wr.heap.size by
        obtain ⟨_, _, _, _, _, _, hr⟩ := HZ.out.at hi; exact hr.lt)
       have f1 : ((K + 1 : Nat) : Int) - 1 = (K : Int) := by omega
       have f2 : ((K + 1 : Nat) : Int) - ((m + 1 : Nat) : Int) = (d : Int) := by omega
       have f2c : (K : Int) + 1 - ((m : Int) + 1) = (d : Int) := by omega
       have f2b : (K : Int) - (m : Int) = (d : Int) := by omega
       have f3 : (K : Int) ≤ 4096 := by omega
       have f4 : (0 : Int) ≤ (K : Int) := by omega
       have f5 : (K : Int) < ((K + 1 : Nat) : Int) := by omega
       have f6 : (d : Int) ≤ 4096 := by omega
       have f7 : (0 : Int) ≤ (d : Int) := by omega
       have wk1 : IntKind.i64.wrap ((K : Int) + 1 - 1) = (K : Int) := by rw [IntWalk.i64_in _ (by omega)]; omega
       have wk2 : IntKind.i64.wrap ((m : Int) + 1 - 1) = (m : Int) := by rw [IntWalk.i64_in _ (by omega)]; omega
       have wk3 : IntKind.i64.wrap (K : Int) = (K : Int) := IntWalk.i64_in _ (by omega)
       have wk4 : IntKind.i64.wrap (m : Int) = (m : Int) := IntWalk.i64_in _ (by omega)
       have f5b : (K : Int) < (K : Int) + 1 := by omega
       have f5c : (m : Int) < (m : Int) + 1 := by omega
       clear hIt hK hge hkB hTBe n4; go_upto_region 7 with fail
       go_cut [7] from 31 to 44 (fun s7 wx => ∃ q7, s7 = .pointer (some ⟨q7, 0, none⟩) ∧ RaC 125 wx q7 (mkRat (topI R q) D) ∧ Kp0 wr wx ∧ UpW wr q7)
       case first =>
        go_region_held3 (fun W => W.cell? ⟨gr, offr + K, none⟩ = some (.pointer (some ⟨(ks K), 0, none⟩)) ∧ W.cell? ⟨g2, off2 + m, none⟩ = some (.pointer (some ⟨kh, 0, none⟩))) (refine ⟨?_, ?_⟩ <;> (first | exact Bk.cell BkC.out rfl | (simp [go_sem]; done) | (simp [go_sem, ct]; done) | (simp [go_sem, cl]; done))) (first | (go_at_call 99; (with_reducible refine Calls.mono (erQuoC (by decide) (by decide) NZQ.out) ?_); rintro e wc ⟨rfl, hq, _⟩))
        all_goals (go_wp2_with fail; go_meet; refine ⟨_, rfl, ?_, ⟨Gr.out⟩, ⟨Nat.le_refl _⟩⟩; rw [← HTOP.out]; exact hq)
       case rest =>
       obtain ⟨q7, rfl, iq, kq, uq⟩ := hcut; have HZd := hid (HZ.out.below kq.out); have HLQ := hid (fun (i : Nat) (hi : i < K + 1) => Nat.lt_of_lt_of_le (KLT.out i hi) uq.out)
       haveI : Gr w wc := inferInstance; clear HZ KLT; generalize hwd : wc = wd at *; clear hwd; go_wp2_with fail
       go_loopw [9] (fun s9 wx => ∃ i : Nat, s9 = .int .i64 i ∧ i ≤ m + 1 ∧ Oz 92 125 w.heap.size wx (some ⟨gr, offr, none⟩) (K + 1) cR ks (halfQ R q D d i) ∧ RaC 125 wx q7 (mkRat (topI R q) D) ∧ Kp0 w wx) (fun s9 _ => m + 1 - (intOf s9).toNat)
       case atStart => exact ⟨0, rfl, Nat.zero_le _, HZd.out.weak (fun i _ => halfQ_0 _ _ _ _ _), iq, ⟨Gr.out⟩⟩
       case round =>
        obtain ⟨i, rfl, hi, hZ3, iq3, ik3⟩ := hrel; by_cases him : i = m + 1
        · have HZ4 := hid (show Oz 92 125 w.heap.size wr (some ⟨gr, offr, none⟩) K cR ks (fun j => mkRat ((nextI R q).getD j 0) (D * nb)) from (hZ3.take (Nat.le_succ K)).weak (fun j hj => by
           have h1 := halfQ_all hD.out HQ0.out (show R.length - q.length = d by rw [← HnR.out, HM.out, HK.out]; omega) (by rw [HM.out]; omega) (by rw [HM.out, ← HnR.out, HK.out]; omega) (j := j) (by rw [← HnR.out]; exact hj)
           rw [HM.out, ← him, ← HNB.out] at h1; exact h1.symm))
          have HLK := hid (show (nextI R q).length = K by rw [nextI_len, ← HnR.out]; rfl)
          have HDn := hid (Nat.mul_ne_zero hD.out HNB0.out)
          have RW := hid (show Calls Tryz.prog 118 #[.slice (some ⟨gr, offr, none⟩) K cR] wr (fun e w' => e = .returned (.slice (some ⟨gr, offr, none⟩) (cutI (nextI R q)).length cR) ∧ w' = wr) from by
           have := reRow (w := wr) (a := some ⟨gr, offr, none⟩) (cap := cR) (l := nextI R q) (HLK.out ▸ HZ4.out.rw (l := ovR (D * nb) (nextI R q)) (by rw [ovR_len, HLK.out]) (fun j x hx => by
            unfold ovR at hx; rw [List.getElem?_map] at hx; rw [List.getD_eq_getElem?_getD]; cases h : (nextI R q)[j]? with
            | none => rw [h] at hx; cases hx
            | some y => rw [h] at hx; exact Option.some.inj hx)) HDn.out (by rw [HLK.out]; omega)
           rwa [HLK.out] at this)
          have hcmp : ¬ (i : Int) < ((m + 1 : Nat) : Int) := by omega
          have hKc : (K : Int) ≤ (cR : Int) := by have := HZ4.out.1; omega
          clear hZ3 hi him; go_wp2_with (go_at_call 118; (with_reducible refine Calls.mono RW.out ?_); rintro e w' ⟨rfl, hw⟩; obtain rfl := hw.symm)
          have hlen : (cutI (nextI R q)).length ≤ K := by
           have h1 := cutI_len (nextI R q)
           rwa [HLK.out] at h1
          have HLEN := hid hlen; go_round
          case rel =>
           refine ⟨cutI (nextI R q), t + 1, D * nb, some ⟨gr, offr, none⟩, cR, ks, rfl, ?_, hid ?_, hid ?_, hid HDn.out, hid ?_, hid hTB.out, hid ?_, ⟨Gr.out⟩⟩
           · refine (HZ4.out.take HLEN.out).weak (fun j hj => ?_)
             show mkRat ((cutI (nextI R q)).getD j 0) _ = _
             rw [cutI_pre (nextI R q), getD_take hj]
           · have h1 := hT.out; have h2 := HLEN.out; have h3 := HnR.out; omega
           · have := ((hS.out.next SQ.out).cut); refine this.mono ?_
             rw [Nat.add_mul, Nat.one_mul]; omega
           · refine Nat.le_trans (mul_len _ _) ?_
             have h1 := hDw.out; have h2 := HLB.out; rw [Nat.add_mul, Nat.one_mul]; omega
           · have h1 := hE.out; have h2 := hT.out; have h3 := HnR.out; rw [show n5 + 1 - t = (n5 + 1 - (t + 1)) + 1 by omega, remI_step (by rw [HM.out, ← HnR.out, HK.out]; omega)] at h1
             exact h1
          case measure => first | (simp; done) | (simp; omega) | (have := HLEN.out; simp; omega)
        · have hlt : i < m + 1 := by omega
          have hI : (i : Int) < ((m + 1 : Nat) : Int) := by omega
          have hI2 : (i : Int) < (m : Int) + 1 := by omega
          have h0 : (0 : Int) ≤ (i : Int) := by omega
          have hdi0 : d + i < K + 1 := by have := HK.out; omega
          obtain ⟨z, hz⟩ : ∃ z, z = d + i := ⟨_, rfl⟩; have hdi : z < K + 1 := by omega
          have HZZ := hid hz; obtain ⟨g', off', he, hgw, cj, hkB, hIj⟩ := hZ3.at hdi; simp only [Option.some.injEq, Addr.mk.injEq, and_true] at he; obtain ⟨rfl, rfl⟩ := he; rw [hz, halfQ_at, ← hz] at hIj; have hne := hZ3.ne (by decide) (by decide) hdi
          have hql := HLQ.out _ hdi; have hbi := getD_some (l := q) (i := i) (by rw [HM.out]; exact hlt)
          obtain ⟨gb, offb, ub, heb, -, cb, kb, rfl, hIb⟩ := HQ.out.at (ovR_at (D := nb) hbi); simp only [Option.some.injEq, Addr.mk.injEq, and_true] at heb; obtain ⟨rfl, rfl⟩ := heb; have HZ3 := hid hZ3; obtain ⟨kj, hkj⟩ : ∃ kj, kj = ks z := ⟨_, rfl⟩; rw [← hkj] at cj hkB hIj hne hql; have HKJ := hid hkj; haveI : Has wr gr := ⟨hgw⟩; haveI : RaC 125 wr kj (mkRat (R.getD z 0) D) := ⟨hIj⟩; haveI : RaC 125 w kb (mkRat (q.getD i 0) nb) := ⟨hIb⟩; haveI : NeN gr kj := ⟨hne⟩; haveI : Up w.heap.size kj := ⟨hkB⟩; haveI : NeN g2 kj := ⟨Nat.ne_of_lt (Nat.lt_of_lt_of_le hg2 hkB)⟩; haveI : NeN kb kj := ⟨Nat.ne_of_lt (Nat.lt_of_lt_of_le hIb.lt hkB)⟩; haveI : NeN q7 kj := ⟨Ne.symm (Nat.ne_of_lt hql)⟩; haveI := SR.out z; haveI := KQ.out i; have hwi : IntKind.i64.wrap ((d : Int) + (i : Int)) = (z : Int) := by rw [IntWalk.i64_in _ (by omega)]; omega
          have hwi1 : (0 : Int) ≤ (z : Int) := by omega
          have hwi2 : (z : Int) < ((K + 1 : Nat) : Int) := by omega
          have hwi3 : (z : Int) < (K : Int) + 1 := by omega
          have HTURN := hid (show mkRat (R.getD z 0) D - mkRat (topI R q) D * mkRat (q.getD i 0) nb = mkRat (nxtI R q z) (D * nb) by
           rw [hz]; rw [HNB.out]; exact mk_turn hD.out HQ0.out (by rw [← HnR.out, HM.out, HK.out]; omega))
          have HLT := hid hlt; have HDI := hid hdi; clear hZ3 hi him hkB hIj hne hql hbi hIb hkj hlt hdi hdi0 hz; go_upto_region 12 with fail
          go_region_held3 (fun W => W.cell? ⟨gr, offr + z, none⟩ = some (.pointer (some ⟨kj, 0, none⟩)) ∧ W.cell? ⟨g2, off2 + i, none⟩ = some (.pointer (some ⟨kb, 0, none⟩))) (refine ⟨?_, ?_⟩ <;> (first | exact Bk.cell BkC.out rfl | (simp [go_sem]; done) | (simp [go_sem, cj]; done) | (simp [go_sem, cb]; done))) (first | (go_at_call 124; (with_reducible refine Calls.mono (erMulC TB1.out MB1.out) ?_); rintro e wc ⟨rfl, _, _⟩) | (go_at_call 119; (with_reducible refine Calls.mono (erSubC (Nat.le_refl _) PB1.out) ?_); rintro e wc ⟨rfl, hs, _⟩))
          all_goals (go_wp2_with fail)
          all_goals go_round
          all_goals first
           | (refine ⟨i + 1, by go_num, HLT.out, HZ3.out.turnC (by decide) (by decide) HDI.out HKJ.out (fun j _ => ?_), inferInstance, ⟨Gr.out⟩⟩
              rw [halfQ_next, ← HZZ.out, HTURN.out, HNB.out])
           | (simp [intOf]; done)
           | (simp [intOf]; omega)
     · have hgI : ¬ ((m + 1 : Nat) : Int) ≤ (nR : Int) := by omega
       have HREM := hid (show remI (n5 + 1) p q = R by
        rw [← hE.out]; exact remI_stop (by have := hT.out; have := HnR.out; omega) (by rw [HM.out, ← HnR.out]; exact hge))
       have HRM := hid (show R.length = nR from HnR.out.symm)
       clear hge; generalize hwd : wr = wd at *; clear hwd; go_wp2_with fail
       go_loopw [10] (fun s10 wx => ∃ i : Nat, s10 = .int .i64 i ∧ i ≤ nR ∧ Oz 92 125 w.heap.size wx r1 nR cR ks (turnQ R D i) ∧ Kp0 w wx) (fun s10 _ => nR - (intOf s10).toNat)
       case atStart => exact ⟨0, rfl, Nat.zero_le _, HZ.out.weak (fun i _ => by unfold turnQ; rw [if_neg (Nat.not_lt_zero _)]), ⟨Gr.out⟩⟩
       case round =>
        obtain ⟨i, rfl, hi, hZ4, ik4⟩ := hrel; by_cases hin : i = nR
        · have hcmp : ¬ (i : Int) < (nR : Int) := by omega
          have HF := hid (hZ4.rw (l := ovR D (R.map (fun x => -x))) (by rw [ovR_len, List.length_map, HRM.out]) (fun j x hx => by
           unfold ovR at hx; rw [List.map_map, List.getElem?_map] at hx
           obtain ⟨y, hy, hy2⟩ : ∃ y, R[j]? = some y ∧ mkRat (-y) D = x := by
            cases h : R[j]? with
            | none => rw [h] at hx; cases hx
            | some y => rw [h] at hx; exact ⟨y, rfl, Option.some.inj hx⟩
           obtain ⟨hjl, -⟩ := List.getElem?_eq_some_iff.1 hy; unfold turnQ; rw [if_pos (by rw [hin, ← HRM.out]; exact hjl), getD_at hy, hy2]))
          clear hZ4 hi hin; go_wp2_with fail
          go_ret
          refine ⟨_, rfl, D, ⟨hD.out, Nat.le_trans hDw.out hBt.out⟩, ?_, ?_, ⟨Gr.out⟩⟩
          · rw [HREM.out]; exact HF.out
          · rw [HREM.out]; exact (hS.out.mono hBt.out).neg
        · have hlt : i < nR := by omega
          have hI : (i : Int) < (nR : Int) := by omega
          have h0 : (0 : Int) ≤ (i : Int) := by omega
          obtain ⟨gr, offr, rfl, hgr, cj, hkB, hIj⟩ := hZ4.at hlt; rw [turnQ_at] at hIj; have hne := hZ4.ne (by decide) (by decide) hlt
          have HZ5 := hid hZ4; obtain ⟨kj, hkj⟩ : ∃ kj, kj = ks i := ⟨_, rfl⟩; rw [← hkj] at cj hkB hIj hne; have HKJ := hid hkj; haveI : Has wr gr := ⟨hgr⟩; haveI : RaC 125 wr kj (mkRat (R.getD i 0) D) := ⟨hIj⟩; haveI : NeN gr kj := ⟨hne⟩; haveI : Up w.heap.size kj := ⟨hkB⟩; haveI := SR.out i; have HLT := hid hlt; clear hZ4 hi hin hkB hIj hne hkj hlt; go_upto_region 17 with fail
          go_region_held3 (fun W => W.cell? ⟨gr, offr + i, none⟩ = some (.pointer (some ⟨kj, 0, none⟩))) (first | exact Bk.cell BkC.out rfl | (simp [go_sem]; done) | (simp [go_sem, cj]; done)) (first | (go_at_call 98; (with_reducible refine Calls.mono (erNegC (by decide)) ?_); rintro e wc ⟨rfl, hs, _⟩))
          all_goals (go_wp2_with fail)
          all_goals go_round
          all_goals first
           | (refine ⟨i + 1, by go_num, HLT.out, HZ5.out.turnC (by decide) (by decide) HLT.out HKJ.out (fun j _ => ?_), ⟨Gr.out⟩⟩
              rw [turnQ_next])
           | (simp [intOf]; done)
           | (simp [intOf]; omega)
  · have hlt : j < n := by omega
    have hI : (j : Int) < (n : Int) := by omega
    have h0 : (0 : Int) ≤ (j : Int) := by omega
    have hx : p[j]? = some p[j] := List.getElem?_eq_getElem (by rw [← HN.out]; omega)
    generalize p[j] = x at hx; obtain ⟨g, off, u, rfl, hg, cj, kp, rfl, hIx⟩ := HP.out.at (ovR_at (D := D1) hx); haveI : Has w g := ⟨hg⟩; haveI : RaC 125 w kp (mkRat x D1) := ⟨hIx⟩; haveI := SP1.out j x hx
    have HX := hid (show ovR D1 (p.take (j + 1)) = ovR D1 (p.take j) ++ [mkRat x D1] by
     unfold ovR; rw [List.take_add_one, hx, List.map_append]
     rfl)
    have HO := hid hO; have HLT := hid hlt
    have HLE := hid (show K.length + [(wr.heap.size, mkRat x D1)].length ≤ 1048576 by
     have h1 := hKl.out; have h2 := HNP.out
     simp
     omega)
    clear hx hIx hO hj hjn hlt; go_wp2_with (first | (go_at_call 145; (with_reducible refine Calls.mono (erSetC HL9.out) ?_); rintro e wc ⟨rfl, hset, _⟩) | (at_builtin; refine app_q eok_P rfl _ _ rfl w.heap.size rfl (HO.out.below eok_P Gr.out) rfl (Ox.one eok_P (x := (wr.heap.size, mkRat x D1)) ⟨rfl, hset.out⟩ (s := wc.heap.size)).rw Nat.one_pos HLE.out ?_ ?_; (focus (exact (Gr.out (v := w)).size)); intro g' cap' n' wa hn' ho' hg' hbl hke; have HN' := hid hn'; have HO' := hid ho'; have HBL := hid hbl; clear hn' ho' hke; haveI ka : Kp0 w wa := ⟨hbl w (Nat.le_refl _) Gr.out⟩))
    go_round
    case rel =>
     have hsz : wr.heap.size < wa.heap.size := HO'.out.plt (List.mem_append_right _ (List.mem_singleton.2 rfl)); refine ⟨j + 1, K ++ [(wr.heap.size, mkRat x D1)], _, _, _, rfl, by go_num, HLT.out, hid ?_, hid ?_, ?_, hid ?_, hid ?_, hid ?_, ⟨Gr.out⟩⟩
     · rw [HN'.out, hKl.out]; rfl
     · rw [List.length_append, hKl.out]; rfl
     · exact HO'.out.below eok_P Gr.out
     · rw [List.pairwise_append]; refine ⟨hPW.out, List.pairwise_singleton _ _, fun x hx y hy => ?_⟩
       obtain rfl := List.mem_singleton.1 hy; exact (hKB.out x hx).2
     · intro x hx; rcases List.mem_append.1 hx with hx | hx
       · have := hKB.out x hx; exact ⟨this.1, by omega⟩
       · obtain rfl := List.mem_singleton.1 hx; exact ⟨(Gr.out (v := w) (W := wr)).size, hsz⟩
     · rw [List.map_append, hKv.out, HX.out]; rfl
    case measure => first | (simp [intOf]; done) | (simp [intOf]; omega)
theorem RowI.szs {p q : List Int} (h : RowI 130 p q) : SzI 17000000000 p ∧ SzI 17000000000 q := by
 have g0 : ∀ n, growF 130 n ≤ 17000000000 := fun n => Nat.le_trans (growF_mono (Nat.zero_le _)) (by decide)
 rcases h with ⟨h1, h2, h3, h4⟩ | ⟨h1, h2, h3, h4⟩
 · exact ⟨h3.mono (by decide), h4.mono (by decide)⟩
 · exact ⟨h3.mono (g0 _), h4.mono (g0 _)⟩
theorem trim_last {p : List Int} (h : Trim p) (h0 : p ≠ []) : lastI p ≠ 0 := h.resolve_left h0
theorem reRestC {W : World} {u1 u2 : Value} {P Q : List Int} (h1 : EV W u1 P) (h2 : EV W u2 Q) (hI : RowI 130 P Q) (tP : Trim P) (tQ : Trim Q) (hP : P ≠ []) (hQ : Q ≠ []) :
 Calls Tryz.prog 121 #[u1, u2] W fun e w' => ∃ v', e = .returned v' ∧ ∃ D, OkD D ∧ Rw 92 (ER 125) w' v' (ovR D ((remI (P.length + 1) P Q).map (fun x => -x))) ∧ SzI 17000000000 ((remI (P.length + 1) P Q).map (fun x => -x)) ∧ Kp0 W w' := by
 have l1 := trim_last tP hP; have l2 := trim_last tQ hQ; have hl := hI.lens; rcases hI with h | h
 · exact reRest h1 h2 (by omega) l2 (by omega) (by omega) h.2.2.1 (getD_len h.2.2.1 _) h.2.2.2 (start_boundQ h)
 · exact reRest h1 h2 (by omega) l2 (by omega) (by omega) h.2.2.1 (getD_len h.2.2.1 _) h.2.2.2 (inv_boundQ h hQ)
theorem reScaledC {W : World} {v : Value} {P Q : List Int} {D : Nat} (h : Rw 92 (ER 125) W v (ovR D ((remI (P.length + 1) P Q).map (fun x => -x)))) (hD : D ≠ 0) (hDl : (words D).length ≤ 17000000000) (hs : SzI 17000000000 ((remI (P.length + 1) P Q).map (fun x => -x))) (hI : RowI 130 P Q) (tP : Trim P) (hQ : Q ≠ []) :
 Calls Tryz.prog 120 #[v] W fun e w' => ∃ v', e = .returned v' ∧ EV w' v' (lessI P Q) ∧ Kp0 W w' := by
 have t : Trim ((remI (P.length + 1) P Q).map (fun x => -x)) := trim_map (trim_rem _ _ _ tP) (fun x _ h0 => by omega)
 have hlen : (lessI P Q).length = ((remI (P.length + 1) P Q).map (fun x => -x)).length := smallI_len _
 have hl := lessI_len (p := P) hQ; have h17 := hI.lens; refine (reScaled h hD t (by omega) hs hDl (Nat.le_refl _)).mono ?_
 rintro e w' ⟨v', rfl, hv, k⟩; refine ⟨v', rfl, ?_, k⟩
 unfold EV lessI; rw [scI_small t]; exact hv
theorem Ox.at {α : Type} {T base : Nat} {E : World → Value → α → Prop} {w : World} {g n cap : Nat} {l : List α} (h : Ox T E base w (.slice (some ⟨g, 0, none⟩) n cap) l) {i : Nat} {x : α} (hx : l[i]? = some x) : ∃ u, g < w.heap.size ∧ w.cell? ⟨g, i, none⟩ = some u ∧ E w u x := by
 obtain ⟨g', off', u, he, hg, hc, hE⟩ := h.rw.at hx; simp only [Option.some.injEq, Addr.mk.injEq, and_true] at he; obtain ⟨rfl, rfl⟩ := he; rw [Nat.zero_add] at hc; exact ⟨u, hg, hc, hE⟩
theorem EV.form {w : World} {u : Value} {P : List Int} (h : EV w u P) : ∃ a cap, u = .slice a P.length cap := by
 obtain ⟨a, cap, e, -⟩ := Rw.form h; exact ⟨a, cap, by rw [e]; unfold scI; rw [ovR_len]⟩
theorem two_at {α : Type} (pre : List α) (x y : α) : (pre ++ [x, y])[pre.length]? = some x ∧ (pre ++ [x, y])[pre.length + 1]? = some y := by
 constructor
 · rw [List.getElem?_append_right (Nat.le_refl _), Nat.sub_self]; rfl
 · rw [List.getElem?_append_right (Nat.le_succ _)]; show [x, y][pre.length + 1 - pre.length]? = some y
   rw [Nat.add_sub_cancel_left]; rfl
theorem reChainNil {w : World} {v1 v2 : Value} {p q : List Int} {D1 D2 : Nat} (hp : Rw 92 (ER 125) w v1 (ovR D1 p)) (hq : Rw 92 (ER 125) w v2 (ovR D2 q)) (hD1 : D1 ≠ 0) (hD2 : D2 ≠ 0) (l1 : (words D1).length ≤ 17000000000) (l2 : (words D2).length ≤ 17000000000) (tp : Trim p) (tq : Trim q) (hI : RowI 130 p q) (h0 : q = []) :
 Calls Tryz.prog 72 #[v1, v2] w fun e w' => ∃ v', e = .returned v' ∧ Rw 108 EV w' v' (rowI p q) ∧ Kp0 w w' := by
 obtain ⟨a1, c1, rfl, -⟩ := hp.form; obtain ⟨a2, c2, rfl, -⟩ := hq.form; have h17 := hI.lens; have SP := hid (fun (W : World) (g : Gr w W) => reScaled (hp.below eok_Q g.out) hD1 tp (by omega) hI.szs.1 l1 (Nat.le_refl _))
 have SQ := hid (fun (W : World) (g : Gr w W) => reScaled (hq.below eok_Q g.out) hD2 tq (by omega) hI.szs.2 l2 (Nat.le_refl _))
 simp only [ovR_len] at SP SQ ⊢; subst h0; obtain ⟨n, hn⟩ : ∃ n, n = p.length := ⟨_, rfl⟩; rw [← hn] at SP ⊢; rw [show ([] : List Int).length = 0 from rfl]
 clear hp hq hD1 hD2 l1 l2 tp tq hI h17 SQ hn; go_enter Tryz.func72, Tryz.ntmps72; go_wp2_with (go_at_call 120; (with_reducible refine Calls.mono (SP.out _ inferInstance) ?_); rintro e wa ⟨va, rfl, hva, _⟩; obtain ⟨aA, cA, rfl, _⟩ := hva.form; have HVA := hid hva; clear hva)
 go_loopw [5] (fun s5 wx => ∃ g, s5 = .slice (some ⟨g, 0, none⟩) 1 1 ∧ Ox 108 EV w.heap.size wx (.slice (some ⟨g, 0, none⟩) 1 1) [p] ∧ Kp0 w wx) (fun _ _ => 0)
 case atStart => exact ⟨_, rfl, (Ox.one eok_EV (show EV wa _ p from HVA.out)).mono (Gr.out (v := w) (W := wa)).size, ⟨Gr.out⟩⟩
 case round =>
  obtain ⟨g, rfl, hO, ik⟩ := hrel; have HO := hid hO.rw; clear hO; go_wp2_with fail
  go_ret
  refine ⟨_, rfl, ?_, ⟨Gr.out⟩⟩
  unfold rowI; rw [chainI_stop]; exact HO.out
theorem reChainTwo {w : World} {v1 v2 : Value} {p q : List Int} {D1 D2 : Nat} (hp : Rw 92 (ER 125) w v1 (ovR D1 p)) (hq : Rw 92 (ER 125) w v2 (ovR D2 q)) (hD1 : D1 ≠ 0) (hD2 : D2 ≠ 0) (l1 : (words D1).length ≤ 17000000000) (l2 : (words D2).length ≤ 17000000000) (tp : Trim p) (tq : Trim q) (hI : RowI 130 p q) (h0 : q ≠ []) :
 Calls Tryz.prog 72 #[v1, v2] w fun e w' => ∃ v', e = .returned v' ∧ Rw 108 EV w' v' (rowI p q) ∧ Kp0 w w' := by
 obtain ⟨a1, c1, rfl, -⟩ := hp.form; obtain ⟨a2, c2, rfl, -⟩ := hq.form; have h17 := hI.lens; have SP := hid (fun (W : World) (g : Gr w W) => reScaled (hp.below eok_Q g.out) hD1 tp (by omega) hI.szs.1 l1 (Nat.le_refl _))
 have SQ := hid (fun (W : World) (g : Gr w W) => reScaled (hq.below eok_Q g.out) hD2 tq (by omega) hI.szs.2 l2 (Nat.le_refl _))
 simp only [ovR_len] at SP SQ ⊢; have HI := hid hI; have TP := hid tp; have TQ := hid tq; have HQ0 := hid h0; obtain ⟨n, hn⟩ : ∃ n, n = p.length := ⟨_, rfl⟩; obtain ⟨m, hm⟩ : ∃ m, q.length = m + 1 := ⟨q.length - 1, by have := List.length_pos_iff.2 h0; omega⟩
 have HL2 := hid (show [p].length + [q].length ≤ 1048576 by simp)
 have hmI : (0 : Int) < ((m + 1 : Nat) : Int) := by omega
 rw [← hn] at SP ⊢; have HM := hid hm; rw [hm] at SQ ⊢; clear hp hq hD1 hD2 l1 l2 tp tq hI h17 hn h0 hm; go_enter Tryz.func72, Tryz.ntmps72; go_upto_region 4 with (first | (go_at_call 120; (with_reducible refine Calls.mono (SP.out _ inferInstance) ?_); rintro e wa ⟨va, rfl, hva, _⟩; obtain ⟨aA, cA, rfl, _⟩ := hva.form; have HVA := hid hva; clear hva) | (go_at_call 120; (with_reducible refine Calls.mono (SQ.out _ inferInstance) ?_); rintro e wb ⟨vb, rfl, hvb, _⟩; obtain ⟨aB, cB, rfl, _⟩ := hvb.form; have HVB := hid hvb; clear hvb) | (at_builtin; refine app_v rfl _ _ rfl w.heap.size rfl (((Ox.one eok_EV (show EV wa _ p from HVA.out)).mono (Gr.out (v := w) (W := wa)).size).below eok_EV Gr.out) rfl (Ox.one eok_EV (show EV wb _ q from HVB.out) (s := wb.heap.size)).rw Nat.one_pos HL2.out ?_ ?_; (focus (exact (Gr.out (v := w)).size)); intro g' cap' n' wd hn' ho' hg' hbl hke; have HN' := hid hn'; have HO' := hid ho'; clear hn' ho' hke; haveI kd : Kp0 w wd := ⟨hbl w (Nat.le_refl _) Gr.out⟩))
 go_loopw [5] (fun s5 wx => ∃ (P Q : List Int) (pre : List (List Int)) (k g N c5 : Nat), s5 = .slice (some ⟨g, 0, none⟩) (N + 2) c5 ∧ Hid (N = pre.length) ∧ Ox 108 EV w.heap.size wx (.slice (some ⟨g, 0, none⟩) (N + 2) c5) (pre ++ [P, Q]) ∧ RowI 130 P Q ∧ Hid (Trim P) ∧ Hid (Trim Q) ∧ Hid (Q ≠ []) ∧ Hid (N + Q.length ≤ m + 1) ∧ Hid (Q.length < k) ∧ Hid (pre ++ chainI k P Q = rowI p q) ∧ Kp0 w wx) (fun s5 _ => match s5 with | .slice _ k _ => m + 4 - k | _ => 0)
 case atStart =>
  have hn2 := HN'.out; rw [show [p].length + [q].length = 2 from rfl] at hn2
  subst hn2; exact ⟨p, q, [], q.length + 1, _, 0, _, rfl, hid rfl, HO'.out.below eok_EV Gr.out, HI.out, TP, TQ, HQ0, hid (by rw [HM.out]; omega), hid (Nat.lt_succ_self _), hid rfl, ⟨Gr.out⟩⟩
 case round =>
  obtain ⟨P, Q, pre, k, g, N, c5, rfl, hN, hO, hR, tP, tQ, hQ, hl, hk, hE, ik⟩ := hrel; obtain ⟨e1, e2⟩ := two_at pre P Q; rw [← hN.out] at e1 e2; obtain ⟨u1, hg, cP, hP⟩ := hO.at e1; obtain ⟨u2, -, cQ, hQc⟩ := hO.at e2; obtain ⟨aP, kP, rfl⟩ := hP.form; obtain ⟨aQ, kQ, rfl⟩ := hQc.form; haveI : Has wr g := ⟨hg⟩; have HO := hid hO; have HR := hid hR; have hN17 : (N : Int) ≤ 100 := by have h1 := hl.out; have h2 := HI.out.lens; have h3 := HM.out; omega
  have h00 : (0 : Int) ≤ (N : Int) := by omega
  have h01 : (1 : Int) < ((N + 2 : Nat) : Int) := by omega
  have h02 : ((N + 2 : Nat) : Int) - 2 = (N : Int) := by omega
  have h03 : ((N + 2 : Nat) : Int) - 1 = ((N + 1 : Nat) : Int) := by omega
  have h04 : (N : Int) < ((N + 2 : Nat) : Int) := by omega
  have h05 : ((N + 1 : Nat) : Int) < ((N + 2 : Nat) : Int) := by omega
  obtain ⟨N1, hN1⟩ : ∃ N1, N1 = N + 1 := ⟨_, rfl⟩; rw [← hN1] at cQ; have wn0 : IntKind.i64.wrap (N : Int) = (N : Int) := IntWalk.i64_in _ (by omega)
  have wn1 : IntKind.i64.wrap ((N : Int) + 2 - 2) = (N : Int) := by rw [IntWalk.i64_in _ (by omega)]; omega
  have wn2 : IntKind.i64.wrap ((N : Int) + 2 - 1) = (N1 : Int) := by rw [IntWalk.i64_in _ (by omega)]; omega
  have wn3 : IntKind.i64.wrap ((N : Int) + 1) = (N1 : Int) := by rw [IntWalk.i64_in _ (by omega)]; omega
  have h06 : (N : Int) < (N : Int) + 2 := by omega
  have h07 : (N1 : Int) < (N : Int) + 2 := by omega
  have h08 : (0 : Int) ≤ (N1 : Int) := by omega
  clear hN1; obtain ⟨nP, hnP⟩ : ∃ nP, nP = P.length := ⟨_, rfl⟩; obtain ⟨nQ, hnQ⟩ : ∃ nQ, nQ = Q.length := ⟨_, rfl⟩; have HNP := hid hnP; have HNQ := hid hnQ; have HP := hid hP; have HQC := hid hQc; rw [← hnP] at cP HP; rw [← hnQ] at cQ HQC; clear hO hR hP hQc e1 e2 hnP hnQ; by_cases hp0 : nP = 0
  · subst hp0; have hPn : P = [] := List.length_eq_zero_iff.1 HNP.out.symm
    have HF := hid (show pre ++ [P, Q] = rowI p q by
     rw [← hE.out, hPn, show k = (k - 1) + 1 by have := hk.out; omega, chainI_step hQ.out]
     have : lessI [] Q = [] := by
      unfold lessI; rw [show ([] : List Int).length + 1 = 1 from rfl, remI_stop (by decide) (by have := List.length_pos_iff.2 hQ.out; show ¬ Q.length ≤ 0; omega)]
      rfl
     rw [this, chainI_stop])
    clear hPn; go_wp2_with fail
    go_ret
    exact ⟨_, rfl, by rw [← HF.out]; exact HO.out.rw, ⟨Gr.out⟩⟩
  · have hpI : (0 : Int) < (nP : Int) := by omega
    have hpN : 0 < nP := by omega
    have HPN := hid (show P ≠ [] by rintro rfl; exact hp0 HNP.out)
    have RC := hid (fun (W : World) (q : Gr wr W) => reRestC (W := W) (eok_EV.below HP.out q.out) (eok_EV.below HQC.out q.out) HR.out tP.out tQ.out HPN.out hQ.out)
    clear hp0; go_upto_region 5 with fail
    go_cut [6] from 31 to 43 (fun s6 wx => ∃ D, OkD D ∧ Rw 92 (ER 125) wx s6 (ovR D ((remI (P.length + 1) P Q).map (fun x => -x))) ∧ SzI 17000000000 ((remI (P.length + 1) P Q).map (fun x => -x)) ∧ Kp0 wr wx)
    case first =>
     go_region_held3 (fun W => W.cell? ⟨g, N, none⟩ = some (.slice aP nP kP) ∧ W.cell? ⟨g, N1, none⟩ = some (.slice aQ nQ kQ)) (refine ⟨?_, ?_⟩ <;> (first | exact Bk.cell BkC.out rfl | (simp [go_sem]; done) | (simp [go_sem, cP]; done) | (simp [go_sem, cQ]; done))) (first | (go_at_call 121; (with_reducible refine Calls.mono (RC.out _ inferInstance) ?_); rintro e wb ⟨vb, rfl, D, hD, hv, hs, _⟩; have HV := hid (And.intro hD (And.intro hv hs)); clear hD hv hs))
     all_goals (go_wp2_with fail; go_meet; exact ⟨_, HV.out.1, HV.out.2.1, HV.out.2.2, ⟨Gr.out⟩⟩)
    case rest =>
    obtain ⟨D, ⟨hD, hDl⟩, hv, hs, ikc⟩ := hcut; have hlr : (lessI P Q).length = ((remI (P.length + 1) P Q).map (fun x => -x)).length := smallI_len _
    have SC := hid (fun (W : World) (q : Gr wc W) => reScaledC (W := W) (hv.below eok_Q q.out) hD hDl hs HR.out tP.out hQ.out)
    obtain ⟨av, cv, rfl, -⟩ := hv.form; rw [ovR_len, ← hlr] at SC ⊢; obtain ⟨nR, hnR⟩ : ∃ nR, nR = (lessI P Q).length := ⟨_, rfl⟩; have HNR := hid hnR; rw [← hnR] at SC ⊢; have HO2 := hid (HO.out.below eok_EV (Gr.out (v := wr) (W := wc))); haveI : Gr w wc := inferInstance; clear hv hs hD hDl hlr hnR RC; by_cases hr0 : nR = 0
    · subst hr0
      have HF := hid (show pre ++ [P, Q] = rowI p q by
       rw [← hE.out, show k = (k - 1) + 1 by have := hk.out; omega, chainI_step hQ.out, List.length_eq_zero_iff.1 HNR.out.symm, chainI_stop])
      go_wp2_with fail
      go_ret
      exact ⟨_, rfl, by rw [← HF.out]; exact HO2.out.rw, ⟨Gr.out⟩⟩
    · have hrI : ((nR : Int) == 0) = false := beq_eq_false_iff_ne.2 (by omega)
      have HNE := hid (show lessI P Q ≠ [] by intro h; exact hr0 (by rw [HNR.out, h]; rfl))
      clear hr0
      have HLP := hid (show (pre ++ [P, Q]).length + [lessI P Q].length ≤ 1048576 by
       have h1 := hl.out; have h2 := HI.out.lens; have h3 := HM.out; have h4 := hN.out
       simp
       omega)
      go_wp2_with (first | (go_at_call 120; (with_reducible refine Calls.mono (SC.out _ inferInstance) ?_); rintro e we ⟨ve, rfl, hve, _⟩; obtain ⟨aE, cE, rfl⟩ := hve.form; have HVE := hid hve; clear hve) | (at_builtin; refine app_v rfl _ _ rfl w.heap.size rfl (HO2.out.below eok_EV Gr.out) rfl (Ox.one eok_EV HVE.out (s := we.heap.size)).rw Nat.one_pos HLP.out ?_ ?_; (focus (exact (Gr.out (v := w)).size)); intro g' cap' n' wd hn' ho' hg' hbl hke; have HN' := hid hn'; have HO' := hid ho'; clear hn' ho' hke; haveI kd : Kp0 w wd := ⟨hbl w (Nat.le_refl _) Gr.out⟩))
      have hn3 := HN'.out; rw [List.length_append, List.length_cons, List.length_singleton, List.length_singleton, ← hN.out] at hn3; obtain rfl : n' = N + 1 + 2 := by omega
      clear hn3; go_round
      case rel =>
       refine ⟨Q, lessI P Q, pre ++ [P], k - 1, _, N + 1, _, rfl, hid ?_, ?_, HR.out.step (by decide) hQ.out, tQ, hid (trim_less tP.out), HNE, hid ?_, hid ?_, hid ?_, ⟨Gr.out⟩⟩
       · rw [List.length_append, ← hN.out]; rfl
       · rw [List.append_assoc]; have := HO'.out.below eok_EV (Gr.out (v := wd) (W := wd)); rw [List.append_assoc] at this; exact this
       · have h1 := lessI_len (p := P) hQ.out; have h2 := hl.out; omega
       · have h1 := lessI_len (p := P) hQ.out; have h2 := hk.out; omega
       · rw [← hE.out, show k = (k - 1) + 1 by have := hk.out; omega, chainI_step hQ.out, Nat.add_sub_cancel, List.append_assoc, List.singleton_append]
      case measure =>
       have h2 := hl.out; have h3 := List.length_pos_iff.2 hQ.out
       first | (simp; done) | (simp; omega)
theorem reChain {w : World} {v1 v2 : Value} {p q : List Int} {D1 D2 : Nat} (hp : Rw 92 (ER 125) w v1 (ovR D1 p)) (hq : Rw 92 (ER 125) w v2 (ovR D2 q)) (hD1 : D1 ≠ 0) (hD2 : D2 ≠ 0) (l1 : (words D1).length ≤ 17000000000) (l2 : (words D2).length ≤ 17000000000) (tp : Trim p) (tq : Trim q) (hI : RowI 130 p q) :
 Calls Tryz.prog 72 #[v1, v2] w fun e w' => ∃ v', e = .returned v' ∧ Rw 108 EV w' v' (rowI p q) ∧ Kp0 w w' := by
 by_cases h0 : q = []
 · exact reChainNil hp hq hD1 hD2 l1 l2 tp tq hI h0
 · exact reChainTwo hp hq hD1 hD2 l1 l2 tp tq hI h0
end Go.Proofs.YthjeejnggpjnjaaGreatDoor
