/- A part: GH, GI, BP, BV. -/
import Derived.Test.YthjeejnggpjnjaaGreatDoorZY23
set_option linter.unusedSimpArgs false
set_option linter.unusedVariables false
set_option maxRecDepth 100000
set_option maxHeartbeats 16000000
set_option synthInstance.maxHeartbeats 2000000
set_option synthInstance.maxSize 100000
namespace Go.Proofs.YthjeejnggpjnjaaGreatDoor
open Go.RowKit
theorem mid_order {x y : Nat} (hx : x < 18446744073709551616) (hy : y < 18446744073709551616) (mx : midB x = true) (my : midB y = true) : (FloatKind.f64.format.order x y == some Ordering.lt) = !geB x y := by
 have fx : ∀ {z : Nat}, midB z = true → z % 9223372036854775808 < 9218868437227405312 := by
  intro z h; unfold midB at h; rw [Bool.or_eq_true, Bool.and_eq_true, decide_eq_true_eq, decide_eq_true_eq, decide_eq_true_eq] at h; rcases h with h | ⟨⟨h1, -⟩, h2⟩ <;> omega
 have o := forder2 x y hx hy (fx mx) (fx my); have e : FloatKind.f64.format.order x y = some (ordI (srung x) (srung y)) := o; unfold geB; rw [e]; cases ordI (srung x) (srung y) <;> rfl
theorem mid_order2 {a b c d : Nat} (ha : a < 18446744073709551616) (hb : b < 18446744073709551616) (hc : c < 18446744073709551616) (hd : d < 18446744073709551616) (m0 : midC (a, b) = true) (m1 : midC (c, d) = true) : (FloatKind.f64.format.order a c == some Ordering.lt) = !geB a c ∧ (FloatKind.f64.format.order b d == some Ordering.lt) = !geB b d := by
 unfold midC at m0 m1; rw [Bool.and_eq_true] at m0 m1; exact ⟨mid_order ha hc m0.1 m1.1, mid_order hb hd m0.2 m1.2⟩
theorem reMid1 {a : Nat} {w : World} (h0 : a < 18446744073709551616) :
 Calls Tryz.prog 173 #[.float .f64 a] w fun e w' => e = .returned (.bool (midB a)) ∧ w' = w := by
 have A0 := hid (fabs_any a h0); have z0 : (FloatKind.f64.format.order a 0 == some Ordering.eq) = decide (a % 9223372036854775808 = 0) := feq_zero a h0; have g0 : (FloatKind.f64.format.order (a % 9223372036854775808) 4427038433705197568 == some Ordering.gt || FloatKind.f64.format.order (a % 9223372036854775808) 4427038433705197568 == some Ordering.eq) = decide (4427038433705197568 ≤ a % 9223372036854775808 ∧ a % 9223372036854775808 ≤ 9218868437227405312) := fge_abs _ _ (Nat.mod_lt _ (by decide)) (by decide)
 have l0 : (FloatKind.f64.format.order (a % 9223372036854775808) 4787326403894837248 == some Ordering.lt || FloatKind.f64.format.order (a % 9223372036854775808) 4787326403894837248 == some Ordering.eq) = decide (a % 9223372036854775808 ≤ 4787326403894837248) := fle_abs _ _ (Nat.mod_lt _ (by decide)) (by decide)
 obtain ⟨M0, hM0⟩ : ∃ M, M = midB a := ⟨_, rfl⟩; rw [← hM0]; unfold midB at hM0; generalize decide (a % 9223372036854775808 = 0) = Z0 at *; generalize decide (4427038433705197568 ≤ a % 9223372036854775808 ∧ a % 9223372036854775808 ≤ 9218868437227405312) = G0 at *; generalize decide (a % 9223372036854775808 ≤ 4787326403894837248) = L0 at *; generalize a % 9223372036854775808 = y0 at *; have HM0 := hid hM0; clear hM0; cases Z0 <;> cases G0 <;> cases L0
 all_goals
  have hk := HM0.out; simp only [Bool.true_or, Bool.false_or, Bool.and_true, Bool.and_false, Bool.false_and, Bool.true_and] at hk; have HK := hid hk; clear hk; go_enter Tryz.func173, Tryz.ntmps173; go_wp2_with (go_at_call 127; (with_reducible refine (A0.out _).mono ?_); rintro e w' ⟨rfl, hw⟩; obtain rfl := hw.symm)
 all_goals first
  | (go_ret
     exact ⟨by rw [HK.out]; rfl, rfl⟩)
  | (exfalso
     clear A0
     simp_all
     done)
theorem reMid {a b : Nat} {w : World} (h0 : a < 18446744073709551616) (h1 : b < 18446744073709551616) :
 Calls Tryz.prog 117 #[.complex .f64 a b] w fun e w' => e = .returned (.bool (midB a && midB b)) ∧ w' = w := by
 have F0 := hid (fun v : World => reMid1 (w := v) h0)
 have F1 := hid (fun v : World => reMid1 (w := v) h1)
 generalize midB a = M0 at *; generalize midB b = M1 at *; cases M0 <;> cases M1
 all_goals
  go_enter Tryz.func117, Tryz.ntmps117; go_wp2_with (first | (go_at_call 173; (with_reducible refine (F0.out _).mono ?_); rintro e w' ⟨rfl, hw⟩; obtain rfl := hw.symm) | (go_at_call 173; (with_reducible refine (F1.out _).mono ?_); rintro e w' ⟨rfl, hw⟩; obtain rfl := hw.symm))
  go_ret
  exact ⟨rfl, rfl⟩
theorem reAskMany {w : World} {a : Option Addr} {n cap : Nat} {v0 v1 : Value} (hn : n < 1 ∨ 17 < n) :
 Calls Tryz.prog 69 #[.slice a n cap, .agg #[v0, v1]] w fun e w' => e = .returned (.int .i64 4) ∧ Kp0 w w' := by
 rcases hn with hn | hn
 · have h1 : (n : Int) < 1 := by omega
   clear hn; go_enter Tryz.func69, Tryz.ntmps69; go_wp2_with fail
   go_ret
   exact ⟨rfl, ⟨Gr.out⟩⟩
 · have h1 : ¬ (n : Int) < 1 := by omega
   have h2 : (17 : Int) < (n : Int) := by omega
   clear hn; go_enter Tryz.func69, Tryz.ntmps69; go_wp2_with fail
   go_ret
   exact ⟨rfl, ⟨Gr.out⟩⟩
theorem reAskOk {w : World} {g off cap : Nat} {l : List (Nat × Nat)} {a b c d : Nat} [hc : ClC w g off l] (hl : okB l) (ha : a < 18446744073709551616) (hb : b < 18446744073709551616) (hc' : c < 18446744073709551616) (hd : d < 18446744073709551616) (hn : ¬ (l.length < 1 ∨ 17 < l.length)) :
 Calls Tryz.prog 69 #[.slice (some ⟨g, off, none⟩) l.length cap, .agg #[.complex .f64 a b, .complex .f64 c d]] w fun e w' => e = .returned (.int .i64 (askE l (a, b) (c, d))) ∧ Kp0 w w' := by
 have FM := hid (fun (j : Nat) (x : Nat × Nat) (h : l[j]? = some x) (v : World) => show Calls Tryz.prog 117 #[.complex .f64 x.1 x.2] v fun e w' => e = .returned (.bool (midC x)) ∧ w' = v from reMid (w := v) (hl x (List.mem_of_getElem? h)).1 (hl x (List.mem_of_getElem? h)).2)
 have FZ := hid (fun (j : Nat) (x : Nat × Nat) (h : l[j]? = some x) => And.intro (feq_zero x.1 (hl x (List.mem_of_getElem? h)).1) (feq_zero x.2 (hl x (List.mem_of_getElem? h)).2))
 have F0 := hid (fun v : World => show Calls Tryz.prog 117 #[.complex .f64 a b] v fun e w' => e = .returned (.bool (midC (a, b))) ∧ w' = v from reMid (w := v) ha hb)
 have F1 := hid (fun v : World => show Calls Tryz.prog 117 #[.complex .f64 c d] v fun e w' => e = .returned (.bool (midC (c, d))) ∧ w' = v from reMid (w := v) hc' hd)
 have LG := mid_order2 ha hb hc' hd; have HV : askE l (a, b) (c, d) = if allM l = false then 5 else if someB l = false then 80 else endE (a, b) (c, d) := by unfold askE; rw [if_neg hn]
 obtain ⟨V, hV⟩ : ∃ V, V = askE l (a, b) (c, d) := ⟨_, rfl⟩; rw [← hV] at HV ⊢; have HVH := hid HV; have HG := hid hc.out; haveI := has_cl hc; obtain ⟨n, hn2⟩ : ∃ n, n = l.length := ⟨_, rfl⟩; rw [← hn2] at hn ⊢; have HL := hid hn2; have h1 : ¬ (n : Int) < 1 := by omega
 have h2 : ¬ (17 : Int) < (n : Int) := by omega
 have HE : endE (a, b) (c, d) = if midC (a, b) = false ∨ midC (c, d) = false then 5 else if geB a c = true ∨ geB b d = true then 110 else 0 := rfl
 have HEH := hid HE; obtain ⟨L0, hL0⟩ : ∃ L0, L0 = (FloatKind.f64.format.order a c == some Ordering.lt) := ⟨_, rfl⟩; obtain ⟨L1, hL1⟩ : ∃ L1, L1 = (FloatKind.f64.format.order b d == some Ordering.lt) := ⟨_, rfl⟩; rw [← hL0, ← hL1] at LG; have LGH := hid LG; have l0 := hL0.symm; have l1 := hL1.symm; generalize endE (a, b) (c, d) = VE at *; generalize geB a c = G0 at *; generalize geB b d = G1 at *; generalize midC (a, b) = M0 at *; generalize midC (c, d) = M1 at *; clear hn hn2 hc hl hV HV HE ha hb hc' hd LG hL0 hL1; go_enter Tryz.func69, Tryz.ntmps69; go_wp2_with fail
 go_loop [5, 6] (fun s5 s6 => ∃ j : Nat, s6 = .int .i64 j ∧ s5 = .bool (!someB (l.take j)) ∧ j ≤ n ∧ Hid (∀ i x, i < j → l[i]? = some x → midC x = true)) (fun _ s6 => n - (intOf s6).toNat)
 case atStart => exact ⟨0, rfl, rfl, by omega, hid (fun i c h => absurd h (Nat.not_lt_zero _))⟩
 case round =>
  obtain ⟨j, rfl, rfl, hj, H⟩ := hrel; by_cases hjn : j = n
  · subst hjn; have HA : allM l = true := allM_good (fun i x hi => H.out i x (by rw [HL.out]; exact hi))
    have HS : someB (l.take j) = someB l := by rw [HL.out, List.take_length]
    rw [HS]; have HVV : Hid (V = if someB l = false then 80 else VE) := hid (by rw [HVH.out, HA]; rfl)
    clear hj HA HS; generalize someB l = S at *; cases S
    · rw [show (!false) = true from rfl]
      go_wp2_with fail
      go_ret
      exact ⟨by rw [HVV.out]; rfl, ⟨Gr.out⟩⟩
    · rw [show (!true) = false from rfl]
      cases M0
      · go_wp2_with (first | (go_at_call 117; (with_reducible refine (F0.out _).mono ?_); rintro e w' ⟨rfl, hw⟩; obtain rfl := hw.symm) | (go_at_call 117; (with_reducible refine (F1.out _).mono ?_); rintro e w' ⟨rfl, hw⟩; obtain rfl := hw.symm))
        go_ret
        exact ⟨by rw [HVV.out, HEH.out]; rfl, ⟨Gr.out⟩⟩
      · cases M1
        · go_wp2_with (first | (go_at_call 117; (with_reducible refine (F0.out _).mono ?_); rintro e w' ⟨rfl, hw⟩; obtain rfl := hw.symm) | (go_at_call 117; (with_reducible refine (F1.out _).mono ?_); rintro e w' ⟨rfl, hw⟩; obtain rfl := hw.symm))
          go_ret
          exact ⟨by rw [HVV.out, HEH.out]; rfl, ⟨Gr.out⟩⟩
        · obtain ⟨k0, k1⟩ := LGH.out rfl rfl; have K0 := hid k0; have K1 := hid k1; clear k0 k1 LGH; cases L0 <;> cases L1
          all_goals go_wp2_with (first | (go_at_call 117; (with_reducible refine (F0.out _).mono ?_); rintro e w' ⟨rfl, hw⟩; obtain rfl := hw.symm) | (go_at_call 117; (with_reducible refine (F1.out _).mono ?_); rintro e w' ⟨rfl, hw⟩; obtain rfl := hw.symm))
          all_goals first
           | (go_ret
              have k0 := K0.out; have k1 := K1.out; refine ⟨?_, ⟨Gr.out⟩⟩
              rw [HVV.out, HEH.out]; cases G0 <;> cases G1 <;> first | rfl | exact absurd k0 (by decide) | exact absurd k1 (by decide))
           | (exfalso
              clear F0 F1 FM FZ HG
              simp_all
              done)
  · have hlt : j < n := by omega
    have hI : (j : Int) < (n : Int) := by omega
    have h0 : (0 : Int) ≤ (j : Int) := by omega
    obtain ⟨x, hxj⟩ : ∃ x, l[j]? = some x := ⟨_, List.getElem?_eq_getElem (by rw [← HL.out]; exact hlt)⟩
    have cj := HG.out.cell hxj; have FJ := hid (FM.out j x hxj); have z0 : (FloatKind.f64.format.order x.1 0 == some Ordering.eq) = decide (x.1 % 9223372036854775808 = 0) := (FZ.out j x hxj).1; have z1 : (FloatKind.f64.format.order x.2 0 == some Ordering.eq) = decide (x.2 % 9223372036854775808 = 0) := (FZ.out j x hxj).2; have HJ := hid hxj; have HN : Hid (someB (l.take (j + 1)) = (someB (l.take j) || !(decide (x.1 % 9223372036854775808 = 0) && decide (x.2 % 9223372036854775808 = 0)))) := hid (someB_next hxj); clear hxj hjn hj; generalize decide (x.1 % 9223372036854775808 = 0) = Z0 at *; generalize decide (x.2 % 9223372036854775808 = 0) = Z1 at *; generalize someB (l.take j) = S at *; cases hb : midC x with
    | false =>
      rw [hb] at FJ; have HB := hid (allM_bad HJ.out hb); clear hb; go_wp2_with (go_at_call 117; (with_reducible refine (FJ.out _).mono ?_); rintro e w' ⟨rfl, hw⟩; obtain rfl := hw.symm)
      go_ret
      exact ⟨by rw [HVH.out, HB.out]; rfl, ⟨Gr.out⟩⟩
    | true =>
      rw [hb] at FJ; have HB := hid hb; clear hb
      have HREL := hid (show ∀ i y, i < j + 1 → l[i]? = some y → midC y = true from fun i c' hi hc' => by
       by_cases hij : i = j
       · subst hij; rw [HJ.out] at hc'; obtain rfl := Option.some.inj hc'; exact HB.out
       · exact H.out i c' (by omega) hc')
      have HLT := hid hlt; cases S <;> cases Z0 <;> cases Z1
      all_goals
       have HN2 := HN.out; simp only [Bool.true_or, Bool.false_or, Bool.and_true, Bool.and_false, Bool.false_and, Bool.true_and, Bool.not_true, Bool.not_false] at HN2 ⊢; have HNN := hid HN2; clear HN2
      all_goals go_wp2_with (go_at_call 117; (with_reducible refine (FJ.out _).mono ?_); rintro e w' ⟨rfl, hw⟩; obtain rfl := hw.symm)
      all_goals first
       | (go_round
          case rel => exact ⟨j + 1, by go_num, by first | (rw [HNN.out]; rfl) | (rw [HNN.out]; simp [z0, z1]; done) | (rw [HNN.out]; simp only [beq_iff_eq, beq_eq_false_iff_ne, ne_eq] at z0 z1; simp [z0, z1]; done), HLT.out, HREL⟩
          case measure => first | (simp [intOf]; done) | (simp [intOf]; omega))
       | (exfalso
          clear F0 F1 FM FZ HG FJ H HJ HB HREL HN HNN HVH; simp only [beq_iff_eq, beq_eq_false_iff_ne, ne_eq] at z0 z1
          simp_all
          done)
theorem reAsk {w : World} {g off cap : Nat} {l : List (Nat × Nat)} {a b c d : Nat} [hc : ClC w g off l] (hl : okB l) (ha : a < 18446744073709551616) (hb : b < 18446744073709551616) (hc' : c < 18446744073709551616) (hd : d < 18446744073709551616) :
 Calls Tryz.prog 69 #[.slice (some ⟨g, off, none⟩) l.length cap, .agg #[.complex .f64 a b, .complex .f64 c d]] w fun e w' => e = .returned (.int .i64 (askE l (a, b) (c, d))) ∧ Kp0 w w' := by
 by_cases hn : l.length < 1 ∨ 17 < l.length
 · have := reAskMany (w := w) (a := some ⟨g, off, none⟩) (cap := cap) (v0 := .complex .f64 a b) (v1 := .complex .f64 c d) hn
   rwa [show askE l (a, b) (c, d) = 4 by unfold askE; rw [if_pos hn]]
 · exact reAskOk hl ha hb hc' hd hn
def sideD (l : List (Nat × Nat)) (lo hi : Nat × Nat) (i : Nat) : Nat := wholeD ((lineF l lo hi i).map Prod.fst) ((lineF l lo hi i).map Prod.snd)
theorem side_den {l : List (Nat × Nat)} {lo hi : Nat × Nat} (h : askE l lo hi = 0) (i : Nat) : sideD l lo hi i ≠ 0 ∧ (words (sideD l lo hi i)).length ≤ 17000000000 := by
 obtain ⟨h1, h2, h3, h4⟩ := askE_ok h; have hD := alongN_dy ((corner_dy h3 h4 i).mono (by decide)) (way_dy h3 h4 i) (allM_dy h2)
 have hd : sideD l lo hi i ∣ 2 ^ (92 * l.length) := wholeD_dvd (fun x hx => by obtain ⟨y, hy, rfl⟩ := List.mem_map.1 hx; exact dy_den (hD y hy).1) (fun x hx => by obtain ⟨y, hy, rfl⟩ := List.mem_map.1 hx; exact dy_den (hD y hy).2)
 have h0 : sideD l lo hi i ≠ 0 := by
  intro k; rw [k] at hd; exact two_ne _ (Nat.eq_zero_of_zero_dvd hd)
 refine ⟨h0, Nat.le_trans (pow2_words (Nat.le_of_dvd (Nat.pos_of_ne_zero (two_ne _)) hd)) ?_⟩
 omega
theorem sideX_trim (l : List (Nat × Nat)) (lo hi : Nat × Nat) (i : Nat) : Trim (sideX l lo hi i) := trim_cut _
theorem sideY_trim (l : List (Nat × Nat)) (lo hi : Nat × Nat) (i : Nat) : Trim (sideY l lo hi i) := trim_cut _
theorem reChainS {w : World} {v1 v2 : Value} {p q : List Int} {D1 D2 : Nat} (hp : Rw 92 (ER 125) w v1 (ovR D1 p)) (hq : Rw 92 (ER 125) w v2 (ovR D2 q)) (hD1 : D1 ≠ 0 ∧ (words D1).length ≤ 17000000000) (hD2 : D2 ≠ 0 ∧ (words D2).length ≤ 17000000000) (tp : Trim p) (tq : Trim q) (hI : RowI 130 p q) :
 Calls Tryz.prog 72 #[v1, v2] w fun e w' => ∃ gR oR nR cR uR, e = .returned (.slice (some ⟨gR, oR, none⟩) (nR + 1) cR) ∧ gR < w'.heap.size ∧ w'.cell? ⟨gR, oR + nR, none⟩ = some uR ∧ (nR : Int) ≤ 63 ∧ EV w' uR (lastL (rowI p q)) ∧ Rw 108 EV w' (.slice (some ⟨gR, oR, none⟩) (nR + 1) cR) (rowI p q) ∧ Kp0 w w' := by
 refine (reChain hp hq hD1.1 hD2.1 hD1.2 hD2.2 tp tq hI).mono ?_
 rintro e w' ⟨v', rfl, h, k⟩; have ok := rowI_ok (by decide) (by decide) hI
 obtain ⟨aR, cR, rfl, -⟩ := h.form; obtain ⟨gR, oR, uR, rfl, hg, hc, hP⟩ := h.at (lastL_mem ok.1).2; have hlen := List.length_pos_iff.2 ok.1; obtain ⟨nR, hnR⟩ : ∃ nR, (rowI p q).length = nR + 1 := ⟨(rowI p q).length - 1, by omega⟩
 have h64 := ok.2.1; rw [hnR] at hc h; refine ⟨gR, oR, nR, cR, uR, by rw [hnR], hg, by rw [Nat.add_sub_cancel] at hc; exact hc, by omega, hP, h, k⟩
theorem lastL_trim {p q : List Int} (tp : Trim p) (tq : Trim q) : Trim (lastL (rowI p q)) := by
 have hne : rowI p q ≠ [] := (chainI_len _ p q).2; exact chainI_trim _ _ _ tp tq _ (lastL_mem hne).1
theorem reZerosErr {w : World} {g off cap : Nat} {l : List (Nat × Nat)} {a b c d : Nat} [hc : ClC w g off l] (hl : okB l) (ha : a < 18446744073709551616) (hb : b < 18446744073709551616) (hc' : c < 18446744073709551616) (hd : d < 18446744073709551616) (h : askE l (a, b) (c, d) ≠ 0) :
 Calls Tryz.prog 20 #[.slice (some ⟨g, off, none⟩) l.length cap, .agg #[.complex .f64 a b, .complex .f64 c d]] w fun e w' => e = .returned (.tuple #[.int .i64 0, .int .i64 (askE l (a, b) (c, d))]) ∧ Kp0 w w' := by
 have AS := hid (fun (W : World) (q : ClC W g off l) => reAsk (w := W) (cap := cap) (hc := q) hl ha hb hc' hd)
 generalize askE l (a, b) (c, d) = V at *; have hV : (V == 0) = false := beq_eq_false_iff_ne.2 h; have hV2 : (V != 0) = true := bne_iff_ne.2 h; obtain ⟨n, hn2⟩ : ∃ n, n = l.length := ⟨_, rfl⟩; rw [← hn2] at AS ⊢; clear hn2 hl ha hb hc' hd; go_enter Tryz.func20, Tryz.ntmps20; go_wp2_with (go_at_call 69; (with_reducible refine Calls.mono (AS.out _ inferInstance) ?_); rintro e wa ⟨rfl, _⟩)
 all_goals first
  | (go_ret2
     exact ⟨rfl, ⟨Gr.out⟩⟩)
  | (exfalso; simp_all; done)
theorem reZerosOk {w : World} {g off cap : Nat} {l : List (Nat × Nat)} {a b c d : Nat} [hc : ClC w g off l] (hl : okB l) (ha : a < 18446744073709551616) (hb : b < 18446744073709551616) (hc' : c < 18446744073709551616) (hd : d < 18446744073709551616) (h : askE l (a, b) (c, d) = 0) :
 Calls Tryz.prog 20 #[.slice (some ⟨g, off, none⟩) l.length cap, .agg #[.complex .f64 a b, .complex .f64 c d]] w fun e w' => e = .returned (.tuple #[.int .i64 (if touchT l (a, b) (c, d) 4 = true then 0 else (sumT l (a, b) (c, d) 4).tdiv 4), .int .i64 (if touchT l (a, b) (c, d) 4 = true then 32 else 0)]) ∧ Kp0 w w' := by
 have AS := hid (fun (W : World) (q : ClC W g off l) => h ▸ reAsk (w := W) (cap := cap) (hc := q) hl ha hb hc' hd)
 obtain ⟨hq1, hq2, hq3, hq4⟩ := askE_ok h; have ea := mid_fexp (Bool.and_eq_true_iff.1 hq3).1; have eb := mid_fexp (Bool.and_eq_true_iff.1 hq3).2; have ec := mid_fexp (Bool.and_eq_true_iff.1 hq4).1; have ed := mid_fexp (Bool.and_eq_true_iff.1 hq4).2; have AL0 := hid (fun (W : World) (f1 f2 s1 s2 : Nat) (q : ClC W g off l) (r1 : RaC 125 W f1 (frat a)) (r2 : RaC 125 W f2 (frat b)) (r3 : RaC 125 W s1 (frat c - frat a)) (r4 : RaC 125 W s2 (frat b - frat b)) => show Calls Tryz.prog 70 #[.slice (some ⟨g, off, none⟩) l.length cap, .agg #[.pointer (some ⟨f1, 0, none⟩), .pointer (some ⟨f2, 0, none⟩)], .agg #[.pointer (some ⟨s1, 0, none⟩), .pointer (some ⟨s2, 0, none⟩)]] W (fun e w' => ∃ u u', e = .returned (.tuple #[u, u']) ∧ Rw 92 (ER 125) w' u (ovR (sideD l (a, b) (c, d) 0) (sideX l (a, b) (c, d) 0)) ∧ Rw 92 (ER 125) w' u' (ovR (sideD l (a, b) (c, d) 0) (sideY l (a, b) (c, d) 0)) ∧ Kp0 W w') from reAlong (hc := q) (hf1 := r1) (hf2 := r2) (hs1 := r3) (hs2 := r4) hl hq1.2 (allM_fexp hq2) ((corner_dy hq3 hq4 0).mono (by decide)) (way_dy hq3 hq4 0) (allM_dy hq2) ⟨(side_den h 0).1, trivial⟩)
 have AL1 := hid (fun (W : World) (f1 f2 s1 s2 : Nat) (q : ClC W g off l) (r1 : RaC 125 W f1 (frat c)) (r2 : RaC 125 W f2 (frat b)) (r3 : RaC 125 W s1 (frat c - frat c)) (r4 : RaC 125 W s2 (frat d - frat b)) => show Calls Tryz.prog 70 #[.slice (some ⟨g, off, none⟩) l.length cap, .agg #[.pointer (some ⟨f1, 0, none⟩), .pointer (some ⟨f2, 0, none⟩)], .agg #[.pointer (some ⟨s1, 0, none⟩), .pointer (some ⟨s2, 0, none⟩)]] W (fun e w' => ∃ u u', e = .returned (.tuple #[u, u']) ∧ Rw 92 (ER 125) w' u (ovR (sideD l (a, b) (c, d) 1) (sideX l (a, b) (c, d) 1)) ∧ Rw 92 (ER 125) w' u' (ovR (sideD l (a, b) (c, d) 1) (sideY l (a, b) (c, d) 1)) ∧ Kp0 W w') from reAlong (hc := q) (hf1 := r1) (hf2 := r2) (hs1 := r3) (hs2 := r4) hl hq1.2 (allM_fexp hq2) ((corner_dy hq3 hq4 1).mono (by decide)) (way_dy hq3 hq4 1) (allM_dy hq2) ⟨(side_den h 1).1, trivial⟩)
 have AL2 := hid (fun (W : World) (f1 f2 s1 s2 : Nat) (q : ClC W g off l) (r1 : RaC 125 W f1 (frat c)) (r2 : RaC 125 W f2 (frat d)) (r3 : RaC 125 W s1 (frat a - frat c)) (r4 : RaC 125 W s2 (frat d - frat d)) => show Calls Tryz.prog 70 #[.slice (some ⟨g, off, none⟩) l.length cap, .agg #[.pointer (some ⟨f1, 0, none⟩), .pointer (some ⟨f2, 0, none⟩)], .agg #[.pointer (some ⟨s1, 0, none⟩), .pointer (some ⟨s2, 0, none⟩)]] W (fun e w' => ∃ u u', e = .returned (.tuple #[u, u']) ∧ Rw 92 (ER 125) w' u (ovR (sideD l (a, b) (c, d) 2) (sideX l (a, b) (c, d) 2)) ∧ Rw 92 (ER 125) w' u' (ovR (sideD l (a, b) (c, d) 2) (sideY l (a, b) (c, d) 2)) ∧ Kp0 W w') from reAlong (hc := q) (hf1 := r1) (hf2 := r2) (hs1 := r3) (hs2 := r4) hl hq1.2 (allM_fexp hq2) ((corner_dy hq3 hq4 2).mono (by decide)) (way_dy hq3 hq4 2) (allM_dy hq2) ⟨(side_den h 2).1, trivial⟩)
 have AL3 := hid (fun (W : World) (f1 f2 s1 s2 : Nat) (q : ClC W g off l) (r1 : RaC 125 W f1 (frat a)) (r2 : RaC 125 W f2 (frat d)) (r3 : RaC 125 W s1 (frat a - frat a)) (r4 : RaC 125 W s2 (frat b - frat d)) => show Calls Tryz.prog 70 #[.slice (some ⟨g, off, none⟩) l.length cap, .agg #[.pointer (some ⟨f1, 0, none⟩), .pointer (some ⟨f2, 0, none⟩)], .agg #[.pointer (some ⟨s1, 0, none⟩), .pointer (some ⟨s2, 0, none⟩)]] W (fun e w' => ∃ u u', e = .returned (.tuple #[u, u']) ∧ Rw 92 (ER 125) w' u (ovR (sideD l (a, b) (c, d) 3) (sideX l (a, b) (c, d) 3)) ∧ Rw 92 (ER 125) w' u' (ovR (sideD l (a, b) (c, d) 3) (sideY l (a, b) (c, d) 3)) ∧ Kp0 W w') from reAlong (hc := q) (hf1 := r1) (hf2 := r2) (hs1 := r3) (hs2 := r4) hl hq1.2 (allM_fexp hq2) ((corner_dy hq3 hq4 3).mono (by decide)) (way_dy hq3 hq4 3) (allM_dy hq2) ⟨(side_den h 3).1, trivial⟩)
 have HASK := hid h; obtain ⟨E1, hE1⟩ : ∃ E, E = (if touchT l (a, b) (c, d) 4 = true then 0 else (sumT l (a, b) (c, d) 4).tdiv 4) := ⟨_, rfl⟩
 obtain ⟨E2, hE2⟩ : ∃ E : Int, E = (if touchT l (a, b) (c, d) 4 = true then 32 else 0) := ⟨_, rfl⟩
 rw [← hE1, ← hE2]; have HE1 := hid hE1; have HE2 := hid hE2; obtain ⟨n, hn2⟩ : ∃ n, n = l.length := ⟨_, rfl⟩; rw [← hn2] at AS AL0 AL1 AL2 AL3 ⊢; haveI := has_cl hc; clear hn2 hl hq1 hq2 hq3 hq4 hE1 hE2 h; go_enter Tryz.func20, Tryz.ntmps20; go_upto_region 6 with (first | (go_at_call 69; (with_reducible refine Calls.mono (AS.out _ inferInstance) ?_); rintro e wa ⟨rfl, _⟩) | (go_at_call 61; (with_reducible refine Calls.mono (reExact ha hb ea eb) ?_); rintro e wb ⟨p0, q0, rfl, _, _, _⟩) | (go_at_call 61; (with_reducible refine Calls.mono (reExact hc' hd ec ed) ?_); rintro e wc ⟨p1, q1, rfl, _, _, _⟩))
 go_cut [9] from 27 to 40 (fun s9 wx => ∃ g9, s9 = .slice (some ⟨g9, 0, none⟩) 5 5 ∧ BkC wx g9 [.pointer (some ⟨p0, 0, none⟩), .pointer (some ⟨q0, 0, none⟩), .pointer (some ⟨p1, 0, none⟩), .pointer (some ⟨q0, 0, none⟩), .pointer (some ⟨p1, 0, none⟩), .pointer (some ⟨q1, 0, none⟩), .pointer (some ⟨p0, 0, none⟩), .pointer (some ⟨q1, 0, none⟩), .pointer (some ⟨p0, 0, none⟩), .pointer (some ⟨q0, 0, none⟩)] 94 ∧ RaC 125 wx p0 (frat a) ∧ RaC 125 wx q0 (frat b) ∧ RaC 125 wx p1 (frat c) ∧ RaC 125 wx q1 (frat d) ∧ Kp0 w wx)
 case first =>
  go_wp2_with fail
  go_meet
  exact ⟨_, rfl, inferInstance, inferInstance, inferInstance, inferInstance, inferInstance, ⟨Gr.out⟩⟩
 case rest =>
 obtain ⟨g9, rfl, b9, r1, r2, r3, r4, kw⟩ := hcut; generalize hwq : wc = wq at *; clear hwq AS; haveI : Has wq g9 := ⟨b9.out.lt⟩; go_wp2_with fail
 go_loopw [10, 11] (fun s10 s11 wx => ∃ (i S : Int), s11 = .int .i64 i ∧ s10 = .int .i64 S ∧ ((i = 0 ∧ Hid (S = sumT l (a, b) (c, d) 0 ∧ touchT l (a, b) (c, d) 0 = false)) ∨ (i = 1 ∧ Hid (S = sumT l (a, b) (c, d) 1 ∧ touchT l (a, b) (c, d) 1 = false)) ∨ (i = 2 ∧ Hid (S = sumT l (a, b) (c, d) 2 ∧ touchT l (a, b) (c, d) 2 = false)) ∨ (i = 3 ∧ Hid (S = sumT l (a, b) (c, d) 3 ∧ touchT l (a, b) (c, d) 3 = false)) ∨ (i = 4 ∧ Hid (S = sumT l (a, b) (c, d) 4 ∧ touchT l (a, b) (c, d) 4 = false))) ∧ Kp0 wq wx) (fun _ s11 _ => 4 - (intOf s11).toNat)
 case atStart => exact ⟨0, 0, rfl, rfl, .inl ⟨rfl, hid ⟨rfl, rfl⟩⟩, ⟨Gr.out⟩⟩
 case round =>
  obtain ⟨i, S, rfl, rfl, ⟨rfl, hSt⟩ | ⟨rfl, hSt⟩ | ⟨rfl, hSt⟩ | ⟨rfl, hSt⟩ | ⟨rfl, hSt⟩, ik⟩ := hrel
  · skip
    have HXY := hid (side_start HASK.out 0); have HRT := hid (sideR_row (side_start HASK.out 0)); have HDN := hid (side_den HASK.out 0); have TX := hid (sideX_trim l (a, b) (c, d) 0); have TY := hid (sideY_trim l (a, b) (c, d) 0); have HSN := hid (show sumT l (a, b) (c, d) 1 = sumT l (a, b) (c, d) 0 + sideT (sideX l (a, b) (c, d) 0) (sideY l (a, b) (c, d) 0) from rfl)
    have HTN := hid (touchT_next l (a, b) (c, d) 0); have hSb : -160 ≤ S ∧ S ≤ 160 := by have := sumT_bound HASK.out 0; rw [← hSt.out.1] at this; omega
    have hTb := (sideT_bound (sideX l (a, b) (c, d) 0) (sideY l (a, b) (c, d) 0)).resolve_right (by have := HXY.out.1; omega)
    have ALJ := AL0; go_upto_region 11 with fail
    go_cut [12, 13] from 46 to 63 (fun s12 s13 wx => Rw 92 (ER 125) wx s12 (ovR (sideD l (a, b) (c, d) 0) (sideX l (a, b) (c, d) 0)) ∧ Rw 92 (ER 125) wx s13 (ovR (sideD l (a, b) (c, d) 0) (sideY l (a, b) (c, d) 0)) ∧ Kp0 wr wx)
    case first =>
     go_region_held3 (fun W => W.cell? ⟨g9, 0, none⟩ = some (.pointer (some ⟨p0, 0, none⟩)) ∧ W.cell? ⟨g9, 1, none⟩ = some (.pointer (some ⟨q0, 0, none⟩)) ∧ W.cell? ⟨g9, 2, none⟩ = some (.pointer (some ⟨p1, 0, none⟩)) ∧ W.cell? ⟨g9, 3, none⟩ = some (.pointer (some ⟨q0, 0, none⟩))) (refine ⟨?_, ?_, ?_, ?_⟩ <;> (first | exact Bk.cell BkC.out rfl | (simp [go_sem]; done))) (first | (go_at_call 71; (with_reducible refine Calls.mono (reLessC (by decide) (by decide) (by decide) (by decide)) ?_); rintro e wc ⟨_, _, rfl, _, _, _⟩) | (go_at_call 70; (with_reducible refine Calls.mono (ALJ.out _ _ _ _ _ inferInstance inferInstance inferInstance inferInstance inferInstance) ?_); rintro e wd ⟨u, u', rfl, hu, hu', _⟩; have HU := hid hu; have HU' := hid hu'; clear hu hu'))
     all_goals (go_wp2_with fail; go_meet; exact ⟨HU.out, HU'.out, ⟨Gr.out⟩⟩)
    case rest =>
     obtain ⟨hU, hU', ik2⟩ := hcut; clear AL0 AL1 AL2 AL3 ALJ; generalize sideX l (a, b) (c, d) 0 = P at *; generalize sideY l (a, b) (c, d) 0 = Q at *; generalize sideD l (a, b) (c, d) 0 = D at *; generalize hwd : wc = wd at *; clear hwd; obtain ⟨a1, c1, rfl, -⟩ := hU.form; obtain ⟨a2, c2, rfl, -⟩ := hU'.form; rw [ovR_len] at hU hU' ⊢; rw [ovR_len]; generalize hZZ : sideZ P Q = Z at *; have HRI : Hid (RowI 130 P Q) := hid (.inl HXY.out); have HRJ : Hid (RowI 130 Q P) := hid (.inl HXY.out.symm); by_cases hq : Q = []
     · subst hq; have hT0 : sideT P [] = 0 := by unfold sideT; rw [if_pos rfl]
       have hR0 : sideR P [] = rowI P [] := by unfold sideR; rw [if_pos rfl]
       rw [show (([] : List Int).length) = 0 from rfl] at hU' ⊢
       have HSN2 := hid (show sumT l (a, b) (c, d) 1 = S by rw [HSN.out, hT0, Int.add_zero]; exact hSt.out.1.symm)
       have ZE := hid (fun (W : World) (u : Value) (h : EV W u (lastL (rowI P []))) => show Calls Tryz.prog 74 #[u] W (fun e w' => e = .returned (.bool Z) ∧ Kp0 W w') from by
        have := reTouches h (hR0 ▸ HRT.out.2) (lastL_trim TX.out TY.out)
        rwa [show zeroI (lastL (rowI P [])) = Z by rw [← hZZ, ← hR0]; rfl] at this)
       have HU := hid hU; have HU' := hid hU'; obtain ⟨nP, hnP⟩ : ∃ nP, nP = P.length := ⟨_, rfl⟩; rw [← hnP] at HU ⊢; clear hU hU' hTb hZZ hnP hT0 hR0; cases Z
       all_goals go_wp2_with (first | (go_at_call 72; (with_reducible refine Calls.mono (reChainS (HU.out.below eok_Q Gr.out) (HU'.out.below eok_Q Gr.out) HDN.out HDN.out TX.out TY.out HRI.out) ?_); rintro e wb ⟨gR, oR, nR, cR, uR, rfl, hgR, ceR, h63, hPR, hvb, _⟩; haveI : Has wb gR := ⟨hgR⟩; have HPR := hid hPR; have HVB := hid hvb; have hi0 : (0 : Int) ≤ (nR : Int) := Int.natCast_nonneg _; have hi1 : (nR : Int) < (nR : Int) + 1 := Int.lt_succ _; have hi2 : ((nR + 1 : Nat) : Int) - 1 = (nR : Int) := (by omega); clear hvb hPR hgR) | (go_at_call 74; (with_reducible refine Calls.mono (ZE.out _ _ (eok_EV.below HPR.out Gr.out)) ?_); rintro e wc ⟨rfl, _⟩))
       · go_round
         case rel => exact ⟨1, S, by first | rfl | go_num, rfl, .inr (.inl ⟨rfl, hid ⟨HSN2.out.symm, by rw [HTN.out, Bool.or_false]; exact hSt.out.2⟩⟩), ⟨Gr.out⟩⟩
         case measure => simp [intOf]
       · go_ret2
         have hT4 := touchT_mono (k := 4) (show touchT l (a, b) (c, d) 1 = true by rw [HTN.out, Bool.or_true]) (by decide)
         exact ⟨by rw [HE1.out, HE2.out, if_pos hT4, if_pos hT4]; rfl, ⟨Gr.out⟩⟩
     · have hR0 : sideR P Q = rowI Q P := by unfold sideR; rw [if_neg hq]
       have hT0 : sideT P Q = turnI (rowI Q P) := by unfold sideT; rw [if_neg hq]
       obtain ⟨T, hT⟩ : ∃ T, T = turnI (rowI Q P) := ⟨_, rfl⟩; rw [hT0, ← hT] at hTb; have HSN2 := hid (show sumT l (a, b) (c, d) 1 = S + T by rw [HSN.out, hT0, ← hT, ← hSt.out.1])
       have ZE := hid (fun (W : World) (u : Value) (h : EV W u (lastL (rowI Q P))) => show Calls Tryz.prog 74 #[u] W (fun e w' => e = .returned (.bool Z) ∧ Kp0 W w') from by
        have := reTouches h (hR0 ▸ HRT.out.2) (lastL_trim TY.out TX.out)
        rwa [show zeroI (lastL (rowI Q P)) = Z by rw [← hZZ, ← hR0]; rfl] at this)
       have TE := hid (fun (W : World) (u : Value) (h : Rw 108 EV W u (rowI Q P)) => show Calls Tryz.prog 73 #[u] W (fun e w' => e = .returned (.int .i64 T) ∧ Kp0 W w') from by
        have := reChanges h (rowI_oks HRJ.out TY.out TX.out)
        rwa [← hT] at this)
       have hw : IntKind.i64.wrap (S + T) = S + T := IntWalk.i64_in _ (by omega)
       have HU := hid hU; have HU' := hid hU'; obtain ⟨nP, hnP⟩ : ∃ nP, nP = P.length := ⟨_, rfl⟩; obtain ⟨nQ, hnQ⟩ : ∃ nQ, nQ = Q.length := ⟨_, rfl⟩; have hnq : ((nQ : Int) == 0) = false := beq_eq_false_iff_ne.2 (by have := List.length_pos_iff.2 hq; omega)
       rw [← hnP] at HU ⊢; rw [← hnQ] at HU' ⊢; clear hU hU' hTb hZZ hnP hnQ hT0 hR0 hq hT; cases Z
       all_goals go_wp2_with (first | (go_at_call 72; (with_reducible refine Calls.mono (reChainS (HU'.out.below eok_Q Gr.out) (HU.out.below eok_Q Gr.out) HDN.out HDN.out TY.out TX.out HRJ.out) ?_); rintro e wb ⟨gR, oR, nR, cR, uR, rfl, hgR, ceR, h63, hPR, hvb, _⟩; haveI : Has wb gR := ⟨hgR⟩; have HPR := hid hPR; have HVB := hid hvb; have hi0 : (0 : Int) ≤ (nR : Int) := Int.natCast_nonneg _; have hi1 : (nR : Int) < (nR : Int) + 1 := Int.lt_succ _; have hi2 : ((nR + 1 : Nat) : Int) - 1 = (nR : Int) := (by omega); clear hvb hPR hgR) | (go_at_call 73; (with_reducible refine Calls.mono (TE.out _ _ (HVB.out.below eok_EV Gr.out)) ?_); rintro e wa ⟨rfl, _⟩) | (go_at_call 74; (with_reducible refine Calls.mono (ZE.out _ _ (eok_EV.below HPR.out Gr.out)) ?_); rintro e wc ⟨rfl, _⟩))
       · go_round
         case rel => exact ⟨1, S + T, by first | rfl | go_num, by first | rfl | go_num, .inr (.inl ⟨rfl, hid ⟨HSN2.out.symm, by rw [HTN.out, Bool.or_false]; exact hSt.out.2⟩⟩), ⟨Gr.out⟩⟩
         case measure => simp [intOf]
       · go_ret2
         have hT4 := touchT_mono (k := 4) (show touchT l (a, b) (c, d) 1 = true by rw [HTN.out, Bool.or_true]) (by decide)
         exact ⟨by rw [HE1.out, HE2.out, if_pos hT4, if_pos hT4]; rfl, ⟨Gr.out⟩⟩
  · skip
    have HXY := hid (side_start HASK.out 1); have HRT := hid (sideR_row (side_start HASK.out 1)); have HDN := hid (side_den HASK.out 1); have TX := hid (sideX_trim l (a, b) (c, d) 1); have TY := hid (sideY_trim l (a, b) (c, d) 1); have HSN := hid (show sumT l (a, b) (c, d) 2 = sumT l (a, b) (c, d) 1 + sideT (sideX l (a, b) (c, d) 1) (sideY l (a, b) (c, d) 1) from rfl)
    have HTN := hid (touchT_next l (a, b) (c, d) 1); have hSb : -160 ≤ S ∧ S ≤ 160 := by have := sumT_bound HASK.out 1; rw [← hSt.out.1] at this; omega
    have hTb := (sideT_bound (sideX l (a, b) (c, d) 1) (sideY l (a, b) (c, d) 1)).resolve_right (by have := HXY.out.1; omega)
    have ALJ := AL1; go_upto_region 11 with fail
    go_cut [12, 13] from 46 to 63 (fun s12 s13 wx => Rw 92 (ER 125) wx s12 (ovR (sideD l (a, b) (c, d) 1) (sideX l (a, b) (c, d) 1)) ∧ Rw 92 (ER 125) wx s13 (ovR (sideD l (a, b) (c, d) 1) (sideY l (a, b) (c, d) 1)) ∧ Kp0 wr wx)
    case first =>
     go_region_held3 (fun W => W.cell? ⟨g9, 2, none⟩ = some (.pointer (some ⟨p1, 0, none⟩)) ∧ W.cell? ⟨g9, 3, none⟩ = some (.pointer (some ⟨q0, 0, none⟩)) ∧ W.cell? ⟨g9, 4, none⟩ = some (.pointer (some ⟨p1, 0, none⟩)) ∧ W.cell? ⟨g9, 5, none⟩ = some (.pointer (some ⟨q1, 0, none⟩))) (refine ⟨?_, ?_, ?_, ?_⟩ <;> (first | exact Bk.cell BkC.out rfl | (simp [go_sem]; done))) (first | (go_at_call 71; (with_reducible refine Calls.mono (reLessC (by decide) (by decide) (by decide) (by decide)) ?_); rintro e wc ⟨_, _, rfl, _, _, _⟩) | (go_at_call 70; (with_reducible refine Calls.mono (ALJ.out _ _ _ _ _ inferInstance inferInstance inferInstance inferInstance inferInstance) ?_); rintro e wd ⟨u, u', rfl, hu, hu', _⟩; have HU := hid hu; have HU' := hid hu'; clear hu hu'))
     all_goals (go_wp2_with fail; go_meet; exact ⟨HU.out, HU'.out, ⟨Gr.out⟩⟩)
    case rest =>
     obtain ⟨hU, hU', ik2⟩ := hcut; clear AL0 AL1 AL2 AL3 ALJ; generalize sideX l (a, b) (c, d) 1 = P at *; generalize sideY l (a, b) (c, d) 1 = Q at *; generalize sideD l (a, b) (c, d) 1 = D at *; generalize hwd : wc = wd at *; clear hwd; obtain ⟨a1, c1, rfl, -⟩ := hU.form; obtain ⟨a2, c2, rfl, -⟩ := hU'.form; rw [ovR_len] at hU hU' ⊢; rw [ovR_len]; generalize hZZ : sideZ P Q = Z at *; have HRI : Hid (RowI 130 P Q) := hid (.inl HXY.out); have HRJ : Hid (RowI 130 Q P) := hid (.inl HXY.out.symm); by_cases hq : Q = []
     · subst hq; have hT0 : sideT P [] = 0 := by unfold sideT; rw [if_pos rfl]
       have hR0 : sideR P [] = rowI P [] := by unfold sideR; rw [if_pos rfl]
       rw [show (([] : List Int).length) = 0 from rfl] at hU' ⊢
       have HSN2 := hid (show sumT l (a, b) (c, d) 2 = S by rw [HSN.out, hT0, Int.add_zero]; exact hSt.out.1.symm)
       have ZE := hid (fun (W : World) (u : Value) (h : EV W u (lastL (rowI P []))) => show Calls Tryz.prog 74 #[u] W (fun e w' => e = .returned (.bool Z) ∧ Kp0 W w') from by
        have := reTouches h (hR0 ▸ HRT.out.2) (lastL_trim TX.out TY.out)
        rwa [show zeroI (lastL (rowI P [])) = Z by rw [← hZZ, ← hR0]; rfl] at this)
       have HU := hid hU; have HU' := hid hU'; obtain ⟨nP, hnP⟩ : ∃ nP, nP = P.length := ⟨_, rfl⟩; rw [← hnP] at HU ⊢; clear hU hU' hTb hZZ hnP hT0 hR0; cases Z
       all_goals go_wp2_with (first | (go_at_call 72; (with_reducible refine Calls.mono (reChainS (HU.out.below eok_Q Gr.out) (HU'.out.below eok_Q Gr.out) HDN.out HDN.out TX.out TY.out HRI.out) ?_); rintro e wb ⟨gR, oR, nR, cR, uR, rfl, hgR, ceR, h63, hPR, hvb, _⟩; haveI : Has wb gR := ⟨hgR⟩; have HPR := hid hPR; have HVB := hid hvb; have hi0 : (0 : Int) ≤ (nR : Int) := Int.natCast_nonneg _; have hi1 : (nR : Int) < (nR : Int) + 1 := Int.lt_succ _; have hi2 : ((nR + 1 : Nat) : Int) - 1 = (nR : Int) := (by omega); clear hvb hPR hgR) | (go_at_call 74; (with_reducible refine Calls.mono (ZE.out _ _ (eok_EV.below HPR.out Gr.out)) ?_); rintro e wc ⟨rfl, _⟩))
       · go_round
         case rel => exact ⟨2, S, by first | rfl | go_num, rfl, .inr (.inr (.inl ⟨rfl, hid ⟨HSN2.out.symm, by rw [HTN.out, Bool.or_false]; exact hSt.out.2⟩⟩)), ⟨Gr.out⟩⟩
         case measure => simp [intOf]
       · go_ret2
         have hT4 := touchT_mono (k := 4) (show touchT l (a, b) (c, d) 2 = true by rw [HTN.out, Bool.or_true]) (by decide)
         exact ⟨by rw [HE1.out, HE2.out, if_pos hT4, if_pos hT4]; rfl, ⟨Gr.out⟩⟩
     · have hR0 : sideR P Q = rowI Q P := by unfold sideR; rw [if_neg hq]
       have hT0 : sideT P Q = turnI (rowI Q P) := by unfold sideT; rw [if_neg hq]
       obtain ⟨T, hT⟩ : ∃ T, T = turnI (rowI Q P) := ⟨_, rfl⟩; rw [hT0, ← hT] at hTb; have HSN2 := hid (show sumT l (a, b) (c, d) 2 = S + T by rw [HSN.out, hT0, ← hT, ← hSt.out.1])
       have ZE := hid (fun (W : World) (u : Value) (h : EV W u (lastL (rowI Q P))) => show Calls Tryz.prog 74 #[u] W (fun e w' => e = .returned (.bool Z) ∧ Kp0 W w') from by
        have := reTouches h (hR0 ▸ HRT.out.2) (lastL_trim TY.out TX.out)
        rwa [show zeroI (lastL (rowI Q P)) = Z by rw [← hZZ, ← hR0]; rfl] at this)
       have TE := hid (fun (W : World) (u : Value) (h : Rw 108 EV W u (rowI Q P)) => show Calls Tryz.prog 73 #[u] W (fun e w' => e = .returned (.int .i64 T) ∧ Kp0 W w') from by
        have := reChanges h (rowI_oks HRJ.out TY.out TX.out)
        rwa [← hT] at this)
       have hw : IntKind.i64.wrap (S + T) = S + T := IntWalk.i64_in _ (by omega)
       have HU := hid hU; have HU' := hid hU'; obtain ⟨nP, hnP⟩ : ∃ nP, nP = P.length := ⟨_, rfl⟩; obtain ⟨nQ, hnQ⟩ : ∃ nQ, nQ = Q.length := ⟨_, rfl⟩; have hnq : ((nQ : Int) == 0) = false := beq_eq_false_iff_ne.2 (by have := List.length_pos_iff.2 hq; omega)
       rw [← hnP] at HU ⊢; rw [← hnQ] at HU' ⊢; clear hU hU' hTb hZZ hnP hnQ hT0 hR0 hq hT; cases Z
       all_goals go_wp2_with (first | (go_at_call 72; (with_reducible refine Calls.mono (reChainS (HU'.out.below eok_Q Gr.out) (HU.out.below eok_Q Gr.out) HDN.out HDN.out TY.out TX.out HRJ.out) ?_); rintro e wb ⟨gR, oR, nR, cR, uR, rfl, hgR, ceR, h63, hPR, hvb, _⟩; haveI : Has wb gR := ⟨hgR⟩; have HPR := hid hPR; have HVB := hid hvb; have hi0 : (0 : Int) ≤ (nR : Int) := Int.natCast_nonneg _; have hi1 : (nR : Int) < (nR : Int) + 1 := Int.lt_succ _; have hi2 : ((nR + 1 : Nat) : Int) - 1 = (nR : Int) := (by omega); clear hvb hPR hgR) | (go_at_call 73; (with_reducible refine Calls.mono (TE.out _ _ (HVB.out.below eok_EV Gr.out)) ?_); rintro e wa ⟨rfl, _⟩) | (go_at_call 74; (with_reducible refine Calls.mono (ZE.out _ _ (eok_EV.below HPR.out Gr.out)) ?_); rintro e wc ⟨rfl, _⟩))
       · go_round
         case rel => exact ⟨2, S + T, by first | rfl | go_num, by first | rfl | go_num, .inr (.inr (.inl ⟨rfl, hid ⟨HSN2.out.symm, by rw [HTN.out, Bool.or_false]; exact hSt.out.2⟩⟩)), ⟨Gr.out⟩⟩
         case measure => simp [intOf]
       · go_ret2
         have hT4 := touchT_mono (k := 4) (show touchT l (a, b) (c, d) 2 = true by rw [HTN.out, Bool.or_true]) (by decide)
         exact ⟨by rw [HE1.out, HE2.out, if_pos hT4, if_pos hT4]; rfl, ⟨Gr.out⟩⟩
  · skip
    have HXY := hid (side_start HASK.out 2); have HRT := hid (sideR_row (side_start HASK.out 2)); have HDN := hid (side_den HASK.out 2); have TX := hid (sideX_trim l (a, b) (c, d) 2); have TY := hid (sideY_trim l (a, b) (c, d) 2); have HSN := hid (show sumT l (a, b) (c, d) 3 = sumT l (a, b) (c, d) 2 + sideT (sideX l (a, b) (c, d) 2) (sideY l (a, b) (c, d) 2) from rfl)
    have HTN := hid (touchT_next l (a, b) (c, d) 2); have hSb : -160 ≤ S ∧ S ≤ 160 := by have := sumT_bound HASK.out 2; rw [← hSt.out.1] at this; omega
    have hTb := (sideT_bound (sideX l (a, b) (c, d) 2) (sideY l (a, b) (c, d) 2)).resolve_right (by have := HXY.out.1; omega)
    have ALJ := AL2; go_upto_region 11 with fail
    go_cut [12, 13] from 46 to 63 (fun s12 s13 wx => Rw 92 (ER 125) wx s12 (ovR (sideD l (a, b) (c, d) 2) (sideX l (a, b) (c, d) 2)) ∧ Rw 92 (ER 125) wx s13 (ovR (sideD l (a, b) (c, d) 2) (sideY l (a, b) (c, d) 2)) ∧ Kp0 wr wx)
    case first =>
     go_region_held3 (fun W => W.cell? ⟨g9, 4, none⟩ = some (.pointer (some ⟨p1, 0, none⟩)) ∧ W.cell? ⟨g9, 5, none⟩ = some (.pointer (some ⟨q1, 0, none⟩)) ∧ W.cell? ⟨g9, 6, none⟩ = some (.pointer (some ⟨p0, 0, none⟩)) ∧ W.cell? ⟨g9, 7, none⟩ = some (.pointer (some ⟨q1, 0, none⟩))) (refine ⟨?_, ?_, ?_, ?_⟩ <;> (first | exact Bk.cell BkC.out rfl | (simp [go_sem]; done))) (first | (go_at_call 71; (with_reducible refine Calls.mono (reLessC (by decide) (by decide) (by decide) (by decide)) ?_); rintro e wc ⟨_, _, rfl, _, _, _⟩) | (go_at_call 70; (with_reducible refine Calls.mono (ALJ.out _ _ _ _ _ inferInstance inferInstance inferInstance inferInstance inferInstance) ?_); rintro e wd ⟨u, u', rfl, hu, hu', _⟩; have HU := hid hu; have HU' := hid hu'; clear hu hu'))
     all_goals (go_wp2_with fail; go_meet; exact ⟨HU.out, HU'.out, ⟨Gr.out⟩⟩)
    case rest =>
     obtain ⟨hU, hU', ik2⟩ := hcut; clear AL0 AL1 AL2 AL3 ALJ; generalize sideX l (a, b) (c, d) 2 = P at *; generalize sideY l (a, b) (c, d) 2 = Q at *; generalize sideD l (a, b) (c, d) 2 = D at *; generalize hwd : wc = wd at *; clear hwd; obtain ⟨a1, c1, rfl, -⟩ := hU.form; obtain ⟨a2, c2, rfl, -⟩ := hU'.form; rw [ovR_len] at hU hU' ⊢; rw [ovR_len]; generalize hZZ : sideZ P Q = Z at *; have HRI : Hid (RowI 130 P Q) := hid (.inl HXY.out); have HRJ : Hid (RowI 130 Q P) := hid (.inl HXY.out.symm); by_cases hq : Q = []
     · subst hq; have hT0 : sideT P [] = 0 := by unfold sideT; rw [if_pos rfl]
       have hR0 : sideR P [] = rowI P [] := by unfold sideR; rw [if_pos rfl]
       rw [show (([] : List Int).length) = 0 from rfl] at hU' ⊢
       have HSN2 := hid (show sumT l (a, b) (c, d) 3 = S by rw [HSN.out, hT0, Int.add_zero]; exact hSt.out.1.symm)
       have ZE := hid (fun (W : World) (u : Value) (h : EV W u (lastL (rowI P []))) => show Calls Tryz.prog 74 #[u] W (fun e w' => e = .returned (.bool Z) ∧ Kp0 W w') from by
        have := reTouches h (hR0 ▸ HRT.out.2) (lastL_trim TX.out TY.out)
        rwa [show zeroI (lastL (rowI P [])) = Z by rw [← hZZ, ← hR0]; rfl] at this)
       have HU := hid hU; have HU' := hid hU'; obtain ⟨nP, hnP⟩ : ∃ nP, nP = P.length := ⟨_, rfl⟩; rw [← hnP] at HU ⊢; clear hU hU' hTb hZZ hnP hT0 hR0; cases Z
       all_goals go_wp2_with (first | (go_at_call 72; (with_reducible refine Calls.mono (reChainS (HU.out.below eok_Q Gr.out) (HU'.out.below eok_Q Gr.out) HDN.out HDN.out TX.out TY.out HRI.out) ?_); rintro e wb ⟨gR, oR, nR, cR, uR, rfl, hgR, ceR, h63, hPR, hvb, _⟩; haveI : Has wb gR := ⟨hgR⟩; have HPR := hid hPR; have HVB := hid hvb; have hi0 : (0 : Int) ≤ (nR : Int) := Int.natCast_nonneg _; have hi1 : (nR : Int) < (nR : Int) + 1 := Int.lt_succ _; have hi2 : ((nR + 1 : Nat) : Int) - 1 = (nR : Int) := (by omega); clear hvb hPR hgR) | (go_at_call 74; (with_reducible refine Calls.mono (ZE.out _ _ (eok_EV.below HPR.out Gr.out)) ?_); rintro e wc ⟨rfl, _⟩))
       · go_round
         case rel => exact ⟨3, S, by first | rfl | go_num, rfl, .inr (.inr (.inr (.inl ⟨rfl, hid ⟨HSN2.out.symm, by rw [HTN.out, Bool.or_false]; exact hSt.out.2⟩⟩))), ⟨Gr.out⟩⟩
         case measure => simp [intOf]
       · go_ret2
         have hT4 := touchT_mono (k := 4) (show touchT l (a, b) (c, d) 3 = true by rw [HTN.out, Bool.or_true]) (by decide)
         exact ⟨by rw [HE1.out, HE2.out, if_pos hT4, if_pos hT4]; rfl, ⟨Gr.out⟩⟩
     · have hR0 : sideR P Q = rowI Q P := by unfold sideR; rw [if_neg hq]
       have hT0 : sideT P Q = turnI (rowI Q P) := by unfold sideT; rw [if_neg hq]
       obtain ⟨T, hT⟩ : ∃ T, T = turnI (rowI Q P) := ⟨_, rfl⟩; rw [hT0, ← hT] at hTb; have HSN2 := hid (show sumT l (a, b) (c, d) 3 = S + T by rw [HSN.out, hT0, ← hT, ← hSt.out.1])
       have ZE := hid (fun (W : World) (u : Value) (h : EV W u (lastL (rowI Q P))) => show Calls Tryz.prog 74 #[u] W (fun e w' => e = .returned (.bool Z) ∧ Kp0 W w') from by
        have := reTouches h (hR0 ▸ HRT.out.2) (lastL_trim TY.out TX.out)
        rwa [show zeroI (lastL (rowI Q P)) = Z by rw [← hZZ, ← hR0]; rfl] at this)
       have TE := hid (fun (W : World) (u : Value) (h : Rw 108 EV W u (rowI Q P)) => show Calls Tryz.prog 73 #[u] W (fun e w' => e = .returned (.int .i64 T) ∧ Kp0 W w') from by
        have := reChanges h (rowI_oks HRJ.out TY.out TX.out)
        rwa [← hT] at this)
       have hw : IntKind.i64.wrap (S + T) = S + T := IntWalk.i64_in _ (by omega)
       have HU := hid hU; have HU' := hid hU'; obtain ⟨nP, hnP⟩ : ∃ nP, nP = P.length := ⟨_, rfl⟩; obtain ⟨nQ, hnQ⟩ : ∃ nQ, nQ = Q.length := ⟨_, rfl⟩; have hnq : ((nQ : Int) == 0) = false := beq_eq_false_iff_ne.2 (by have := List.length_pos_iff.2 hq; omega)
       rw [← hnP] at HU ⊢; rw [← hnQ] at HU' ⊢; clear hU hU' hTb hZZ hnP hnQ hT0 hR0 hq hT; cases Z
       all_goals go_wp2_with (first | (go_at_call 72; (with_reducible refine Calls.mono (reChainS (HU'.out.below eok_Q Gr.out) (HU.out.below eok_Q Gr.out) HDN.out HDN.out TY.out TX.out HRJ.out) ?_); rintro e wb ⟨gR, oR, nR, cR, uR, rfl, hgR, ceR, h63, hPR, hvb, _⟩; haveI : Has wb gR := ⟨hgR⟩; have HPR := hid hPR; have HVB := hid hvb; have hi0 : (0 : Int) ≤ (nR : Int) := Int.natCast_nonneg _; have hi1 : (nR : Int) < (nR : Int) + 1 := Int.lt_succ _; have hi2 : ((nR + 1 : Nat) : Int) - 1 = (nR : Int) := (by omega); clear hvb hPR hgR) | (go_at_call 73; (with_reducible refine Calls.mono (TE.out _ _ (HVB.out.below eok_EV Gr.out)) ?_); rintro e wa ⟨rfl, _⟩) | (go_at_call 74; (with_reducible refine Calls.mono (ZE.out _ _ (eok_EV.below HPR.out Gr.out)) ?_); rintro e wc ⟨rfl, _⟩))
       · go_round
         case rel => exact ⟨3, S + T, by first | rfl | go_num, by first | rfl | go_num, .inr (.inr (.inr (.inl ⟨rfl, hid ⟨HSN2.out.symm, by rw [HTN.out, Bool.or_false]; exact hSt.out.2⟩⟩))), ⟨Gr.out⟩⟩
         case measure => simp [intOf]
       · go_ret2
         have hT4 := touchT_mono (k := 4) (show touchT l (a, b) (c, d) 3 = true by rw [HTN.out, Bool.or_true]) (by decide)
         exact ⟨by rw [HE1.out, HE2.out, if_pos hT4, if_pos hT4]; rfl, ⟨Gr.out⟩⟩
  · skip
    have HXY := hid (side_start HASK.out 3); have HRT := hid (sideR_row (side_start HASK.out 3)); have HDN := hid (side_den HASK.out 3); have TX := hid (sideX_trim l (a, b) (c, d) 3); have TY := hid (sideY_trim l (a, b) (c, d) 3); have HSN := hid (show sumT l (a, b) (c, d) 4 = sumT l (a, b) (c, d) 3 + sideT (sideX l (a, b) (c, d) 3) (sideY l (a, b) (c, d) 3) from rfl)
    have HTN := hid (touchT_next l (a, b) (c, d) 3); have hSb : -160 ≤ S ∧ S ≤ 160 := by have := sumT_bound HASK.out 3; rw [← hSt.out.1] at this; omega
    have hTb := (sideT_bound (sideX l (a, b) (c, d) 3) (sideY l (a, b) (c, d) 3)).resolve_right (by have := HXY.out.1; omega)
    have ALJ := AL3; go_upto_region 11 with fail
    go_cut [12, 13] from 46 to 63 (fun s12 s13 wx => Rw 92 (ER 125) wx s12 (ovR (sideD l (a, b) (c, d) 3) (sideX l (a, b) (c, d) 3)) ∧ Rw 92 (ER 125) wx s13 (ovR (sideD l (a, b) (c, d) 3) (sideY l (a, b) (c, d) 3)) ∧ Kp0 wr wx)
    case first =>
     go_region_held3 (fun W => W.cell? ⟨g9, 6, none⟩ = some (.pointer (some ⟨p0, 0, none⟩)) ∧ W.cell? ⟨g9, 7, none⟩ = some (.pointer (some ⟨q1, 0, none⟩)) ∧ W.cell? ⟨g9, 8, none⟩ = some (.pointer (some ⟨p0, 0, none⟩)) ∧ W.cell? ⟨g9, 9, none⟩ = some (.pointer (some ⟨q0, 0, none⟩))) (refine ⟨?_, ?_, ?_, ?_⟩ <;> (first | exact Bk.cell BkC.out rfl | (simp [go_sem]; done))) (first | (go_at_call 71; (with_reducible refine Calls.mono (reLessC (by decide) (by decide) (by decide) (by decide)) ?_); rintro e wc ⟨_, _, rfl, _, _, _⟩) | (go_at_call 70; (with_reducible refine Calls.mono (ALJ.out _ _ _ _ _ inferInstance inferInstance inferInstance inferInstance inferInstance) ?_); rintro e wd ⟨u, u', rfl, hu, hu', _⟩; have HU := hid hu; have HU' := hid hu'; clear hu hu'))
     all_goals (go_wp2_with fail; go_meet; exact ⟨HU.out, HU'.out, ⟨Gr.out⟩⟩)
    case rest =>
     obtain ⟨hU, hU', ik2⟩ := hcut; clear AL0 AL1 AL2 AL3 ALJ; generalize sideX l (a, b) (c, d) 3 = P at *; generalize sideY l (a, b) (c, d) 3 = Q at *; generalize sideD l (a, b) (c, d) 3 = D at *; generalize hwd : wc = wd at *; clear hwd; obtain ⟨a1, c1, rfl, -⟩ := hU.form; obtain ⟨a2, c2, rfl, -⟩ := hU'.form; rw [ovR_len] at hU hU' ⊢; rw [ovR_len]; generalize hZZ : sideZ P Q = Z at *; have HRI : Hid (RowI 130 P Q) := hid (.inl HXY.out); have HRJ : Hid (RowI 130 Q P) := hid (.inl HXY.out.symm); by_cases hq : Q = []
     · subst hq; have hT0 : sideT P [] = 0 := by unfold sideT; rw [if_pos rfl]
       have hR0 : sideR P [] = rowI P [] := by unfold sideR; rw [if_pos rfl]
       rw [show (([] : List Int).length) = 0 from rfl] at hU' ⊢
       have HSN2 := hid (show sumT l (a, b) (c, d) 4 = S by rw [HSN.out, hT0, Int.add_zero]; exact hSt.out.1.symm)
       have ZE := hid (fun (W : World) (u : Value) (h : EV W u (lastL (rowI P []))) => show Calls Tryz.prog 74 #[u] W (fun e w' => e = .returned (.bool Z) ∧ Kp0 W w') from by
        have := reTouches h (hR0 ▸ HRT.out.2) (lastL_trim TX.out TY.out)
        rwa [show zeroI (lastL (rowI P [])) = Z by rw [← hZZ, ← hR0]; rfl] at this)
       have HU := hid hU; have HU' := hid hU'; obtain ⟨nP, hnP⟩ : ∃ nP, nP = P.length := ⟨_, rfl⟩; rw [← hnP] at HU ⊢; clear hU hU' hTb hZZ hnP hT0 hR0; cases Z
       all_goals go_wp2_with (first | (go_at_call 72; (with_reducible refine Calls.mono (reChainS (HU.out.below eok_Q Gr.out) (HU'.out.below eok_Q Gr.out) HDN.out HDN.out TX.out TY.out HRI.out) ?_); rintro e wb ⟨gR, oR, nR, cR, uR, rfl, hgR, ceR, h63, hPR, hvb, _⟩; haveI : Has wb gR := ⟨hgR⟩; have HPR := hid hPR; have HVB := hid hvb; have hi0 : (0 : Int) ≤ (nR : Int) := Int.natCast_nonneg _; have hi1 : (nR : Int) < (nR : Int) + 1 := Int.lt_succ _; have hi2 : ((nR + 1 : Nat) : Int) - 1 = (nR : Int) := (by omega); clear hvb hPR hgR) | (go_at_call 74; (with_reducible refine Calls.mono (ZE.out _ _ (eok_EV.below HPR.out Gr.out)) ?_); rintro e wc ⟨rfl, _⟩))
       · go_round
         case rel => exact ⟨4, S, by first | rfl | go_num, rfl, .inr (.inr (.inr (.inr (⟨rfl, hid ⟨HSN2.out.symm, by rw [HTN.out, Bool.or_false]; exact hSt.out.2⟩⟩)))), ⟨Gr.out⟩⟩
         case measure => simp [intOf]
       · go_ret2
         have hT4 := touchT_mono (k := 4) (show touchT l (a, b) (c, d) 4 = true by rw [HTN.out, Bool.or_true]) (by decide)
         exact ⟨by rw [HE1.out, HE2.out, if_pos hT4, if_pos hT4]; rfl, ⟨Gr.out⟩⟩
     · have hR0 : sideR P Q = rowI Q P := by unfold sideR; rw [if_neg hq]
       have hT0 : sideT P Q = turnI (rowI Q P) := by unfold sideT; rw [if_neg hq]
       obtain ⟨T, hT⟩ : ∃ T, T = turnI (rowI Q P) := ⟨_, rfl⟩; rw [hT0, ← hT] at hTb; have HSN2 := hid (show sumT l (a, b) (c, d) 4 = S + T by rw [HSN.out, hT0, ← hT, ← hSt.out.1])
       have ZE := hid (fun (W : World) (u : Value) (h : EV W u (lastL (rowI Q P))) => show Calls Tryz.prog 74 #[u] W (fun e w' => e = .returned (.bool Z) ∧ Kp0 W w') from by
        have := reTouches h (hR0 ▸ HRT.out.2) (lastL_trim TY.out TX.out)
        rwa [show zeroI (lastL (rowI Q P)) = Z by rw [← hZZ, ← hR0]; rfl] at this)
       have TE := hid (fun (W : World) (u : Value) (h : Rw 108 EV W u (rowI Q P)) => show Calls Tryz.prog 73 #[u] W (fun e w' => e = .returned (.int .i64 T) ∧ Kp0 W w') from by
        have := reChanges h (rowI_oks HRJ.out TY.out TX.out)
        rwa [← hT] at this)
       have hw : IntKind.i64.wrap (S + T) = S + T := IntWalk.i64_in _ (by omega)
       have HU := hid hU; have HU' := hid hU'; obtain ⟨nP, hnP⟩ : ∃ nP, nP = P.length := ⟨_, rfl⟩; obtain ⟨nQ, hnQ⟩ : ∃ nQ, nQ = Q.length := ⟨_, rfl⟩; have hnq : ((nQ : Int) == 0) = false := beq_eq_false_iff_ne.2 (by have := List.length_pos_iff.2 hq; omega)
       rw [← hnP] at HU ⊢; rw [← hnQ] at HU' ⊢; clear hU hU' hTb hZZ hnP hnQ hT0 hR0 hq hT; cases Z
       all_goals go_wp2_with (first | (go_at_call 72; (with_reducible refine Calls.mono (reChainS (HU'.out.below eok_Q Gr.out) (HU.out.below eok_Q Gr.out) HDN.out HDN.out TY.out TX.out HRJ.out) ?_); rintro e wb ⟨gR, oR, nR, cR, uR, rfl, hgR, ceR, h63, hPR, hvb, _⟩; haveI : Has wb gR := ⟨hgR⟩; have HPR := hid hPR; have HVB := hid hvb; have hi0 : (0 : Int) ≤ (nR : Int) := Int.natCast_nonneg _; have hi1 : (nR : Int) < (nR : Int) + 1 := Int.lt_succ _; have hi2 : ((nR + 1 : Nat) : Int) - 1 = (nR : Int) := (by omega); clear hvb hPR hgR) | (go_at_call 73; (with_reducible refine Calls.mono (TE.out _ _ (HVB.out.below eok_EV Gr.out)) ?_); rintro e wa ⟨rfl, _⟩) | (go_at_call 74; (with_reducible refine Calls.mono (ZE.out _ _ (eok_EV.below HPR.out Gr.out)) ?_); rintro e wc ⟨rfl, _⟩))
       · go_round
         case rel => exact ⟨4, S + T, by first | rfl | go_num, by first | rfl | go_num, .inr (.inr (.inr (.inr (⟨rfl, hid ⟨HSN2.out.symm, by rw [HTN.out, Bool.or_false]; exact hSt.out.2⟩⟩)))), ⟨Gr.out⟩⟩
         case measure => simp [intOf]
       · go_ret2
         have hT4 := touchT_mono (k := 4) (show touchT l (a, b) (c, d) 4 = true by rw [HTN.out, Bool.or_true]) (by decide)
         exact ⟨by rw [HE1.out, HE2.out, if_pos hT4, if_pos hT4]; rfl, ⟨Gr.out⟩⟩
  · skip
    have h1 := hSt.out; have hSb : -160 ≤ S ∧ S ≤ 160 := by have := sumT_bound HASK.out 4; rw [← h1.1] at this; omega
    have HV1 : Hid (E1 = S.tdiv 4) := hid (by rw [HE1.out, if_neg (by rw [h1.2]; decide), h1.1])
    have HV2 : Hid (E2 = 0) := hid (by rw [HE2.out, if_neg (by rw [h1.2]; decide)])
    have hw : IntKind.i64.wrap (S.tdiv 4) = S.tdiv 4 := IntWalk.i64_in _ (by
     have e := tdiv4_bound hSb
     omega)
    clear h1; go_wp2_with fail
    go_ret2
    exact ⟨by rw [HV1.out, HV2.out]; rfl, ⟨Gr.out⟩⟩
theorem reZeros {w : World} {g off cap : Nat} {l : List (Nat × Nat)} {a b c d : Nat} [hc : ClC w g off l] (hl : okB l) (ha : a < 18446744073709551616) (hb : b < 18446744073709551616) (hc' : c < 18446744073709551616) (hd : d < 18446744073709551616) :
 Calls Tryz.prog 20 #[.slice (some ⟨g, off, none⟩) l.length cap, .agg #[.complex .f64 a b, .complex .f64 c d]] w fun e w' => e = .returned (.tuple #[.int .i64 (zerosN l (a, b) (c, d)).1, .int .i64 (zerosN l (a, b) (c, d)).2]) ∧ Kp0 w w' := by
 unfold zerosN; by_cases h : askE l (a, b) (c, d) = 0
 · rw [if_neg (fun k => k h)]
   have := reZerosOk (hc := hc) (cap := cap) hl ha hb hc' hd h; by_cases ht : touchT l (a, b) (c, d) 4 = true
   · rw [if_pos ht, if_pos ht] at this; rw [if_pos ht]; exact this
   · rw [if_neg ht, if_neg ht] at this; rw [if_neg ht]; exact this
 · rw [if_pos h]; exact reZerosErr hl ha hb hc' hd h
theorem gaCheckBad {a b c d : ByteArray} {w : World} [sa : SzC a] [sb : SzC b] [sc : SzC c] [sd : SzC d] [hv : VrB w] {E : Int} (h : checkE a b c d = E) (h0 : E ≠ 0) :
 Calls Tryz.prog 33 #[.agg #[.string a, .string b, .string c, .string d]] w fun e w' => e = .returned (.int .i64 E) ∧ Kp0 w w' := by
 go_enter Tryz.func33, Tryz.ntmps33; go_wp2_with ((go_at_call 75; (with_reducible refine Calls.mono (gaOneBad h h0) ?_); rintro e wc ⟨rfl, _⟩))
 go_ret
 exact ⟨rfl, ⟨Gr.out⟩⟩
theorem gaCheckOk {a b c d : ByteArray} {w : World} [sa : SzC a] [sb : SzC b] [sc : SzC c] [sd : SzC d] [hv : VrB w] (h1 : checkE a b c d = 0) :
 Calls Tryz.prog 33 #[.agg #[.string a, .string b, .string c, .string d]] w fun e w' => e = .returned (.int .i64 0) ∧ Kp0 w w' := by
 go_enter Tryz.func33, Tryz.ntmps33; go_wp2_with ((go_at_call 75; (with_reducible refine Calls.mono (gaOneOk h1) ?_); rintro e wc ⟨i, j, rfl, _, _, _⟩))
 go_ret
 exact ⟨rfl, ⟨Gr.out⟩⟩
theorem gaCheckX {a b c d : ByteArray} {w : World} [sa : SzC a] [sb : SzC b] [sc : SzC c] [sd : SzC d] [hv : VrC w] :
 Calls Tryz.prog 33 #[.agg #[.string a, .string b, .string c, .string d]] w fun e w' => e = .returned (.int .i64 (checkE a b c d)) ∧ Kp0 w w' := by
 by_cases h : checkE a b c d = 0
 · rw [h]; exact gaCheckOk (hv := ⟨VrC.out⟩) h
 · exact gaCheckBad (hv := ⟨VrC.out⟩) rfl h
instance (priority := 940) bkC_kpR (R : Nat) (W w' : World) (g n : Nat) (x : _root_.Rat) (L : List Value) (T : Nat) [k : Kp1 W n w'] [h : BkC W g L T] [r : RaC R W n x] [t : NeT R T] : BkC w' g L T := ⟨h.out.keep k.out (Nat.le_refl _) (by
 obtain ⟨_, _, hb, -, -⟩ := r.out
 simpa using h.out.ne hb t.out)⟩
end Go.Proofs.YthjeejnggpjnjaaGreatDoor
