/- The product of words. Whole numbers in memory. Fractions in memory: begun. -/
import Derived.Test.YtcoillcppmibgaaGreatDoorD10
set_option linter.unusedSimpArgs false
set_option linter.unusedVariables false
namespace Go.Proofs.YtcoillcppmibgaaGreatDoor
section
open Go.RowKit
namespace Big
theorem words_drop (n h : Nat) : (words n).drop h = words (n / 4294967296 ^ h) := by
  rw [← drop_val]
  refine (words_val ((words_ok n).drop h) (fun x hx => ?_)).symm
  rw [List.getLast?_eq_getElem?, List.length_drop, List.getElem?_drop] at hx
  have hl : h + ((words n).length - h - 1) < (words n).length := by
    rcases Nat.lt_or_ge (h + ((words n).length - h - 1)) (words n).length with h1 | h1
    · exact h1
    · rw [List.getElem?_eq_none h1] at hx; cases hx
  rw [show h + ((words n).length - h - 1) = (words n).length - 1 by omega] at hx
  exact words_last hx
theorem val_take_mod (n h : Nat) : val ((words n).take h) = n % 4294967296 ^ h := by
  rcases Nat.lt_or_ge (words n).length h with h1 | h1
  · rw [List.take_of_length_le (by omega), val_words]
    have h2 := words_lt n
    have h3 : 4294967296 ^ (words n).length ≤ 4294967296 ^ h := Nat.pow_le_pow_right (by decide) (by omega)
    rw [Nat.mod_eq_of_lt (by omega)]
  · have a1 := val_append ((words n).take h) ((words n).drop h)
    rw [List.take_append_drop, val_words, List.length_take, Nat.min_eq_left h1, drop_val] at a1
    have e := Nat.mod_add_div n (4294967296 ^ h)
    omega
theorem kara {m n H a0 a1 b0 b1 : Nat} (hm : m = a0 + H * a1) (hn : n = b0 + H * b1) : a1 * b1 ≤ (a0 + a1) * (b0 + b1) - a0 * b0 ∧ a0 * b0 ≤ (a0 + a1) * (b0 + b1) ∧ a0 * b0 + H * ((a0 + a1) * (b0 + b1) - a0 * b0 - a1 * b1) + H * H * (a1 * b1) = m * n := by
  have e : (a0 + a1) * (b0 + b1) = a0 * b0 + a1 * b1 + (a0 * b1 + a1 * b0) := by grind
  rw [e]
  have e2 : a0 * b0 + a1 * b1 + (a0 * b1 + a1 * b0) - a0 * b0 - a1 * b1 = a0 * b1 + a1 * b0 := by omega
  refine ⟨by omega, by omega, ?_⟩
  rw [e2, hm, hn]
  grind
theorem Wd.sub {w : World} {g off cap : Nat} {l : List Nat} (h : Wd w (.slice (some ⟨g, off, none⟩) l.length cap) l) (p k : Nat) (hk : p + k ≤ l.length) : Wd w (.slice (some ⟨g, off + p, none⟩) k (cap - p)) ((l.drop p).take k) := by
  rcases h with ⟨h1, -⟩ | ⟨g', off', cap', C, h1, h2, h3, h4⟩
  · cases h1
  · simp only [Value.slice.injEq, Option.some.injEq, Addr.mk.injEq] at h1
    obtain ⟨⟨rfl, rfl, -⟩, -, rfl⟩ := h1
    have hl : ((l.drop p).take k).length = k := by rw [List.length_take, List.length_drop]; omega
    refine .inr ⟨_, _, _, C, by rw [hl], h2, by rw [hl]; omega, fun i x hx => ?_⟩
    rw [List.getElem?_take] at hx
    split at hx
    · rw [List.getElem?_drop] at hx
      rw [Nat.add_assoc]
      exact h4 _ _ hx
    · cases hx
theorem mul_len (m n : Nat) : (words (m * n)).length ≤ (words m).length + (words n).length := by
  refine words_len_le ?_
  rw [Nat.pow_add]
  exact Nat.mul_lt_mul'' (words_lt m) (words_lt n)
/-- The product of words, as a promise. -/
def MulC (m n : Nat) : Prop := ∀ (va vb : Value) (w : World), Wd w va (words m) → Wd w vb (words n) → Calls Tryz.prog 82 #[va, vb] w fun e w' => ∃ v, e = .returned v ∧ Wd w' v (words (m * n)) ∧ Fresh w.heap.size v ∧ Below w.heap.size w w'
set_option maxRecDepth 100000 in
set_option maxHeartbeats 32000000 in
theorem bmul_step (m n : Nat) (hlen : (words m).length + (words n).length ≤ 137438953472) (ih : ∀ m' n', (words m').length + (words n').length < (words m).length + (words n).length → MulC m' n') : MulC m n := by
  intro va vb w ha hb
  obtain ⟨P, hP⟩ : ∃ P, P = m * n := ⟨_, rfl⟩
  rw [← hP]
  have HP := hid hP
  have HWA := hid ha
  have HWB := hid hb
  have IH := hid ih
  obtain ⟨ka, hka⟩ : ∃ ka, ka = (words m).length := ⟨_, rfl⟩
  obtain ⟨kb, hkb⟩ : ∃ kb, kb = (words n).length := ⟨_, rfl⟩
  have HKA := hid hka
  have HKB := hid hkb
  have HLEN := hid hlen
  obtain ⟨a0, c0, hva, hc0, -⟩ := ha.form
  obtain ⟨b0, d0, hvb, hd0, -⟩ := hb.form
  rw [← hka] at hva
  rw [← hkb] at hvb
  subst hva
  subst hvb
  clear ha hb hP ih hka hkb hc0 hd0 hlen
  go_enter Tryz.func82, Tryz.ntmps82
  go_upto_if 15 with fail
  go_cut [0, 1] from 11 to 17 (fun s0 s1 wx => wx = w ∧ ∃ A B : Nat, Hid (Wd w s0 (words A)) ∧ Hid (Wd w s1 (words B)) ∧ (words B).length ≤ (words A).length ∧ Hid (P = A * B) ∧ Hid (∀ m' n', (words m').length + (words n').length < (words A).length + (words B).length → MulC m' n') ∧ (words A).length + (words B).length ≤ 137438953472)
  case first =>
    rcases Nat.lt_or_ge ka kb with hab | hab
    · have h1 : (ka : Int) < (kb : Int) := by omega
      have h2 : decide ((ka : Int) < (kb : Int)) = true := decide_eq_true h1
      try simp only [h2]
      go_wp2_with fail
      go_meet
      exact ⟨rfl, n, m, HWB, HWA, by rw [← HKA.out, ← HKB.out]; omega, hid (by rw [HP.out, Nat.mul_comm]), hid (fun m' n' h => IH.out m' n' (by omega)), by have := HLEN.out; omega⟩
    · have h1 : (kb : Int) ≤ (ka : Int) := by omega
      have h2 : decide ((ka : Int) < (kb : Int)) = false := decide_eq_false (by omega)
      try simp only [h2]
      go_wp2_with fail
      go_meet
      exact ⟨rfl, m, n, HWA, HWB, by rw [← HKA.out, ← HKB.out]; omega, HP, IH, HLEN.out⟩
  case rest =>
    obtain ⟨rfl, A, B, hWA, hWB, hle, hP, hIH, hlen⟩ := hcut
    clear HWA HWB HP IH HKA HKB HLEN
    obtain ⟨a, ca, rfl, hca, hxa⟩ := hWA.out.form
    obtain ⟨b, cb, rfl, hcb, hxb⟩ := hWB.out.form
    obtain ⟨la, hla⟩ : ∃ la, la = (words A).length := ⟨_, rfl⟩
    obtain ⟨lb, hlb⟩ : ∃ lb, lb = (words B).length := ⟨_, rfl⟩
    have HLA := hid hla
    have HLB := hid hlb
    simp only [← hla, ← hlb] at hWA hWB hIH hle hlen hca hcb hxa hxb ⊢
    by_cases h40 : lb < 40
    · have h41 : (lb : Int) < 40 := by omega
      have PL := bplain _ _ A B wc hWA.out hWB.out (by omega) (by omega)
      rw [← hP.out] at PL
      clear hxa hxb hla hlb
      go_wp2_with (go_at_call 111; refine PL.mono ?_; rintro e w' ⟨v, rfl, h1, h2, h3⟩)
      go_ret
      exact ⟨_, rfl, h1, h2, h3⟩
    · have h41 : (40 : Int) ≤ (lb : Int) := by omega
      have h42 : decide ((lb : Int) < 40) = false := decide_eq_false (by omega)
      obtain ⟨ga, oa, rfl, hga, -⟩ := hxa (by omega)
      obtain ⟨gb, ob, rfl, hgb, -⟩ := hxb (by omega)
      clear hxa hxb hla hlb
      go_upto_region 6 with (at_make; refine make_words _ rfl _ _ rfl _ (la + lb + 1) rfl rfl (by first | rfl | omega | simp) (by omega) ?_; intro w1 hro hb1 hlt1)
      obtain ⟨go, hgo⟩ : ∃ go, go = wc.heap.size := ⟨_, rfl⟩
      simp only [← hgo] at hro hb1 hlt1 ⊢
      have HGO := hid hgo
      have RO := hro
      have B1 : Hid (Below wc.heap.size wc w1) := hid (by rw [← hgo]; exact hb1)
      clear hgo hro hb1
      by_cases h2 : 2 * lb ≤ la
      · have h2i : (2 : Int) * (lb : Int) ≤ (la : Int) := by omega
        have h2d : decide ((la : Int) ≥ 2 * (lb : Int)) = true := decide_eq_true (by omega)
        go_wp2_with fail
        go_loopw [6] (fun s6 wr => ∃ (p : Nat) (L : List Nat), s6 = .int .i64 p ∧ p ≤ la + lb ∧ Hid (L.length = la + lb + 1) ∧ Hid (Wok L) ∧ Hid (val L = val ((words A).take p) * B) ∧ Hid (Ro wr go L) ∧ Hid (Below wc.heap.size wc wr)) (fun s6 _ => la - (intOf s6).toNat)
        case atStart => exact ⟨0, List.replicate (la + lb + 1) 0, rfl, by omega, hid (by simp), hid (Wok.rep _), hid (by rw [val_rep]; simp [val]), RO, B1⟩
        case round =>
          obtain ⟨p, L, rfl, hp, hLl, hLk, hLv, hR, hB⟩ := hrel
          haveI : Has wr go := ⟨hR.out.lt⟩
          have hAl := HLA.out
          have hBl := HLB.out
          have hgoB : wc.heap.size ≤ go := by have := HGO.out; omega
          by_cases hpl : p < la
          · have hp1 : (p : Int) < (la : Int) := by omega
            have hp0 : (0 : Int) ≤ (p : Int) := by omega
            have hWAr := hWA.out.below (below_low hB.out (Nat.le_refl _))
            have hWBr := hWB.out.below (below_low hB.out (Nat.le_refl _))
            have TC : Hid (∀ e, p ≤ e → e ≤ la → Calls Tryz.prog 110 #[.slice (some ⟨ga, oa + p, none⟩) (e - p) (ca - p)] wr fun e' w'' => ∃ v, e' = .returned v ∧ Wd wr v (words (val (((words A).drop p).take (e - p)))) ∧ w'' = wr) := hid fun e h1 h3 => by
              have hs : (((words A).drop p).take (e - p)).length = e - p := by rw [List.length_take, List.length_drop]; omega
              have hW0 := hWAr
              rw [hAl] at hW0
              have hW := Wd.sub hW0 p (e - p) (by omega)
              refine (btrim _ (((words A).drop p).take (e - p)) wr hW (((words_ok A).drop p).take _) (by omega)).mono ?_
              rintro e' w'' ⟨v, rfl, q1, q2, q3⟩
              exact ⟨v, rfl, q1, q3⟩
            have MC : Hid (∀ (v : Value) c e, e ≤ p + lb → p ≤ e → c = val (((words A).drop p).take (e - p)) → Wd wr v (words c) → Calls Tryz.prog 82 #[v, .slice (some ⟨gb, ob, none⟩) lb cb] wr fun e' w'' => ∃ v', e' = .returned v' ∧ Wd w'' v' (words (c * B)) ∧ Fresh wr.heap.size v' ∧ Below wr.heap.size wr w'') := hid fun v c e h1 h3 h4 h5 => by
              have hc : (words c).length ≤ lb := by
                refine words_len_le ?_
                rw [h4]
                refine Nat.lt_of_lt_of_le (val_lt (((words_ok A).drop p).take _)) (Nat.pow_le_pow_right (by decide) ?_)
                rw [List.length_take]
                omega
              exact hIH.out c B (by omega) v _ wr h5 hWBr
            have AC : Hid (∀ (v : Value) c e w', e ≤ la → p ≤ e → c = val (((words A).drop p).take (e - p)) → Wd w' v (words (c * B)) → Fresh wr.heap.size v → Below wr.heap.size wr w' → Calls Tryz.prog 112 #[.slice (some ⟨go, 0, none⟩) (la + lb + 1) (la + lb + 1), v, .int .i64 p] w' fun e' w'' => e' = .returned (.tuple #[]) ∧ ∃ L', L'.length = la + lb + 1 ∧ Wok L' ∧ val L' = val ((words A).take e) * B ∧ Ro w'' go L' ∧ Keeps w'.heap.size [go] w' w'') := hid fun v c e w' h1 h3 h4 h5 h6 h7 => by
              have hte : val ((words A).take e) = val ((words A).take p) + 4294967296 ^ p * c := by
                have a1 := val_append ((words A).take p) (((words A).drop p).take (e - p))
                rw [← List.take_add, List.length_take, Nat.min_eq_left (by omega), show p + (e - p) = e by omega, ← h4] at a1
                exact a1
              have hbound : val ((words A).take e) * B < 4294967296 ^ (la + lb) := by
                rw [Nat.pow_add]
                refine Nat.mul_lt_mul'' ?_ (by rw [hBl]; exact words_lt B)
                refine Nat.lt_of_lt_of_le (val_lt ((words_ok A).take e)) (Nat.pow_le_pow_right (by decide) ?_)
                rw [List.length_take]; omega
              have hval : val L + 4294967296 ^ p * (c * B) = val ((words A).take e) * B := by
                rw [hLv.out, hte, Nat.add_mul, Nat.mul_assoc]
              refine (baddAt go p (la + lb + 1) L v (c * B) w' (hR.out.keep h7) hLk.out h5 (fun k hk => by have := h6 k hk; have := hR.out.lt; omega) (by have := hLl.out; omega) (by
                rw [hval, hLl.out, Nat.pow_succ]
                omega) (by have := hLl.out; omega) (la + lb + 1) hLl.out.symm).mono ?_
              rintro e' w'' ⟨rfl, L', l1, l2, l3, l4, l5⟩
              exact ⟨rfl, L', by rw [l1]; exact hLl.out, l2, by rw [l3, hval], l4, l5⟩
            have tn : ((p : Int) + (lb : Int)).toNat = p + lb := by omega
            clear hWAr hWBr hAl hBl h2 h2i
            go_wp2_with fail
            all_goals try simp only [Nat.add_sub_cancel_left]
            · have hs1 : p ≤ la := by omega
              have hs2 : la ≤ la := by omega
              have hs3 : la ≤ p + lb := by omega
              have T1 := TC.out la hs1 hs2
              refine T1.mono ?_
              rintro e' w'' ⟨v, rfl, hw1, hww⟩
              obtain rfl := hww.symm
              have M1 := hid (MC.out v _ la hs3 hs1 rfl hw1)
              clear T1
              obtain ⟨c, hc⟩ : ∃ c, c = val (((words A).drop p).take (la - p)) := ⟨_, rfl⟩
              rw [← hc] at M1
              have HC := hid hc
              clear hc hw1 TC MC
              go_wp2_with (first | (go_at_call 82; refine M1.out.mono ?_; rintro e' w2 ⟨v2, rfl, hw2, hf2, hb2⟩) | (go_at_call 112; refine (AC.out v2 c la w2 hs2 hs1 HC.out hw2 hf2 hb2).mono ?_; rintro e' w3 ⟨rfl, L', l1, l2, l3, l4, l5⟩))
              go_roundw
              case rel => exact ⟨p + lb, L', by first | rfl | simp, by omega, hid l1, hid l2, hid (by rw [l3]; rw [List.take_of_length_le (show (words A).length ≤ la by have := HLA.out; omega), List.take_of_length_le (show (words A).length ≤ p + lb by have := HLA.out; omega)]), hid l4, hid (by
                have k1 : Keeps wc.heap.size [] wc w2 := (Keeps.of_below hB.out).trans ((Keeps.of_below (below_low hb2 hB.out.size)))
                exact (k1.trans (l5.mono (Nat.le_trans hB.out.size hb2.size) (fun k hk hs => by simp at hs; omega))).below)⟩
              case measure => simp [intOf]; omega
            · have hs1 : p ≤ (p + lb) := by omega
              have hs2 : (p + lb) ≤ la := by omega
              have hs3 : (p + lb) ≤ p + lb := by omega
              have T1 := TC.out (p + lb) hs1 hs2
              rw [Nat.add_sub_cancel_left] at T1
              refine T1.mono ?_
              rintro e' w'' ⟨v, rfl, hw1, hww⟩
              obtain rfl := hww.symm
              have M1 := hid (MC.out v _ (p + lb) hs3 hs1 rfl (by rw [Nat.add_sub_cancel_left]; exact hw1))
              clear T1
              obtain ⟨c, hc⟩ : ∃ c, c = val (((words A).drop p).take ((p + lb) - p)) := ⟨_, rfl⟩
              rw [← hc] at M1
              have HC := hid hc
              clear hc hw1 TC MC
              go_wp2_with (first | (go_at_call 82; refine M1.out.mono ?_; rintro e' w2 ⟨v2, rfl, hw2, hf2, hb2⟩) | (go_at_call 112; refine (AC.out v2 c (p + lb) w2 hs2 hs1 HC.out hw2 hf2 hb2).mono ?_; rintro e' w3 ⟨rfl, L', l1, l2, l3, l4, l5⟩))
              go_roundw
              case rel => exact ⟨p + lb, L', by first | rfl | simp, by omega, hid l1, hid l2, hid (by rw [l3]), hid l4, hid (by
                have k1 : Keeps wc.heap.size [] wc w2 := (Keeps.of_below hB.out).trans ((Keeps.of_below (below_low hb2 hB.out.size)))
                exact (k1.trans (l5.mono (Nat.le_trans hB.out.size hb2.size) (fun k hk hs => by simp at hs; omega))).below)⟩
              case measure => simp [intOf]; omega
          · have hp1 : (la : Int) ≤ (p : Int) := by omega
            have hp2 : decide ((p : Int) < (la : Int)) = false := decide_eq_false (by omega)
            have hval : val L = P := by rw [hLv.out, List.take_of_length_le (by omega), val_words, hP.out]
            have W2 : Hid (Wd wr (.slice (some ⟨go, 0, none⟩) (la + lb + 1) (la + lb + 1)) L) := hid (by have := hR.out.wd (cap := la + lb + 1) (by have := hLl.out; omega); rw [hLl.out] at this; exact this)
            have HV := hid hval
            have hl2 : L.length ≤ 1099511627776 := by have := hLl.out; omega
            clear hval hAl hBl h2 h2i hl2
            go_wp2_with fail
            refine (btrim _ _ _ W2.out hLk.out (by have := hLl.out; omega)).mono ?_
            rintro e w' ⟨v, rfl, hw, hbl, rfl⟩
            rw [HV.out] at hw
            have HW := hid hw
            clear hw
            go_wp2_with fail
            go_ret
            exact ⟨_, rfl, HW.out, (Fresh.own hgoB).of hbl, hB.out⟩
      · obtain ⟨h, hh⟩ : ∃ h, h = (la + 1) / 2 := ⟨_, rfl⟩
        have h2i : (la : Int) < (2 : Int) * (lb : Int) := by omega
        have h2d : decide ((la : Int) ≥ 2 * (lb : Int)) = false := decide_eq_false (by omega)
        have t1 : ((la : Int) + 1).tdiv 2 = (h : Int) := by rw [Int.tdiv_eq_ediv_of_nonneg (by omega)]; omega
        have t2 : ((la : Int) + 1) / 2 = (h : Int) := by omega
        have hhlb : h ≤ lb := by omega
        have hhla : h < la := by omega
        have hh0 : 20 ≤ h := by omega
        have hhca : h < ca := by omega
        have hhcb : h ≤ cb := by omega
        have HH := hid hh
        have iA : (h : Int) ≤ (la : Int) := by omega
        have iB : (h : Int) ≤ (lb : Int) := by omega
        have iC : (h : Int) ≤ (ca : Int) := by omega
        have iD : (h : Int) ≤ (cb : Int) := by omega
        rcases Nat.lt_or_ge h cb with hc | hc
        focus
          have hcI : (h : Int) < (cb : Int) := by omega
          have hcn : (cb = h) = False := by simp; omega
          have hcn2 : (h = cb) = False := by simp; omega
          have hAl := HLA.out
          have hBl := HLB.out
          have hWA1 := hWA.out.below B1.out
          have hWB1 := hWB.out.below B1.out
          rw [hAl] at hWA1
          rw [hBl] at hWB1
          have sA0 := Wd.sub hWA1 0 h (by omega)
          have sA1 := Wd.sub hWA1 h (la - h) (by omega)
          have sB0 := Wd.sub hWB1 0 h (by omega)
          have sB1 := Wd.sub hWB1 h (lb - h) (by omega)
          rw [Nat.add_zero, List.drop_zero, Nat.sub_zero] at sA0 sB0
          rw [List.take_of_length_le (by rw [List.length_drop]; omega), words_drop] at sA1 sB1
          obtain ⟨a0, ha0⟩ : ∃ a0, a0 = A % 4294967296 ^ h := ⟨_, rfl⟩
          obtain ⟨a1, ha1⟩ : ∃ a1, a1 = A / 4294967296 ^ h := ⟨_, rfl⟩
          obtain ⟨b0, hb0⟩ : ∃ b0, b0 = B % 4294967296 ^ h := ⟨_, rfl⟩
          obtain ⟨b1, hb1⟩ : ∃ b1, b1 = B / 4294967296 ^ h := ⟨_, rfl⟩
          have hp : 0 < 4294967296 ^ h := Nat.pow_pos (by decide)
          have la0 : (words a0).length ≤ h := words_len_le (by rw [ha0]; exact Nat.mod_lt _ hp)
          have lb0 : (words b0).length ≤ h := words_len_le (by rw [hb0]; exact Nat.mod_lt _ hp)
          have la1 : (words a1).length = la - h := by rw [ha1, ← words_drop, List.length_drop]; omega
          have lb1 : (words b1).length = lb - h := by rw [hb1, ← words_drop, List.length_drop]; omega
          have hHH := HH.out
          have las : (words (a0 + a1)).length ≤ h + 1 := by
            refine words_len_le ?_
            have x1 := words_lt a0
            have x2 := words_lt a1
            have x3 : 4294967296 ^ (words a0).length ≤ 4294967296 ^ h := Nat.pow_le_pow_right (by decide) la0
            have x4 : 4294967296 ^ (words a1).length ≤ 4294967296 ^ h := Nat.pow_le_pow_right (by decide) (by omega)
            rw [Nat.pow_succ]
            omega
          have lbs : (words (b0 + b1)).length ≤ h + 1 := by
            refine words_len_le ?_
            have x1 := words_lt b0
            have x2 := words_lt b1
            have x3 : 4294967296 ^ (words b0).length ≤ 4294967296 ^ h := Nat.pow_le_pow_right (by decide) lb0
            have x4 : 4294967296 ^ (words b1).length ≤ 4294967296 ^ h := Nat.pow_le_pow_right (by decide) (by omega)
            rw [Nat.pow_succ]
            omega
          have TA : Hid (∀ w', Below w1.heap.size w1 w' → Calls Tryz.prog 110 #[.slice (some ⟨ga, oa, none⟩) h ca] w' fun e w'' => ∃ v, e = .returned v ∧ Wd w' v (words a0) ∧ w'' = w') := hid fun w' hw => by
            refine (btrim _ _ w' (sA0.below hw) ((words_ok A).take h) (by rw [List.length_take]; omega)).mono ?_
            rintro e w'' ⟨v, rfl, q1, q2, q3⟩
            rw [val_take_mod, ← ha0] at q1
            exact ⟨v, rfl, q1, q3⟩
          have TB : Hid (∀ w', Below w1.heap.size w1 w' → Calls Tryz.prog 110 #[.slice (some ⟨gb, ob, none⟩) h cb] w' fun e w'' => ∃ v, e = .returned v ∧ Wd w' v (words b0) ∧ w'' = w') := hid fun w' hw => by
            refine (btrim _ _ w' (sB0.below hw) ((words_ok B).take h) (by rw [List.length_take]; omega)).mono ?_
            rintro e w'' ⟨v, rfl, q1, q2, q3⟩
            rw [val_take_mod, ← hb0] at q1
            exact ⟨v, rfl, q1, q3⟩
          have ML : Hid (∀ v1 v2 w', Wd w' v1 (words a0) → Wd w' v2 (words b0) → Calls Tryz.prog 82 #[v1, v2] w' fun e w'' => ∃ v, e = .returned v ∧ Wd w'' v (words (a0 * b0)) ∧ Fresh w'.heap.size v ∧ Below w'.heap.size w' w'') := hid fun v1 v2 w' q1 q2 => hIH.out a0 b0 (by omega) v1 v2 w' q1 q2
          have MM : Hid (∀ v1 v2 w', Wd w' v1 (words (a0 + a1)) → Wd w' v2 (words (b0 + b1)) → Calls Tryz.prog 82 #[v1, v2] w' fun e w'' => ∃ v, e = .returned v ∧ Wd w'' v (words ((a0 + a1) * (b0 + b1))) ∧ Fresh w'.heap.size v ∧ Below w'.heap.size w' w'') := hid fun v1 v2 w' q1 q2 => hIH.out (a0 + a1) (b0 + b1) (by omega) v1 v2 w' q1 q2
          have MH : Hid (∀ w', Below w1.heap.size w1 w' → Calls Tryz.prog 82 #[.slice (some ⟨ga, oa + h, none⟩) (la - h) (ca - h), .slice (some ⟨gb, ob + h, none⟩) (lb - h) (cb - h)] w' fun e w'' => ∃ v, e = .returned v ∧ Wd w'' v (words (a1 * b1)) ∧ Fresh w'.heap.size v ∧ Below w'.heap.size w' w'') := hid fun w' hw => hIH.out a1 b1 (by omega) _ _ w' (by rw [ha1]; exact sA1.below hw) (by rw [hb1]; exact sB1.below hw)
          have AA : Hid (∀ v w', Below w1.heap.size w1 w' → Wd w' v (words a0) → Calls Tryz.prog 113 #[v, .slice (some ⟨ga, oa + h, none⟩) (la - h) (ca - h)] w' fun e w'' => ∃ v', e = .returned v' ∧ Wd w'' v' (words (a0 + a1)) ∧ Fresh w'.heap.size v' ∧ Below w'.heap.size w' w'') := hid fun v w' hw q => badd v _ a0 a1 w' q (by rw [ha1]; exact sA1.below hw) (by omega) (by omega)
          have AB : Hid (∀ v w', Below w1.heap.size w1 w' → Wd w' v (words b0) → Calls Tryz.prog 113 #[v, .slice (some ⟨gb, ob + h, none⟩) (lb - h) (cb - h)] w' fun e w'' => ∃ v', e = .returned v' ∧ Wd w'' v' (words (b0 + b1)) ∧ Fresh w'.heap.size v' ∧ Below w'.heap.size w' w'') := hid fun v w' hw q => badd v _ b0 b1 w' q (by rw [hb1]; exact sB1.below hw) (by omega) (by omega)
        rotate_left
        focus
          obtain rfl : h = cb := by omega
          have hAl := HLA.out
          have hBl := HLB.out
          have hWA1 := hWA.out.below B1.out
          have hWB1 := hWB.out.below B1.out
          rw [hAl] at hWA1
          rw [hBl] at hWB1
          have sA0 := Wd.sub hWA1 0 h (by omega)
          have sA1 := Wd.sub hWA1 h (la - h) (by omega)
          have sB0 := Wd.sub hWB1 0 h (by omega)
          have sB1 : Wd w1 (.slice (some ⟨gb, ob, none⟩) 0 0) (((words B).drop h).take (lb - h)) := by
            rw [show lb - h = 0 by omega, List.take_zero]
            rcases hWB1 with ⟨q, -⟩ | ⟨g', off', cap', C, q1, q2, -⟩
            · cases q
            · simp only [Value.slice.injEq, Option.some.injEq, Addr.mk.injEq] at q1
              obtain ⟨⟨rfl, rfl, -⟩, -, -⟩ := q1
              exact .inr ⟨_, _, 0, C, rfl, q2, Nat.zero_le _, fun i x hx => by cases hx⟩
          rw [Nat.add_zero, List.drop_zero, Nat.sub_zero] at sA0 sB0
          rw [List.take_of_length_le (by rw [List.length_drop]; omega), words_drop] at sA1 sB1
          obtain ⟨a0, ha0⟩ : ∃ a0, a0 = A % 4294967296 ^ h := ⟨_, rfl⟩
          obtain ⟨a1, ha1⟩ : ∃ a1, a1 = A / 4294967296 ^ h := ⟨_, rfl⟩
          obtain ⟨b0, hb0⟩ : ∃ b0, b0 = B % 4294967296 ^ h := ⟨_, rfl⟩
          obtain ⟨b1, hb1⟩ : ∃ b1, b1 = B / 4294967296 ^ h := ⟨_, rfl⟩
          have hp : 0 < 4294967296 ^ h := Nat.pow_pos (by decide)
          have la0 : (words a0).length ≤ h := words_len_le (by rw [ha0]; exact Nat.mod_lt _ hp)
          have lb0 : (words b0).length ≤ h := words_len_le (by rw [hb0]; exact Nat.mod_lt _ hp)
          have la1 : (words a1).length = la - h := by rw [ha1, ← words_drop, List.length_drop]; omega
          have lb1 : (words b1).length = lb - h := by rw [hb1, ← words_drop, List.length_drop]; omega
          have hHH := HH.out
          have las : (words (a0 + a1)).length ≤ h + 1 := by
            refine words_len_le ?_
            have x1 := words_lt a0
            have x2 := words_lt a1
            have x3 : 4294967296 ^ (words a0).length ≤ 4294967296 ^ h := Nat.pow_le_pow_right (by decide) la0
            have x4 : 4294967296 ^ (words a1).length ≤ 4294967296 ^ h := Nat.pow_le_pow_right (by decide) (by omega)
            rw [Nat.pow_succ]
            omega
          have lbs : (words (b0 + b1)).length ≤ h + 1 := by
            refine words_len_le ?_
            have x1 := words_lt b0
            have x2 := words_lt b1
            have x3 : 4294967296 ^ (words b0).length ≤ 4294967296 ^ h := Nat.pow_le_pow_right (by decide) lb0
            have x4 : 4294967296 ^ (words b1).length ≤ 4294967296 ^ h := Nat.pow_le_pow_right (by decide) (by omega)
            rw [Nat.pow_succ]
            omega
          have TA : Hid (∀ w', Below w1.heap.size w1 w' → Calls Tryz.prog 110 #[.slice (some ⟨ga, oa, none⟩) h ca] w' fun e w'' => ∃ v, e = .returned v ∧ Wd w' v (words a0) ∧ w'' = w') := hid fun w' hw => by
            refine (btrim _ _ w' (sA0.below hw) ((words_ok A).take h) (by rw [List.length_take]; omega)).mono ?_
            rintro e w'' ⟨v, rfl, q1, q2, q3⟩
            rw [val_take_mod, ← ha0] at q1
            exact ⟨v, rfl, q1, q3⟩
          have TB : Hid (∀ w', Below w1.heap.size w1 w' → Calls Tryz.prog 110 #[.slice (some ⟨gb, ob, none⟩) h h] w' fun e w'' => ∃ v, e = .returned v ∧ Wd w' v (words b0) ∧ w'' = w') := hid fun w' hw => by
            refine (btrim _ _ w' (sB0.below hw) ((words_ok B).take h) (by rw [List.length_take]; omega)).mono ?_
            rintro e w'' ⟨v, rfl, q1, q2, q3⟩
            rw [val_take_mod, ← hb0] at q1
            exact ⟨v, rfl, q1, q3⟩
          have ML : Hid (∀ v1 v2 w', Wd w' v1 (words a0) → Wd w' v2 (words b0) → Calls Tryz.prog 82 #[v1, v2] w' fun e w'' => ∃ v, e = .returned v ∧ Wd w'' v (words (a0 * b0)) ∧ Fresh w'.heap.size v ∧ Below w'.heap.size w' w'') := hid fun v1 v2 w' q1 q2 => hIH.out a0 b0 (by omega) v1 v2 w' q1 q2
          have MM : Hid (∀ v1 v2 w', Wd w' v1 (words (a0 + a1)) → Wd w' v2 (words (b0 + b1)) → Calls Tryz.prog 82 #[v1, v2] w' fun e w'' => ∃ v, e = .returned v ∧ Wd w'' v (words ((a0 + a1) * (b0 + b1))) ∧ Fresh w'.heap.size v ∧ Below w'.heap.size w' w'') := hid fun v1 v2 w' q1 q2 => hIH.out (a0 + a1) (b0 + b1) (by omega) v1 v2 w' q1 q2
          have MH : Hid (∀ w', Below w1.heap.size w1 w' → Calls Tryz.prog 82 #[.slice (some ⟨ga, oa + h, none⟩) (la - h) (ca - h), .slice (some ⟨gb, ob, none⟩) 0 0] w' fun e w'' => ∃ v, e = .returned v ∧ Wd w'' v (words (a1 * b1)) ∧ Fresh w'.heap.size v ∧ Below w'.heap.size w' w'') := hid fun w' hw => hIH.out a1 b1 (by omega) _ _ w' (by rw [ha1]; exact sA1.below hw) (by rw [hb1]; exact sB1.below hw)
          have AA : Hid (∀ v w', Below w1.heap.size w1 w' → Wd w' v (words a0) → Calls Tryz.prog 113 #[v, .slice (some ⟨ga, oa + h, none⟩) (la - h) (ca - h)] w' fun e w'' => ∃ v', e = .returned v' ∧ Wd w'' v' (words (a0 + a1)) ∧ Fresh w'.heap.size v' ∧ Below w'.heap.size w' w'') := hid fun v w' hw q => badd v _ a0 a1 w' q (by rw [ha1]; exact sA1.below hw) (by omega) (by omega)
          have AB : Hid (∀ v w', Below w1.heap.size w1 w' → Wd w' v (words b0) → Calls Tryz.prog 113 #[v, .slice (some ⟨gb, ob, none⟩) 0 0] w' fun e w'' => ∃ v', e = .returned v' ∧ Wd w'' v' (words (b0 + b1)) ∧ Fresh w'.heap.size v' ∧ Below w'.heap.size w' w'') := hid fun v w' hw q => badd v _ b0 b1 w' q (by rw [hb1]; exact sB1.below hw) (by omega) (by omega)
        rotate_left
        all_goals
          have KR := kara (H := 4294967296 ^ h) (m := A) (n := B) (a0 := a0) (a1 := a1) (b0 := b0) (b1 := b1) (by rw [ha0, ha1]; exact (Nat.mod_add_div _ _).symm) (by rw [hb0, hb1]; exact (Nat.mod_add_div _ _).symm)
          rw [← hP.out] at KR
          obtain ⟨k1, k2, k3⟩ := KR
          have hPB : P < 4294967296 ^ (la + lb) := by
            rw [hP.out, Nat.pow_add]
            exact Nat.mul_lt_mul'' (by rw [hAl]; exact words_lt A) (by rw [hBl]; exact words_lt B)
          obtain ⟨lo, hlo⟩ : ∃ lo, lo = a0 * b0 := ⟨_, rfl⟩
          obtain ⟨hi, hhi⟩ : ∃ hi, hi = a1 * b1 := ⟨_, rfl⟩
          obtain ⟨md, hmd⟩ : ∃ md, md = (a0 + a1) * (b0 + b1) := ⟨_, rfl⟩
          have hlmd : (words md).length ≤ 2 * h + 2 := by have := mul_len (a0 + a1) (b0 + b1); rw [hmd]; omega
          rw [← hlo] at ML k1 k2 k3
          rw [← hhi] at MH k1 k3
          rw [← hmd] at MM k1 k2 k3
          have K1 := hid k1
          have K2 := hid k2
          have K3 := hid k3
          have PB := hid hPB
          clear hh h2 h41 h42 sA0 sA1 sB0 sB1 ha0 ha1 hb0 hb1 la0 lb0 la1 lb1 las lbs hp hWA1 hWB1 hAl hBl k1 k2 k3 hPB hlo hhi hmd hHH
          go_upto_region 13 with fail
          go_cut [8] from 67 to 75 (fun s wx => Hid (Wd wx s (words lo)) ∧ Hid (Fresh w1.heap.size s) ∧ Hid (Below w1.heap.size w1 wx))
          case first =>
            go_region_with (first | (go_at_call 110; (with_reducible refine (TA.out _ ?_).mono ?_); (focus exact Below.drew (Below.refl _ _)); rintro e wq ⟨va, rfl, hva, hww⟩; subst hww) | (go_at_call 110; (with_reducible refine (TB.out _ ?_).mono ?_); (focus exact Below.drew (Below.refl _ _)); rintro e wq ⟨vb, rfl, hvb, hww⟩; subst hww) | (go_at_call 82; (with_reducible refine (ML.out _ _ _ ?_ ?_).mono ?_); (focus assumption); (focus assumption); rintro e wd ⟨vd, rfl, hvd, hfd, hbd⟩))
            all_goals
              go_wp2_with fail
              go_meet
              exact ⟨hid hvd, hid hfd, hid (Below.trans (Below.drew (Below.refl _ _)) hbd)⟩
          case rest =>
            obtain ⟨hLO, hFLO, hBL⟩ := hcut
            clear ML
            obtain ⟨w2, hw2⟩ : ∃ w2, w2 = wc := ⟨_, rfl⟩
            subst hw2
            have HBL := hBL
            go_upto_region 14 with fail
            go_cut [9] from 76 to 82 (fun s wx => Hid (Wd wx s (words hi)) ∧ Hid (Fresh w1.heap.size s) ∧ Hid (Below w2.heap.size w2 wx))
            case first =>
              go_region_with (first | (go_at_call 82; (with_reducible refine (MH.out _ ?_).mono ?_); (focus exact Below.drew HBL.out); rintro e wd ⟨vd, rfl, hvd, hfd, hbd⟩))
              all_goals
                go_wp2_with fail
                go_meet
                exact ⟨hid hvd, hid (fun k hk => Nat.le_trans HBL.out.size (hfd k hk)), hid (Below.trans (Below.drew (Below.refl _ _)) hbd)⟩
            case rest =>
              obtain ⟨hHI, hFHI, hBH⟩ := hcut
              clear MH
              obtain ⟨w3, hw3⟩ : ∃ w3, w3 = wc := ⟨_, rfl⟩
              subst hw3
              have HB3 : Hid (Below w1.heap.size w1 w3) := hid (Below.trans hBL.out (below_low hBH.out hBL.out.size))
              go_upto_region 15 with fail
              go_cut [10] from 83 to 99 (fun s wx => Hid (Wd wx s (words md)) ∧ Hid (Fresh w1.heap.size s) ∧ Hid (Below w3.heap.size w3 wx))
              case first =>
                have SZ3 := hid HB3.out.size
                go_region_with (first | (go_at_call 110; (with_reducible refine (TA.out _ ?_).mono ?_); (focus (first | exact Below.drew HB3.out | exact Below.trans HB3.out (below_low (by assumption) SZ3.out))); rintro e wq ⟨va, rfl, hva, hww⟩; subst hww) | (go_at_call 110; (with_reducible refine (TB.out _ ?_).mono ?_); (focus (first | exact Below.drew HB3.out | exact Below.trans HB3.out (below_low (by assumption) SZ3.out))); rintro e wq ⟨vb, rfl, hvb, hww⟩; subst hww) | (go_at_call 113; (with_reducible refine (AA.out _ _ ?_ ?_).mono ?_); (focus (first | exact Below.drew HB3.out | exact Below.trans HB3.out (below_low (by assumption) SZ3.out))); (focus assumption); rintro e wa ⟨vsa, rfl, hvsa, hfsa, hbsa⟩; have hBA : Below w3.heap.size w3 wa := Below.trans (Below.drew (Below.refl _ _)) hbsa) | (go_at_call 113; (with_reducible refine (AB.out _ _ ?_ ?_).mono ?_); (focus (first | exact Below.drew HB3.out | exact Below.trans HB3.out (below_low (by assumption) SZ3.out))); (focus assumption); rintro e wb ⟨vsb, rfl, hvsb, hfsb, hbsb⟩; have hvsa2 := hvsa.below hbsb; have hBB : Below w3.heap.size w3 wb := Below.trans hBA (below_low hbsb hBA.size)) | (go_at_call 82; (with_reducible refine (MM.out _ _ _ ?_ ?_).mono ?_); (focus assumption); (focus assumption); rintro e wd ⟨vd, rfl, hvd, hfd, hbd⟩))
                all_goals
                  go_wp2_with fail
                  go_meet
                  exact ⟨hid hvd, hid (fun k hk => Nat.le_trans (Nat.le_trans SZ3.out hBB.size) (hfd k hk)), hid (Below.trans hBB (below_low hbd hBB.size))⟩
              case rest =>
                obtain ⟨hMD, hFMD, hBM⟩ := hcut
                clear MM AA AB TA TB
                obtain ⟨w4, hw4⟩ : ∃ w4, w4 = wc := ⟨_, rfl⟩
                subst hw4
                have hB4 : Below w1.heap.size w1 w4 := Below.trans HB3.out (below_low hBM.out HB3.out.size)
                have hL4 : Wd w4 u8 (words lo) := (hLO.out.below hBH.out).below hBM.out
                have hH4 : Wd w4 u9 (words hi) := hHI.out.below hBM.out
                have hlmd2 := hlmd
                have S1 := hid (bsub u10 u8 md lo w4 hMD.out hL4 (by omega) K2.out)
                have S2 := hid (fun v w' (hw : Below w4.heap.size w4 w') (q : Wd w' v (words (md - lo))) => bsub v u9 (md - lo) hi w' q (hH4.below hw) (by have := len_mono (Nat.sub_le md lo); omega) K1.out)
                obtain ⟨mm, hmm⟩ : ∃ mm, mm = md - lo - hi := ⟨_, rfl⟩
                rw [← hmm] at S2
                have hK3 := K3.out
                rw [← hmm] at hK3
                have hgo1 : go < w1.heap.size := RO.out.lt
                obtain ⟨hh, hhh⟩ : ∃ hh, hh = 2 * h := ⟨_, rfl⟩
                have hhI : (2 : Int) * (h : Int) = (hh : Int) := by omega
                have hpp : 4294967296 ^ hh = 4294967296 ^ h * 4294967296 ^ h := by rw [← Nat.pow_add]; congr 1; omega
                rw [← hpp] at hK3
                have hPN : P < 4294967296 ^ (la + lb + 1) := Nat.lt_of_lt_of_le PB.out (Nat.pow_le_pow_right (by decide) (by omega))
                have A1 : Hid (∀ w', Below w1.heap.size w1 w' → Wd w' u8 (words lo) → Calls Tryz.prog 112 #[.slice (some ⟨go, 0, none⟩) (la + lb + 1) (la + lb + 1), u8, .int .i64 0] w' fun e w'' => e = .returned (.tuple #[]) ∧ ∃ L', L'.length = la + lb + 1 ∧ Wok L' ∧ val L' = lo ∧ Ro w'' go L' ∧ Keeps w'.heap.size [go] w' w'') := hid fun w' hw q => by
                  have hz : (List.replicate (la + lb + 1) 0).length = la + lb + 1 := by simp
                  refine (baddAt go 0 (la + lb + 1) (List.replicate (la + lb + 1) 0) u8 lo w' (RO.out.keep hw) (Wok.rep _) q (fun k hk => by have := hFLO.out k hk; omega) (Nat.zero_le _) (by rw [val_rep, hz]; omega) (by rw [hz]; omega) (la + lb + 1) hz.symm).mono ?_
                  rintro e w'' ⟨rfl, L', l1, l2, l3, l4, l5⟩
                  exact ⟨rfl, L', by rw [l1, hz], l2, by rw [l3, val_rep]; omega, l4, l5⟩
                have A2 : Hid (∀ v L w', Ro w' go L → L.length = la + lb + 1 → Wok L → val L = lo → Wd w' v (words mm) → Fresh w1.heap.size v → Calls Tryz.prog 112 #[.slice (some ⟨go, 0, none⟩) (la + lb + 1) (la + lb + 1), v, .int .i64 h] w' fun e w'' => e = .returned (.tuple #[]) ∧ ∃ L', L'.length = la + lb + 1 ∧ Wok L' ∧ val L' = lo + 4294967296 ^ h * mm ∧ Ro w'' go L' ∧ Keeps w'.heap.size [go] w' w'') := hid fun v L w' q1 q2 q3 q4 q5 q6 => by
                  refine (baddAt go h (la + lb + 1) L v mm w' q1 q3 q5 (fun k hk => by have := q6 k hk; omega) (by omega) (by rw [q4, q2]; omega) (by omega) (la + lb + 1) q2.symm).mono ?_
                  rintro e w'' ⟨rfl, L', l1, l2, l3, l4, l5⟩
                  exact ⟨rfl, L', by rw [l1, q2], l2, by rw [l3, q4], l4, l5⟩
                have A3 : Hid (∀ L w', Ro w' go L → L.length = la + lb + 1 → Wok L → val L = lo + 4294967296 ^ h * mm → Wd w' u9 (words hi) → Calls Tryz.prog 112 #[.slice (some ⟨go, 0, none⟩) (la + lb + 1) (la + lb + 1), u9, .int .i64 hh] w' fun e w'' => e = .returned (.tuple #[]) ∧ ∃ L', L'.length = la + lb + 1 ∧ Wok L' ∧ val L' = P ∧ Ro w'' go L' ∧ Keeps w'.heap.size [go] w' w'') := hid fun L w' q1 q2 q3 q4 q5 => by
                  refine (baddAt go hh (la + lb + 1) L u9 hi w' q1 q3 q5 (fun k hk => by have := hFHI.out k hk; omega) (by omega) (by rw [q4, q2]; omega) (by omega) (la + lb + 1) q2.symm).mono ?_
                  rintro e w'' ⟨rfl, L', l1, l2, l3, l4, l5⟩
                  exact ⟨rfl, L', by rw [l1, q2], l2, by rw [l3, q4, hK3], l4, l5⟩
                have TR : Hid (∀ L w', Ro w' go L → L.length = la + lb + 1 → Wok L → val L = P → Calls Tryz.prog 110 #[.slice (some ⟨go, 0, none⟩) (la + lb + 1) (la + lb + 1)] w' fun e w'' => ∃ v, e = .returned v ∧ Wd w'' v (words P) ∧ v.ownBlock = some go ∧ w'' = w') := hid fun L w' q1 q2 q3 q4 => by
                  have hW := q1.wd (cap := la + lb + 1) (by omega)
                  rw [q2] at hW
                  refine (btrim _ L w' hW q3 (by omega)).mono ?_
                  rintro e w'' ⟨v, rfl, r1, r2, rfl⟩
                  rw [q4] at r1
                  exact ⟨v, rfl, r1, r2, rfl⟩
                have HB4 := hid hB4
                have HH4 := hid hH4
                have HL4 := hid hL4
                have HGO1 := hid hgo1
                clear hB4 hL4 hH4 hK3 hpp hPN hmm hhh hlmd2 hlmd hgo1
                go_wp2_with (first | (go_at_call 114; (with_reducible refine S1.out.mono ?_); rintro e w5 ⟨v5, rfl, h51, h52, h53⟩) | (go_at_call 114; (with_reducible refine (S2.out v5 w5 h53 h51).mono ?_); rintro e w6 ⟨v6, rfl, h61, h62, h63⟩; have hB6 : Below w4.heap.size w4 w6 := Below.trans h53 (below_low h63 h53.size); have hW6 : Below w1.heap.size w1 w6 := Below.trans HB4.out (below_low hB6 HB4.out.size); have hF6 : Fresh w1.heap.size v6 := fun k hk => Nat.le_trans (Nat.le_trans HB4.out.size h53.size) (h62 k hk)) | (go_at_call 112; (with_reducible refine (A1.out w6 hW6 (HL4.out.below hB6)).mono ?_); rintro e w7 ⟨rfl, L1, l11, l12, l13, l14, l15⟩; have hm7 := h61.keep l15 (Nat.le_refl _) (fun k hk => by have := hF6 k hk; have := HGO1.out; simp; omega); have hh7 := (HH4.out.below hB6).keep l15 (Nat.le_refl _) (fun k hk => by have := hFHI.out k hk; have := HGO1.out; simp; omega)) | (go_at_call 112; (with_reducible refine (A2.out v6 L1 w7 l14 l11 l12 l13 hm7 hF6).mono ?_); rintro e w8 ⟨rfl, L2, l21, l22, l23, l24, l25⟩; have hh8 := hh7.keep l25 (Nat.le_refl _) (fun k hk => by have := hFHI.out k hk; have := HGO1.out; simp; omega)) | (go_at_call 112; (with_reducible refine (A3.out L2 w8 l24 l21 l22 l23 hh8).mono ?_); rintro e w9 ⟨rfl, L3, l31, l32, l33, l34, l35⟩) | (go_at_call 110; (with_reducible refine (TR.out L3 w9 l34 l31 l32 l33).mono ?_); rintro e wz ⟨vz, rfl, hz1, hz2, hwz⟩; subst hwz))
                go_ret
                refine ⟨vz, rfl, hz1, ?_, ?_⟩
                · intro k hk
                  rw [hz2] at hk
                  obtain rfl := Option.some.inj hk
                  have := HGO.out
                  omega
                · have k1 : Keeps w1.heap.size [go] w1 wz := ((((Keeps.of_below hW6).trans (l15.mono hW6.size (fun _ _ h => h))).trans (l25.mono (Nat.le_trans hW6.size l15.size) (fun _ _ h => h))).trans (l35.mono (Nat.le_trans (Nat.le_trans hW6.size l15.size) l25.size) (fun _ _ h => h)))
                  exact ((Keeps.of_below (S := []) B1.out).trans (k1.mono B1.out.size (fun k hk hs => by have := HGO.out; simp at hs; omega))).below
/-- The product of words. -/
theorem bmul : ∀ (k m n : Nat), (words m).length + (words n).length ≤ k → k ≤ 137438953472 → MulC m n := by
  intro k
  induction k using Nat.strongRecOn with
  | _ k ih =>
    intro m n h1 h2
    refine bmul_step m n (by omega) (fun m' n' h => ?_)
    exact ih ((words m').length + (words n').length) (by omega) m' n' (Nat.le_refl _) (by omega)
theorem bmulW (va vb : Value) (m n : Nat) (w : World) (ha : Wd w va (words m)) (hb : Wd w vb (words n)) (hl : (words m).length + (words n).length ≤ 137438953472) :
    Calls Tryz.prog 82 #[va, vb] w fun e w' => ∃ v, e = .returned v ∧ Wd w' v (words (m * n)) ∧ Fresh w.heap.size v ∧ Below w.heap.size w w' :=
  bmul _ m n (Nat.le_refl _) hl va vb w ha hb
end Big
end
section
open Go.RowKit
namespace Big
/-- A block of other things than words. -/
def Bk (w : World) (g : Nat) (L : List Value) (T : Nat) : Prop := w.heap[g]? = some (.cells L.toArray T (0, 0)) ∧ T ≠ 129
theorem Bk.lt {w : World} {g T : Nat} {L : List Value} (h : Bk w g L T) : g < w.heap.size := lt_of_block h.1
theorem Bk.cell {w : World} {g T : Nat} {L : List Value} (h : Bk w g L T) {i : Nat} {x : Value} (hx : L[i]? = some x) : w.cell? ⟨g, i, none⟩ = some x := by
  rw [cell_of_block h.1]; simpa using hx
theorem Bk.free {w : World} {g T : Nat} {L : List Value} (h : Bk w g L T) (i : Nat) : w.frozen? ⟨g, i, none⟩ = false := free_of_block h.1 i
theorem Bk.set {w : World} {g T : Nat} {L : List Value} (h : Bk w g L T) (i : Nat) (x : Value) : Bk (w.setCell ⟨g, i, none⟩ x) g (L.set i x) T := by
  refine ⟨?_, h.2⟩
  have := set_of_block h.1 i x
  rw [List.setIfInBounds_toArray] at this
  exact this
theorem Bk.keep {w w' : World} {g T B : Nat} {S : List Nat} {L : List Value} (h : Bk w g L T) (k : Keeps B S w w') (hB : w.heap.size ≤ B) (hS : g ∉ S) : Bk w' g L T := ⟨(k.block g (Nat.lt_of_lt_of_le h.lt hB) hS).trans h.1, h.2⟩
theorem Bk.below {w w' : World} {g T : Nat} {L : List Value} (h : Bk w g L T) (b : Below w.heap.size w w') : Bk w' g L T := ⟨(b.block g h.lt).trans h.1, h.2⟩
theorem Wd.apart {w : World} {v : Value} {l : List Nat} {g T : Nat} {L : List Value} (h : Wd w v l) (b : Bk w g L T) : ∀ k, v.ownBlock = some k → k ≠ g := by
  intro k hk e
  subst e
  rcases h with ⟨rfl, -⟩ | ⟨g', off, cap, C, rfl, h2, -⟩
  · cases hk
  · simp only [Value.ownBlock, Option.some.injEq] at hk
    subst hk
    have := h2.symm.trans b.1
    simp only [Option.some.injEq, Obj.cells.injEq] at this
    exact b.2 this.2.1.symm
theorem Wd.keepB {w w' : World} {v : Value} {l : List Nat} {g T : Nat} {L : List Value} (h : Wd w v l) (b : Bk w g L T) (k : Keeps w.heap.size [g] w w') : Wd w' v l := h.keep k (Nat.le_refl _) (fun q hq => by have := h.apart b q hq; simpa using this)
theorem Wd.setB {w : World} {v : Value} {l : List Nat} {g T : Nat} {L : List Value} (h : Wd w v l) (b : Bk w g L T) (i : Nat) (x : Value) : Wd (w.setCell ⟨g, i, none⟩ x) v l := h.set (h.apart b) i x

theorem words_one : words 1 = [1] := by rw [words_pos (by decide)]; simp [words_0]
/-- What stands below the line: no words are one. -/
def Dn (w : World) (d : Value) (n : Nat) : Prop := (Wd w d [] ∧ n = 1) ∨ Wd w d (words n)
set_option maxRecDepth 100000 in
set_option maxHeartbeats 4000000 in
theorem biset (g T : Nat) (x y : Value) (R : List Value) (b : Bool) (v : Value) (n : Nat) (w : World) (hb : Bk w g (x :: y :: R) T) (hv : Wd w v (words n)) (hn : (words n).length ≤ 1099511627776) :
    Calls Tryz.prog 81 #[.pointer (some ⟨g, 0, none⟩), .bool b, v] w fun e w' => ∃ v', e = .returned (.pointer (some ⟨g, 0, none⟩)) ∧ Bk w' g (.bool (b && decide (n ≠ 0)) :: v' :: R) T ∧ Wd w' v' (words n) ∧ v'.ownBlock = v.ownBlock ∧ Keeps w.heap.size [g] w w' := by
  have TR : Calls Tryz.prog 110 #[v] w fun e w' => ∃ a c, e = .returned (.slice a (words n).length c) ∧ Wd w (.slice a (words n).length c) (words n) ∧ (Value.slice a (words n).length c).ownBlock = v.ownBlock ∧ w' = w := by
    refine (btrim v (words n) w hv (words_ok n) hn).mono ?_
    rintro e w' ⟨v', rfl, h1, h2, rfl⟩
    rw [val_words] at h1
    obtain ⟨a, c, rfl, -, -⟩ := h1.form
    exact ⟨a, c, rfl, h1, h2, rfl⟩
  have c0 := hb.cell (i := 0) rfl
  have c1 := hb.cell (i := 1) rfl
  have f0 := hb.free 0
  have f1 := hb.free 1
  haveI : Has w g := ⟨hb.lt⟩
  have HB := hid hb
  have hl : (words n).length = 0 ↔ n = 0 := words_len0
  generalize (words n).length = ln at TR hl hn
  have HL := hid hl
  clear hb hl
  rcases Nat.eq_zero_or_pos ln with rfl | hp
  · have hd : decide (n ≠ 0) = false := decide_eq_false (fun h => h (HL.out.1 rfl))
    have HD := hid hd
    clear hd
    cases b with
    | false =>
      go_enter Tryz.func81, Tryz.ntmps81
      go_wp2_with (go_at_call 110; refine TR.mono ?_; rintro e w' ⟨a, c, rfl, h1, h2, hw⟩; obtain rfl := hw.symm)
      go_ret
      have b1 := HB.out.set 1 (.slice a 0 c)
      have b2 := b1.set 0 (.bool false)
      exact ⟨_, rfl, by rw [HD.out]; exact b2, (h1.setB HB.out _ _).setB b1 _ _, h2, ((Keeps.refl _ _ _).set (Or.inl (by simp)) _ _).set (Or.inl (by simp)) _ _⟩
    | true =>
      go_enter Tryz.func81, Tryz.ntmps81
      go_wp2_with (go_at_call 110; refine TR.mono ?_; rintro e w' ⟨a, c, rfl, h1, h2, hw⟩; obtain rfl := hw.symm)
      go_ret
      have b1 := HB.out.set 1 (.slice a 0 c)
      have b2 := b1.set 0 (.bool false)
      exact ⟨_, rfl, by rw [HD.out]; exact b2, (h1.setB HB.out _ _).setB b1 _ _, h2, ((Keeps.refl _ _ _).set (Or.inl (by simp)) _ _).set (Or.inl (by simp)) _ _⟩
  · have hd : decide (n ≠ 0) = true := decide_eq_true (fun h => by have := HL.out.2 h; omega)
    have HD := hid hd
    have hpI : (0 : Int) < (ln : Int) := by omega
    clear hd
    cases b with
    | false =>
      go_enter Tryz.func81, Tryz.ntmps81
      go_wp2_with (go_at_call 110; refine TR.mono ?_; rintro e w' ⟨a, c, rfl, h1, h2, hw⟩; obtain rfl := hw.symm)
      go_ret
      have b1 := HB.out.set 1 (.slice a ln c)
      have b2 := b1.set 0 (.bool false)
      exact ⟨_, rfl, by rw [HD.out]; exact b2, (h1.setB HB.out _ _).setB b1 _ _, h2, ((Keeps.refl _ _ _).set (Or.inl (by simp)) _ _).set (Or.inl (by simp)) _ _⟩
    | true =>
      go_enter Tryz.func81, Tryz.ntmps81
      go_wp2_with (go_at_call 110; refine TR.mono ?_; rintro e w' ⟨a, c, rfl, h1, h2, hw⟩; obtain rfl := hw.symm)
      go_ret
      have b1 := HB.out.set 1 (.slice a ln c)
      have b2 := b1.set 0 (.bool true)
      exact ⟨_, rfl, by rw [HD.out]; exact b2, (h1.setB HB.out _ _).setB b1 _ _, h2, ((Keeps.refl _ _ _).set (Or.inl (by simp)) _ _).set (Or.inl (by simp)) _ _⟩
set_option maxRecDepth 100000 in
set_option maxHeartbeats 4000000 in
theorem bbelow (g : Nat) (x y d : Value) (n : Nat) (w : World) (hb : Bk w g [x, y, d] 76) (hd : Dn w d n) (hn0 : n ≠ 0) :
    Calls Tryz.prog 117 #[.pointer (some ⟨g, 0, none⟩)] w fun e w' => ∃ v, e = .returned v ∧ Wd w' v (words n) ∧ Below w.heap.size w w' := by
  have c2 := hb.cell (i := 2) rfl
  haveI : Has w g := ⟨hb.lt⟩
  rcases hd with ⟨hd0, rfl⟩ | hd
  · obtain ⟨a0, k0, hd1, -, -⟩ := hd0.form
    rw [List.length_nil] at hd1
    subst hd1
    clear hd0
    have R1 : Hid (Wd (w.alloc (.cells #[.int .u32 1] 129)) (.slice (some ⟨w.heap.size, 0, none⟩) 1 1) (words 1)) := hid (by
      have r : Ro (w.alloc (.cells #[.int .u32 1] 129)) w.heap.size [1] := by unfold Ro; simp only [block_at]; rfl
      rw [words_one]
      exact r.wd (cap := 1) (Nat.le_refl _))
    go_enter Tryz.func117, Tryz.ntmps117
    go_wp2_with fail
    go_ret
    exact ⟨_, rfl, R1.out, Below.alloc (Below.refl _ _) (Nat.le_refl _) _⟩
  · have HD := hid hd
    obtain ⟨a, c, rfl, -, -⟩ := hd.form
    have hl : (words n).length ≠ 0 := fun e => hn0 (words_len0.1 e)
    generalize (words n).length = ln at *
    have hpI : (0 : Int) < (ln : Int) := by omega
    have hne : ((ln : Int) == 0) = false := beq_eq_false_iff_ne.2 (by omega)
    clear hd hl
    go_enter Tryz.func117, Tryz.ntmps117
    go_wp2_with fail
    go_ret
    exact ⟨_, rfl, HD.out, Below.refl _ _⟩
end Big
end
section
open Go.RowKit
namespace Big
def sg (b : Bool) (m : Nat) : Int := if b then -(m : Int) else m
theorem sg_abs (b : Bool) (m : Nat) : (sg b m).natAbs = m := by cases b <;> simp [sg]
theorem sg_neg (b : Bool) (m : Nat) : decide (sg b m < 0) = (b && decide (m ≠ 0)) := by
  cases b
  · simp [sg]
  · simp only [sg, if_true, Bool.true_and]
    by_cases h : m = 0
    · subst h; rfl
    · rw [decide_eq_true h, decide_eq_true (by omega)]
theorem sg_of (x : Int) : x = sg (decide (x < 0)) x.natAbs := by
  by_cases h : x < 0
  · rw [decide_eq_true h]; simp only [sg, if_true]; omega
  · rw [decide_eq_false h]; simp only [sg, Bool.false_eq_true, if_false]; omega
theorem rat_mk {num : Int} {den : Nat} (hd : den ≠ 0) (hc : num.natAbs.Coprime den) {r : _root_.Rat} (h : r = mkRat num den) : r.num = num ∧ r.den = den := by
  rw [← Rat.mk_eq_mkRat num den hd hc] at h
  subst h
  exact ⟨rfl, rfl⟩
theorem sg_div (b : Bool) (m g : Nat) (h : g ∣ m) : sg b m / (g : Int) = sg b (m / g) := by
  cases b
  · simp [sg]
  · simp only [sg, if_true]
    obtain ⟨k, rfl⟩ := h
    rcases Nat.eq_zero_or_pos g with h0 | h0
    · subst h0; simp
    · rw [Nat.mul_div_cancel_left _ h0, Int.natCast_mul, ← Int.mul_neg, Int.mul_ediv_cancel_left _ (by omega)]
theorem mk_parts (b : Bool) (m n : Nat) (hn : n ≠ 0) : (mkRat (sg b m) n).num = sg b (m / Nat.gcd m n) ∧ (mkRat (sg b m) n).den = n / Nat.gcd m n := by
  rw [Rat.mkRat_def, dif_neg hn, Rat.normalize_eq hn]
  simp only [sg_abs]
  exact ⟨sg_div b m _ (Nat.gcd_dvd_left m n), trivial⟩
/-- A fraction in memory. -/
def Ra (R : Nat) (w : World) (g : Nat) (r : _root_.Rat) : Prop := ∃ v d, Bk w g [.bool (decide (r.num < 0)), v, d] R ∧ Wd w v (words r.num.natAbs) ∧ Dn w d r.den
theorem Dn.keepB {w w' : World} {d : Value} {n g T : Nat} {L : List Value} (h : Dn w d n) (b : Bk w g L T) (k : Keeps w.heap.size [g] w w') : Dn w' d n := h.imp (fun h => ⟨h.1.keepB b k, h.2⟩) (fun h => h.keepB b k)
theorem Dn.below {w w' : World} {d : Value} {n : Nat} (h : Dn w d n) (b : Below w.heap.size w w') : Dn w' d n := h.imp (fun h => ⟨h.1.below b, h.2⟩) (fun h => h.below b)
theorem Ra.below {R : Nat} {w w' : World} {g : Nat} {r : _root_.Rat} (h : Ra R w g r) (b : Below w.heap.size w w') : Ra R w' g r := by
  obtain ⟨v, d, h1, h2, h3⟩ := h
  exact ⟨v, d, h1.below b, h2.below b, h3.below b⟩
theorem Ra.keep {R : Nat} {w w' : World} {g k T : Nat} {r : _root_.Rat} {L : List Value} (h : Ra R w g r) (b : Bk w k L T) (kp : Keeps w.heap.size [k] w w') (hk : g ≠ k) : Ra R w' g r := by
  obtain ⟨v, d, h1, h2, h3⟩ := h
  exact ⟨v, d, h1.keep kp (Nat.le_refl _) (by simpa using hk), h2.keepB b kp, h3.keepB b kp⟩
theorem slice_open {w : World} {a : Option Addr} {n c : Nat} {l : List Nat} (h : Wd w (.slice a n c) l) : 0 < l.length → ∃ g off, a = some ⟨g, off, none⟩ ∧ g < w.heap.size ∧ ∀ (i x : Nat), l[i]? = some x → w.cell? ⟨g, off + i, none⟩ = some (.int .u32 x) := by
  obtain ⟨a', c', e, -, h2⟩ := h.form
  simp only [Value.slice.injEq] at e
  obtain ⟨rfl, -, -⟩ := e
  exact h2
theorem one_cases (n : Nat) : ((words n).length ≠ 1 ∧ n ≠ 1) ∨ (∃ x, words n = [x] ∧ x ≠ 1 ∧ n ≠ 1) ∨ (words n = [1] ∧ n = 1) := by
  rcases Nat.lt_or_ge 1 (words n).length with h | h
  · exact .inl ⟨by omega, fun e => by rw [e, words_one] at h; simp at h⟩
  · cases hw : words n with
    | nil =>
      refine .inl ⟨by simp, fun e => ?_⟩
      rw [e, words_one] at hw; cases hw
    | cons x l =>
      rw [hw] at h
      have : l = [] := List.length_eq_zero_iff.1 (by simpa using h)
      subst this
      have hx := words_1 hw
      subst hx
      by_cases h1 : n = 1
      · subst h1; exact .inr (.inr ⟨rfl, rfl⟩)
      · exact .inr (.inl ⟨n, rfl, h1, h1⟩)
set_option maxRecDepth 100000 in
set_option maxHeartbeats 4000000 in
theorem bone (v : Value) (n : Nat) (w : World) (hv : Wd w v (words n)) : Calls Tryz.prog 135 #[v] w fun e w' => e = .returned (.bool (decide (n = 1))) ∧ w' = w := by
  obtain ⟨a, c, rfl, hc, hx⟩ := hv.form
  rcases one_cases n with ⟨h1, h2⟩ | ⟨x, h1, h2, h3⟩ | ⟨h1, h2⟩
  · have e := hid (decide_eq_false h2)
    generalize (words n).length = ln at *
    have hne : ((ln : Int) == 1) = false := beq_eq_false_iff_ne.2 (by omega)
    clear h2 hx hv
    go_enter Tryz.func135, Tryz.ntmps135
    go_wp2_with fail
    go_ret
    exact ⟨by rw [e.out]; rfl, rfl⟩
  · have e := hid (decide_eq_false h3)
    rw [h1] at hx hc ⊢
    obtain ⟨g, o, rfl, hg, hx⟩ := hx (by simp)
    have c0 := hx 0 x rfl
    rw [Nat.add_zero] at c0
    haveI : Has w g := ⟨hg⟩
    have hx1 : ((x : Int) == 1) = false := beq_eq_false_iff_ne.2 (by omega)
    clear hx h3 h2 hv h1
    go_enter Tryz.func135, Tryz.ntmps135
    go_wp2_with fail
    go_ret
    exact ⟨by rw [e.out]; rfl, rfl⟩
  · have e := hid (decide_eq_true h2)
    rw [h1] at hx hc ⊢
    obtain ⟨g, o, rfl, hg, hx⟩ := hx (by simp)
    have c0 := hx 0 1 rfl
    rw [Nat.add_zero] at c0
    haveI : Has w g := ⟨hg⟩
    clear hx h2 hv h1
    go_enter Tryz.func135, Tryz.ntmps135
    go_wp2_with fail
    go_ret
    exact ⟨by rw [e.out]; rfl, rfl⟩
set_option maxRecDepth 100000 in
set_option maxHeartbeats 4000000 in
theorem bby (va vk : Value) (m k : Nat) (w : World) (ha : Wd w va (words m)) (hk : Wd w vk (words k)) (hm : (words m).length ≤ 137438953472) (hkl : (words k).length ≤ 137438953472) (h0 : k ≠ 0) :
    Calls Tryz.prog 121 #[va, vk] w fun e w' => ∃ v, e = .returned v ∧ Wd w' v (words (m / k)) ∧ Below w.heap.size w w' := by
  have O := bone vk k w hk
  have D := bdiv va vk m k w ha hk hm hkl h0
  by_cases h1 : k = 1
  · subst h1
    rw [Nat.div_one]
    have HA := hid ha
    have e : decide (1 = 1) = true := rfl
    rw [e] at O
    clear D ha
    go_enter Tryz.func121, Tryz.ntmps121
    go_wp2_with (go_at_call 135; refine O.mono ?_; rintro e w' ⟨rfl, hw⟩; obtain rfl := hw.symm)
    go_ret
    exact ⟨_, rfl, HA.out, Below.refl _ _⟩
  · have e : decide (k = 1) = false := decide_eq_false h1
    rw [e] at O
    clear h1 e ha hk
    go_enter Tryz.func121, Tryz.ntmps121
    go_wp2_with (first | (go_at_call 135; refine O.mono ?_; rintro e w' ⟨rfl, hw⟩; obtain rfl := hw.symm) | (go_at_call 132; refine D.mono ?_; rintro e w' ⟨q, r, rfl, hq, -, -, -, hb⟩))
    go_ret
    exact ⟨_, rfl, hq, hb⟩
theorem btrimW (v : Value) (n : Nat) (w : World) (hv : Wd w v (words n)) (hn : (words n).length ≤ 1099511627776) :
    Calls Tryz.prog 110 #[v] w fun e w' => ∃ a c, e = .returned (.slice a (words n).length c) ∧ Wd w (.slice a (words n).length c) (words n) ∧ w' = w := by
  refine (btrim v (words n) w hv (words_ok n) hn).mono ?_
  rintro e w' ⟨v', rfl, h1, h2, rfl⟩
  rw [val_words] at h1
  obtain ⟨a, c, rfl, -, -⟩ := h1.form
  exact ⟨a, c, rfl, h1, rfl⟩
theorem bisetR (g : Nat) (x y d : Value) (b : Bool) (v : Value) (n : Nat) (w : World) (hb : Bk w g [x, y, d] 76) (hv : Wd w v (words n)) (hn : (words n).length ≤ 1099511627776) :
    Calls Tryz.prog 81 #[.pointer (some ⟨g, 0, none⟩), .bool b, v] w fun e w' => ∃ v', e = .returned (.pointer (some ⟨g, 0, none⟩)) ∧ Bk w' g [.bool (b && decide (n ≠ 0)), v', d] 76 ∧ Wd w' v' (words n) ∧ Keeps w.heap.size [g] w w' :=
  (biset g 76 x y [d] b v n w hb hv hn).mono (by
    rintro e w' ⟨v', rfl, h1, h2, -, h3⟩
    exact ⟨v', rfl, h1, h2, h3⟩)
set_option maxRecDepth 100000 in
set_option maxHeartbeats 8000000 in
theorem brset (g : Nat) (x y d0 : Value) (b : Bool) (va vd : Value) (m n : Nat) (w : World) (hb : Bk w g [x, y, d0] 76) (ha : Wd w va (words m)) (hd : Wd w vd (words n)) (hn0 : n ≠ 0) (hm : (words m).length ≤ 137438953472) (hn : (words n).length ≤ 137438953472) (hvr : Vr w) :
    Calls Tryz.prog 91 #[.pointer (some ⟨g, 0, none⟩), .bool b, va, vd] w fun e w' => e = .returned (.pointer (some ⟨g, 0, none⟩)) ∧ Ra 76 w' g (mkRat (sg b m) n) ∧ Keeps w.heap.size [g] w w' := by
  have TRa := btrimW va m w ha (by omega)
  have TRd := btrimW vd n w hd (by omega)
  haveI : Has w g := ⟨hb.lt⟩
  have HB := hid hb
  have MP := mk_parts b m n hn0
  obtain ⟨r, hr⟩ : ∃ r, r = mkRat (sg b m) n := ⟨_, rfl⟩
  rw [← hr] at MP ⊢
  by_cases hm0 : m = 0
  · subst hm0
    have hz : (words 0).length = 0 := by rw [words_0]; rfl
    rw [hz] at TRa
    rw [Nat.gcd_zero_left, Nat.zero_div, Nat.div_self (by omega)] at MP
    have MPH := hid MP
    have IS := bisetR g x y d0 false (.slice none 0 0) 0 w hb (by rw [words_0]; exact Wd.nil _) (by rw [hz]; omega)
    clear hr MP hz ha hd hb
    generalize (words n).length = ln at TRd
    go_enter Tryz.func91, Tryz.ntmps91
    go_wp2_with (first | (go_at_call 110; (with_reducible refine TRa.mono ?_); rintro e w' ⟨a1, c1, rfl, hW1, hw⟩; obtain rfl := hw.symm) | (go_at_call 110; (with_reducible refine TRd.mono ?_); rintro e w' ⟨a2, c2, rfl, hW2, hw⟩; obtain rfl := hw.symm) | (go_at_call 81; (with_reducible refine IS.mono ?_); rintro e w3 ⟨v3, rfl, hB3, hv3, hK3⟩; have f2 := hB3.free 2; have c2' := hB3.cell (i := 2) rfl; haveI : Has w3 g := ⟨hB3.lt⟩))
    go_ret
    have hB4 := hB3.set 2 (.slice none 0 0)
    refine ⟨rfl, ⟨v3, .slice none 0 0, ?_, ?_, .inl ⟨Wd.nil _, ?_⟩⟩, hK3.trans (((Keeps.refl _ _ _).set (Or.inl (by simp)) _ _).mono hK3.size (fun _ _ h => h))⟩
    · rw [MPH.out.1, sg_neg]; cases b <;> exact hB4
    · rw [MPH.out.1, sg_abs]; exact hv3.setB hB3 _ _
    · exact MPH.out.2
  · have hl : (words m).length ≠ 0 := fun e => hm0 (words_len0.1 e)
    have hne : (((words m).length : Int) == 0) = false := beq_eq_false_iff_ne.2 (by omega)
    have G0 : Hid (Nat.gcd m n ≠ 0) := hid (fun e => hm0 (Nat.eq_zero_of_gcd_eq_zero_left e))
    have LG : Hid ((words (Nat.gcd m n)).length ≤ 137438953472) := hid (by
      have h := Nat.gcd_le_left n (Nat.pos_of_ne_zero hm0)
      have := len_mono h
      omega)
    have LM : Hid ((words (m / Nat.gcd m n)).length ≤ 1099511627776) := hid (by
      have := len_mono (Nat.div_le_self m (Nat.gcd m n))
      omega)
    have MN : Hid (decide (m / Nat.gcd m n ≠ 0) = true) := hid (decide_eq_true (by
      have h := Nat.gcd_le_left n (Nat.pos_of_ne_zero hm0)
      have h2 := G0.out
      have := (Nat.div_pos h (Nat.pos_of_ne_zero h2))
      omega))
    have MPH := hid MP
    have HL := hid hm
    have HLN := hid hn
    have HN0 := hid hn0
    have HM0 := hid hm0
    have CO := hid (fun va' vd' w' (h : Below w.heap.size w w') (q1 : Wd w' va' (words m)) (q2 : Wd w' vd' (words n)) => bcommon va' vd' m n w' q1 q2 HL.out HLN.out (hvr.below h))
    clear hr MP ha hd hb hl
    go_enter Tryz.func91, Tryz.ntmps91
    go_upto_region 8 with (first | (go_at_call 110; (with_reducible refine TRa.mono ?_); rintro e w' ⟨a1, c1, rfl, hW1, hw⟩; obtain rfl := hw.symm) | (go_at_call 110; (with_reducible refine TRd.mono ?_); rintro e w' ⟨a2, c2, rfl, hW2, hw⟩; obtain rfl := hw.symm) | (go_at_call 120; (with_reducible refine (CO.out _ _ _ (Below.refl _ _) hW1 hW2).mono ?_); rintro e w1 ⟨vg, rfl, hWg, hFg, hbg⟩))
    generalize Nat.gcd m n = G at *
    haveI : Has w1 g := ⟨Nat.lt_of_lt_of_le HB.out.lt hbg.size⟩
    have HB1 := hid (HB.out.below hbg)
    have BG := hid hbg
    have BY1 := hid (fun w' (h : Below w1.heap.size w1 w') => bby _ _ m G w' ((hW1.below hbg).below h) (hWg.below h) HL.out LG.out G0.out)
    have W2H := hid (hW2.below hbg)
    have WGH := hid hWg
    have c0 := HB1.out.cell (i := 0) rfl
    clear hW1 hW2 hWg hFg hbg TRa TRd CO
    go_cut [] from 28 to 35 (fun wx => ∃ v', Hid (Bk wx g [.bool (b && decide (m / G ≠ 0)), v', d0] 76) ∧ Hid (Wd wx v' (words (m / G))) ∧ Hid (Keeps w1.heap.size [g] w1 wx))
    case first =>
      go_region_with (first | (go_at_call 121; (with_reducible refine (BY1.out _ ?_).mono ?_); (focus exact Below.drew (Below.refl _ _)); rintro e w2 ⟨v2, rfl, hv2, hb2⟩; have hB2 : Below w1.heap.size w1 w2 := Below.trans (Below.drew (Below.refl _ _)) hb2; have hBk2 := HB1.out.below hB2) | (go_at_call 81; (with_reducible refine (bisetR g x y d0 b v2 (m / G) w2 hBk2 hv2 LM.out).mono ?_); rintro e w3 ⟨v3, rfl, hBk3, hv3, hk3⟩))
      all_goals
        go_wp2_with fail
        go_meet
        exact ⟨v3, hid hBk3, hid hv3, hid ((Keeps.of_below hB2).trans (hk3.mono hB2.size (fun _ _ h => h)))⟩
    case rest =>
      obtain ⟨v', hBk, hv', hk⟩ := hcut
      have f2 := hBk.out.free 2
      haveI : Has wc g := ⟨hBk.out.lt⟩
      have W2c := hid (W2H.out.keepB HB1.out hk.out)
      have WGc := hid (WGH.out.keepB HB1.out hk.out)
      have BY2 := hid (bby _ _ n G wc W2c.out WGc.out HLN.out LG.out G0.out)
      clear BY1
      go_wp2_with (go_at_call 121; refine BY2.out.mono ?_; rintro e w4 ⟨v4, rfl, hv4, hb4⟩; obtain ⟨a4, q4, rfl, -, -⟩ := hv4.form; have hBk4 := hBk.out.below hb4; have f4 := hBk4.free 2; have c4 := hBk4.cell (i := 2) rfl; haveI : Has w4 g := ⟨hBk4.lt⟩)
      go_ret
      have hB5 := hBk4.set 2 (.slice a4 (words (n / G)).length q4)
      have k4 : Keeps w.heap.size [g] w w4 := ((Keeps.of_below BG.out).trans (hk.out.mono BG.out.size (fun _ _ h => h))).trans ((Keeps.of_below hb4).mono (Nat.le_trans BG.out.size hk.out.size) (fun _ _ h => h))
      refine ⟨rfl, ⟨v', .slice a4 (words (n / G)).length q4, ?_, ?_, .inr ?_⟩, k4.set (Or.inl (by simp)) _ _⟩
      · rw [MPH.out.1, sg_neg]; exact hB5
      · rw [MPH.out.1, sg_abs]; exact (hv'.out.below hb4).setB hBk4 _ _
      · rw [MPH.out.2]; exact hv4.setB hBk4 _ _
end Big
end
end Go.Proofs.YtcoillcppmibgaaGreatDoor
