/- SaveOnly returns true. -/
import Derived.Test.YtnagagcgmfkjjaaGreatDoorAG
import Derived.Deep.DeepCutAuto
set_option linter.unusedSimpArgs false
set_option linter.unusedVariables false
namespace Go.Proofs.YtnagagcgmfkjjaaGreatDoor
open Go.RowKit

theorem num_fits (s : By) (st : St) : fits (numS s st).1.1 ∧ fits (numS s st).1.2 := by
  unfold numS
  exact ⟨float_fits _ _, float_fits _ _⟩
theorem flowR_ok (s : By) (h : (flowR s).2.1 = 0) : flowO (flowR s).1 = (s, 0) ∧ (flowR s).1.length ≤ 65536 ∧ (∀ x ∈ (flowR s).1, x.1 < 256 ∧ fits x.2.1.1 ∧ fits x.2.1.2 ∧ fits x.2.2.1.1 ∧ fits x.2.2.1.2 ∧ fits x.2.2.2) := by
  unfold flowR at h ⊢
  by_cases h1 : (readF s).2.1 = 0
  · rw [if_pos h1] at h ⊢
    by_cases h2 : flowChk (readF s).1 = 0
    · rw [if_pos h2] at h ⊢
      obtain ⟨a, b, c⟩ := readF_ok h1
      refine ⟨?_, by show (readF s).1.length ≤ _; omega, ?_⟩
      · show flowO (readF s).1 = _
        unfold flowO
        rw [if_pos h2, ← c]
      · exact read_all (fun st => by
          have e := whole_lt s 8 st
          refine ⟨e, ?_⟩
          have n1 := num_fits s (mustS s [[32]] (wholeS s 8 st).2)
          have n2 := num_fits s (mustS s [[32]] (numS s (mustS s [[32]] (wholeS s 8 st).2)).2)
          refine ⟨n1.1, n1.2, n2.1, n2.2, ?_⟩
          simp only [elemS]
          exact float_fits _ _)
    · rw [if_neg h2] at h
      exact absurd h h2
  · rw [if_neg h1] at h
    exact absurd h h1
theorem tracersR_ok (s : By) (h : (tracersR s).2.1 = 0) : tracersO (tracersR s).1 = (s, 0) ∧ (tracersR s).1.length ≤ 65536 ∧ (∀ x ∈ (tracersR s).1, fits x.1.1 ∧ fits x.1.2 ∧ fits x.2.1 ∧ x.2.2 < 256) := by
  unfold tracersR at h ⊢
  by_cases h1 : (readT s).2.1 = 0
  · rw [if_pos h1] at h ⊢
    by_cases h2 : 4096 < (readT s).1.length
    · rw [if_pos h2] at h
      cases h
    · rw [if_neg h2] at h ⊢
      obtain ⟨a, b, c⟩ := readT_ok h1
      refine ⟨?_, by show (readT s).1.length ≤ _; omega, ?_⟩
      · show tracersO (readT s).1 = _
        unfold tracersO fitS
        rw [if_neg h2, ← c, if_neg (by omega)]
      · exact read_all (fun st => by
          have n1 := num_fits s st
          refine ⟨n1.1, n1.2, ?_, ?_⟩
          · simp only [tracS]; exact float_fits _ _
          · simp only [tracS]; exact whole_lt s 8 _)
  · rw [if_neg h1] at h
    exact absurd h h1
theorem whirlsR_ok (s : By) (h : (whirlsR s).2.1 = 0) : whirlsO (whirlsR s).1 = (s, 0) ∧ (whirlsR s).1.length ≤ 65536 ∧ (∀ x ∈ (whirlsR s).1, fits x.1.1 ∧ fits x.1.2 ∧ fits x.2) := by
  unfold whirlsR at h ⊢
  by_cases h1 : (readW s).2.1 = 0
  · rw [if_pos h1] at h ⊢
    by_cases h2 : whirlChk (readW s).1 = 0
    · rw [if_pos h2] at h ⊢
      obtain ⟨a, b, c⟩ := readW_ok h1
      refine ⟨?_, by show (readW s).1.length ≤ _; omega, ?_⟩
      · show whirlsO (readW s).1 = _
        unfold whirlsO fitS
        rw [if_pos h2, ← c, if_neg (by omega)]
      · exact read_all (fun st => by
          have n1 := num_fits s st
          refine ⟨n1.1, n1.2, ?_⟩
          simp only [whirS]; exact float_fits _ _)
    · rw [if_neg h2] at h
      exact absurd h h2
  · rw [if_neg h1] at h
    exact absurd h h1
theorem readN_fits (s : By) : fits (readN s).1.1 ∧ fits (readN s).1.2 := by
  have z : fits 0 := by unfold fits; omega
  unfold readN
  split
  · exact ⟨z, z⟩
  · simp only []
    split
    · split
      · exact ⟨z, z⟩
      · exact num_fits s _
    · exact ⟨z, z⟩
theorem ba_self (s : ByteArray) : (⟨s.data.toList.toArray⟩ : ByteArray) = s := (ba_eq rfl).symm
theorem ba_list {x y : ByteArray} (h : x.data.toList = y.data.toList) : x = y := by
  cases x; cases y; simp at h; rw [h]
set_option maxRecDepth 100000 in
set_option maxHeartbeats 16000000 in
theorem saveOnly_any (s : ByteArray) (hsm : s.size ≤ maxLen) (w : World) (V : Vars w) : Calls Tryz.prog 5 #[.string s] w fun e w' => e = .returned (.bool true) ∧ Below w.heap.size w w' := by
  have h8 : 8 ≤ w.heap.size := by have := World.block_lt_of_cell? _ _ V.dbj; simp at this; omega
  have V' := hid V
  have hal := alive_any w V
  have HAL := hid hal
  clear V hal
  by_cases hlong : 70000 < s.size
  · go_enter Tryz.func5, Tryz.ntmps5
    go_wp2_with fail
    refine HAL.out.mono ?_
    rintro e w1 ⟨rfl, hb⟩
    have hl : (70000 : Int) < (s.size : Int) := by omega
    have HB := hid hb
    clear hb
    go_wp2_with fail
    go_ret
    exact ⟨rfl, HB.out⟩
  · have hs : s.size ≤ 70000 := by omega
    have hl : ¬ (70000 : Int) < (s.size : Int) := by omega
    have hNF := readN_fits s.data.toList
    go_enter Tryz.func5, Tryz.ntmps5
    go_wp2_with fail
    refine HAL.out.mono ?_
    rintro e w1 ⟨rfl, hb⟩
    have B1 := hid hb
    clear hb
    go_wp2_with fail
    refine (readF_any s hs w1 (V'.out.keep (Keeps.of_below (S := []) B1.out) h8 (by simp)) (by have := B1.out.size; omega)).mono ?_
    rintro e w2 ⟨sv, v, rfl, ht, ho, hb⟩
    obtain ⟨sa, sc, rfl, -⟩ := own_form ho
    have B2p := hid (B1.out.trans (hb.mono B1.out.size))
    clear hb
    have ho := ho.alloc (.cells #[.slice sa (flowR s.data.toList).1.length sc] 25)
    have B2 := hid (B2p.out.alloc B2p.out.size (.cells #[.slice sa (flowR s.data.toList).1.length sc] 25))
    rcases ht with ⟨hc, rfl⟩ | ⟨hc, g, -, rfl, -⟩
    · obtain ⟨f1, f2, f3⟩ := flowR_ok s.data.toList hc
      have hw := flow_w (flowR s.data.toList).1 f3 (by omega) w1.heap.size (.slice sa (flowR s.data.toList).1.length sc) (w2.alloc (.cells #[.slice sa (flowR s.data.toList).1.length sc] 25)) (V'.out.keep (Keeps.of_below (S := []) B2.out) h8 (by simp)) (by have := B2.out.size; omega) ho
      rw [f1, ba_self] at hw
      have HW := hid hw
      clear hw f1 f3 ho hc
      go_wp2_with fail
      refine HW.out.mono ?_
      rintro e w2q ⟨rfl, hb⟩
      have B2q := hid (B2.out.trans (hb.mono B2.out.size))
      clear hb HW
      go_wp2_with fail
      refine (readT_any s hs w2q (V'.out.keep (Keeps.of_below (S := []) B2q.out) h8 (by simp)) (by have := B2q.out.size; omega)).mono ?_
      rintro e w3 ⟨sv, v, rfl, ht, ho, hb⟩
      obtain ⟨sa, sc, rfl, -⟩ := own_form ho
      have B3 := hid (B2q.out.trans (hb.mono B2q.out.size))
      clear hb
      rcases ht with ⟨hc, rfl⟩ | ⟨hc, g, -, rfl, -⟩
      · obtain ⟨f1, f2, f3⟩ := tracersR_ok s.data.toList hc
        have hw := tracers_w (tracersR s.data.toList).1 f3 (by omega) _ (.slice sa (tracersR s.data.toList).1.length sc) w3 (V'.out.keep (Keeps.of_below (S := []) B3.out) h8 (by simp)) (by have := B3.out.size; omega) ho
        rw [f1, ba_self] at hw
        have HW := hid hw
        clear hw f1 f3 ho hc
        go_wp2_with fail
        refine HW.out.mono ?_
        rintro e w3q ⟨rfl, hb⟩
        have B3q := hid (B3.out.trans (hb.mono B3.out.size))
        clear hb HW
        go_wp2_with fail
        refine (readW_any s hs w3q (V'.out.keep (Keeps.of_below (S := []) B3q.out) h8 (by simp)) (by have := B3q.out.size; omega)).mono ?_
        rintro e w4 ⟨sv, v, rfl, ht, ho, hb⟩
        obtain ⟨sa, sc, rfl, -⟩ := own_form ho
        have B4 := hid (B3q.out.trans (hb.mono B3q.out.size))
        clear hb
        rcases ht with ⟨hc, rfl⟩ | ⟨hc, g, -, rfl, -⟩
        · obtain ⟨f1, f2, f3⟩ := whirlsR_ok s.data.toList hc
          have hw := whirls_w (whirlsR s.data.toList).1 f3 (by omega) _ (.slice sa (whirlsR s.data.toList).1.length sc) w4 (V'.out.keep (Keeps.of_below (S := []) B4.out) h8 (by simp)) (by have := B4.out.size; omega) ho
          rw [f1, ba_self] at hw
          have HW := hid hw
          clear hw f1 f3 ho hc
          go_wp2_with fail
          refine HW.out.mono ?_
          rintro e w4q ⟨rfl, hb⟩
          have B4q := hid (B4.out.trans (hb.mono B4.out.size))
          clear hb HW
          go_wp2_with fail
          refine (readN_any s hs w4q).mono ?_
          rintro e w5 ⟨v, rfl, ht, hb⟩
          have B5 := hid (B4q.out.trans (hb.mono B4q.out.size))
          clear hb
          rcases ht with ⟨hc, rfl⟩ | ⟨hc, g, -, rfl, -⟩
          · have hw := number_w (readN s.data.toList).1.1 (readN s.data.toList).1.2 hNF.1 hNF.2 w5 (V'.out.keep (Keeps.of_below (S := []) B5.out) h8 (by simp)) (by have := B5.out.size; omega)
            rw [← readN_ok hc, ba_self] at hw
            have HW := hid hw
            clear hw hc
            go_wp2_with fail
            refine HW.out.mono ?_
            rintro e w5q ⟨rfl, hb⟩
            have B5q := hid (B5.out.trans (hb.mono B5.out.size))
            clear hb HW
            go_wp2_with fail
            go_ret
            exact ⟨rfl, B5q.out⟩
          · go_wp2_with fail
            go_ret
            exact ⟨rfl, B5.out⟩
        · clear ho
          go_wp2_with fail
          refine (readN_any s hs w4).mono ?_
          rintro e w5 ⟨v, rfl, ht, hb⟩
          have B5 := hid (B4.out.trans (hb.mono B4.out.size))
          clear hb
          rcases ht with ⟨hc, rfl⟩ | ⟨hc, g, -, rfl, -⟩
          · have hw := number_w (readN s.data.toList).1.1 (readN s.data.toList).1.2 hNF.1 hNF.2 w5 (V'.out.keep (Keeps.of_below (S := []) B5.out) h8 (by simp)) (by have := B5.out.size; omega)
            rw [← readN_ok hc, ba_self] at hw
            have HW := hid hw
            clear hw hc
            go_wp2_with fail
            refine HW.out.mono ?_
            rintro e w5q ⟨rfl, hb⟩
            have B5q := hid (B5.out.trans (hb.mono B5.out.size))
            clear hb HW
            go_wp2_with fail
            go_ret
            exact ⟨rfl, B5q.out⟩
          · go_wp2_with fail
            go_ret
            exact ⟨rfl, B5.out⟩
      · clear ho
        go_wp2_with fail
        refine (readW_any s hs w3 (V'.out.keep (Keeps.of_below (S := []) B3.out) h8 (by simp)) (by have := B3.out.size; omega)).mono ?_
        rintro e w4 ⟨sv, v, rfl, ht, ho, hb⟩
        obtain ⟨sa, sc, rfl, -⟩ := own_form ho
        have B4 := hid (B3.out.trans (hb.mono B3.out.size))
        clear hb
        rcases ht with ⟨hc, rfl⟩ | ⟨hc, g, -, rfl, -⟩
        · obtain ⟨f1, f2, f3⟩ := whirlsR_ok s.data.toList hc
          have hw := whirls_w (whirlsR s.data.toList).1 f3 (by omega) _ (.slice sa (whirlsR s.data.toList).1.length sc) w4 (V'.out.keep (Keeps.of_below (S := []) B4.out) h8 (by simp)) (by have := B4.out.size; omega) ho
          rw [f1, ba_self] at hw
          have HW := hid hw
          clear hw f1 f3 ho hc
          go_wp2_with fail
          refine HW.out.mono ?_
          rintro e w4q ⟨rfl, hb⟩
          have B4q := hid (B4.out.trans (hb.mono B4.out.size))
          clear hb HW
          go_wp2_with fail
          refine (readN_any s hs w4q).mono ?_
          rintro e w5 ⟨v, rfl, ht, hb⟩
          have B5 := hid (B4q.out.trans (hb.mono B4q.out.size))
          clear hb
          rcases ht with ⟨hc, rfl⟩ | ⟨hc, g, -, rfl, -⟩
          · have hw := number_w (readN s.data.toList).1.1 (readN s.data.toList).1.2 hNF.1 hNF.2 w5 (V'.out.keep (Keeps.of_below (S := []) B5.out) h8 (by simp)) (by have := B5.out.size; omega)
            rw [← readN_ok hc, ba_self] at hw
            have HW := hid hw
            clear hw hc
            go_wp2_with fail
            refine HW.out.mono ?_
            rintro e w5q ⟨rfl, hb⟩
            have B5q := hid (B5.out.trans (hb.mono B5.out.size))
            clear hb HW
            go_wp2_with fail
            go_ret
            exact ⟨rfl, B5q.out⟩
          · go_wp2_with fail
            go_ret
            exact ⟨rfl, B5.out⟩
        · clear ho
          go_wp2_with fail
          refine (readN_any s hs w4).mono ?_
          rintro e w5 ⟨v, rfl, ht, hb⟩
          have B5 := hid (B4.out.trans (hb.mono B4.out.size))
          clear hb
          rcases ht with ⟨hc, rfl⟩ | ⟨hc, g, -, rfl, -⟩
          · have hw := number_w (readN s.data.toList).1.1 (readN s.data.toList).1.2 hNF.1 hNF.2 w5 (V'.out.keep (Keeps.of_below (S := []) B5.out) h8 (by simp)) (by have := B5.out.size; omega)
            rw [← readN_ok hc, ba_self] at hw
            have HW := hid hw
            clear hw hc
            go_wp2_with fail
            refine HW.out.mono ?_
            rintro e w5q ⟨rfl, hb⟩
            have B5q := hid (B5.out.trans (hb.mono B5.out.size))
            clear hb HW
            go_wp2_with fail
            go_ret
            exact ⟨rfl, B5q.out⟩
          · go_wp2_with fail
            go_ret
            exact ⟨rfl, B5.out⟩
    · clear ho
      go_wp2_with fail
      refine (readT_any s hs (w2.alloc (.cells #[.slice sa (flowR s.data.toList).1.length sc] 25)) (V'.out.keep (Keeps.of_below (S := []) B2.out) h8 (by simp)) (by have := B2.out.size; omega)).mono ?_
      rintro e w3 ⟨sv, v, rfl, ht, ho, hb⟩
      obtain ⟨sa, sc, rfl, -⟩ := own_form ho
      have B3 := hid (B2.out.trans (hb.mono B2.out.size))
      clear hb
      rcases ht with ⟨hc, rfl⟩ | ⟨hc, g, -, rfl, -⟩
      · obtain ⟨f1, f2, f3⟩ := tracersR_ok s.data.toList hc
        have hw := tracers_w (tracersR s.data.toList).1 f3 (by omega) _ (.slice sa (tracersR s.data.toList).1.length sc) w3 (V'.out.keep (Keeps.of_below (S := []) B3.out) h8 (by simp)) (by have := B3.out.size; omega) ho
        rw [f1, ba_self] at hw
        have HW := hid hw
        clear hw f1 f3 ho hc
        go_wp2_with fail
        refine HW.out.mono ?_
        rintro e w3q ⟨rfl, hb⟩
        have B3q := hid (B3.out.trans (hb.mono B3.out.size))
        clear hb HW
        go_wp2_with fail
        refine (readW_any s hs w3q (V'.out.keep (Keeps.of_below (S := []) B3q.out) h8 (by simp)) (by have := B3q.out.size; omega)).mono ?_
        rintro e w4 ⟨sv, v, rfl, ht, ho, hb⟩
        obtain ⟨sa, sc, rfl, -⟩ := own_form ho
        have B4 := hid (B3q.out.trans (hb.mono B3q.out.size))
        clear hb
        rcases ht with ⟨hc, rfl⟩ | ⟨hc, g, -, rfl, -⟩
        · obtain ⟨f1, f2, f3⟩ := whirlsR_ok s.data.toList hc
          have hw := whirls_w (whirlsR s.data.toList).1 f3 (by omega) _ (.slice sa (whirlsR s.data.toList).1.length sc) w4 (V'.out.keep (Keeps.of_below (S := []) B4.out) h8 (by simp)) (by have := B4.out.size; omega) ho
          rw [f1, ba_self] at hw
          have HW := hid hw
          clear hw f1 f3 ho hc
          go_wp2_with fail
          refine HW.out.mono ?_
          rintro e w4q ⟨rfl, hb⟩
          have B4q := hid (B4.out.trans (hb.mono B4.out.size))
          clear hb HW
          go_wp2_with fail
          refine (readN_any s hs w4q).mono ?_
          rintro e w5 ⟨v, rfl, ht, hb⟩
          have B5 := hid (B4q.out.trans (hb.mono B4q.out.size))
          clear hb
          rcases ht with ⟨hc, rfl⟩ | ⟨hc, g, -, rfl, -⟩
          · have hw := number_w (readN s.data.toList).1.1 (readN s.data.toList).1.2 hNF.1 hNF.2 w5 (V'.out.keep (Keeps.of_below (S := []) B5.out) h8 (by simp)) (by have := B5.out.size; omega)
            rw [← readN_ok hc, ba_self] at hw
            have HW := hid hw
            clear hw hc
            go_wp2_with fail
            refine HW.out.mono ?_
            rintro e w5q ⟨rfl, hb⟩
            have B5q := hid (B5.out.trans (hb.mono B5.out.size))
            clear hb HW
            go_wp2_with fail
            go_ret
            exact ⟨rfl, B5q.out⟩
          · go_wp2_with fail
            go_ret
            exact ⟨rfl, B5.out⟩
        · clear ho
          go_wp2_with fail
          refine (readN_any s hs w4).mono ?_
          rintro e w5 ⟨v, rfl, ht, hb⟩
          have B5 := hid (B4.out.trans (hb.mono B4.out.size))
          clear hb
          rcases ht with ⟨hc, rfl⟩ | ⟨hc, g, -, rfl, -⟩
          · have hw := number_w (readN s.data.toList).1.1 (readN s.data.toList).1.2 hNF.1 hNF.2 w5 (V'.out.keep (Keeps.of_below (S := []) B5.out) h8 (by simp)) (by have := B5.out.size; omega)
            rw [← readN_ok hc, ba_self] at hw
            have HW := hid hw
            clear hw hc
            go_wp2_with fail
            refine HW.out.mono ?_
            rintro e w5q ⟨rfl, hb⟩
            have B5q := hid (B5.out.trans (hb.mono B5.out.size))
            clear hb HW
            go_wp2_with fail
            go_ret
            exact ⟨rfl, B5q.out⟩
          · go_wp2_with fail
            go_ret
            exact ⟨rfl, B5.out⟩
      · clear ho
        go_wp2_with fail
        refine (readW_any s hs w3 (V'.out.keep (Keeps.of_below (S := []) B3.out) h8 (by simp)) (by have := B3.out.size; omega)).mono ?_
        rintro e w4 ⟨sv, v, rfl, ht, ho, hb⟩
        obtain ⟨sa, sc, rfl, -⟩ := own_form ho
        have B4 := hid (B3.out.trans (hb.mono B3.out.size))
        clear hb
        rcases ht with ⟨hc, rfl⟩ | ⟨hc, g, -, rfl, -⟩
        · obtain ⟨f1, f2, f3⟩ := whirlsR_ok s.data.toList hc
          have hw := whirls_w (whirlsR s.data.toList).1 f3 (by omega) _ (.slice sa (whirlsR s.data.toList).1.length sc) w4 (V'.out.keep (Keeps.of_below (S := []) B4.out) h8 (by simp)) (by have := B4.out.size; omega) ho
          rw [f1, ba_self] at hw
          have HW := hid hw
          clear hw f1 f3 ho hc
          go_wp2_with fail
          refine HW.out.mono ?_
          rintro e w4q ⟨rfl, hb⟩
          have B4q := hid (B4.out.trans (hb.mono B4.out.size))
          clear hb HW
          go_wp2_with fail
          refine (readN_any s hs w4q).mono ?_
          rintro e w5 ⟨v, rfl, ht, hb⟩
          have B5 := hid (B4q.out.trans (hb.mono B4q.out.size))
          clear hb
          rcases ht with ⟨hc, rfl⟩ | ⟨hc, g, -, rfl, -⟩
          · have hw := number_w (readN s.data.toList).1.1 (readN s.data.toList).1.2 hNF.1 hNF.2 w5 (V'.out.keep (Keeps.of_below (S := []) B5.out) h8 (by simp)) (by have := B5.out.size; omega)
            rw [← readN_ok hc, ba_self] at hw
            have HW := hid hw
            clear hw hc
            go_wp2_with fail
            refine HW.out.mono ?_
            rintro e w5q ⟨rfl, hb⟩
            have B5q := hid (B5.out.trans (hb.mono B5.out.size))
            clear hb HW
            go_wp2_with fail
            go_ret
            exact ⟨rfl, B5q.out⟩
          · go_wp2_with fail
            go_ret
            exact ⟨rfl, B5.out⟩
        · clear ho
          go_wp2_with fail
          refine (readN_any s hs w4).mono ?_
          rintro e w5 ⟨v, rfl, ht, hb⟩
          have B5 := hid (B4.out.trans (hb.mono B4.out.size))
          clear hb
          rcases ht with ⟨hc, rfl⟩ | ⟨hc, g, -, rfl, -⟩
          · have hw := number_w (readN s.data.toList).1.1 (readN s.data.toList).1.2 hNF.1 hNF.2 w5 (V'.out.keep (Keeps.of_below (S := []) B5.out) h8 (by simp)) (by have := B5.out.size; omega)
            rw [← readN_ok hc, ba_self] at hw
            have HW := hid hw
            clear hw hc
            go_wp2_with fail
            refine HW.out.mono ?_
            rintro e w5q ⟨rfl, hb⟩
            have B5q := hid (B5.out.trans (hb.mono B5.out.size))
            clear hb HW
            go_wp2_with fail
            go_ret
            exact ⟨rfl, B5q.out⟩
          · go_wp2_with fail
            go_ret
            exact ⟨rfl, B5.out⟩
end Go.Proofs.YtnagagcgmfkjjaaGreatDoor
