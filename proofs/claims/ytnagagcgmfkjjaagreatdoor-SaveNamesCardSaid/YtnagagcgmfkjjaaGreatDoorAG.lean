/- What the statements ask first. -/
import Derived.Test.YtnagagcgmfkjjaaGreatDoorAD
import Derived.Test.YtnagagcgmfkjjaaGreatDoorAB
import Derived.Test.YtnagagcgmfkjjaaGreatDoorV
import Derived.Test.YtnagagcgmfkjjaaGreatDoorZ
set_option linter.unusedSimpArgs false
set_option linter.unusedVariables false
namespace Go.Proofs.YtnagagcgmfkjjaaGreatDoor
open Go.RowKit

theorem Told.nil {w w' : World} {v : Value} {p : Int} (h : Told w 0 p v w') : v = .nilIface := by
  rcases h with ⟨-, h⟩ | ⟨h, -⟩
  · exact h
  · exact absurd rfl h
theorem Told.hit {w w' : World} {v : Value} {c p : Int} (h : Told w c p v w') (hc : c ≠ 0) : ∃ g, v = .iface 121 (.pointer (some ⟨g, 0, none⟩)) ∧ w'.heap[g]? = some (.cells #[.int .i64 c, .int .i64 p] 41 (0, 0)) := by
  rcases h with ⟨h, -⟩ | ⟨-, g, -, h1, h2⟩
  · exact absurd h hc
  · exact ⟨g, h1, h2⟩
theorem str_eq {x : ByteArray} {l : By} (h : x = ⟨l.toArray⟩) : x.data.toList = l := by rw [h]
set_option maxRecDepth 100000 in
set_option maxHeartbeats 8000000 in
theorem alive_any (w : World) (V : Vars w) : Calls Tryz.prog 6 #[] w fun e w' => e = .returned (.bool true) ∧ Below w.heap.size w w' := by
  have h8 : 8 ≤ w.heap.size := by have := World.block_lt_of_cell? _ _ V.dbj; simp at this; omega
  have V' := hid V
  have hN := number_w 4607182418800017408 9223372036854775808 (by unfold fits; omega) (by unfold fits; omega) w V h8
  rw [number_one] at hN
  obtain ⟨NS, hNS⟩ : ∃ NS : ByteArray, NS = ⟨litN.toArray⟩ := ⟨_, rfl⟩
  obtain ⟨FS, hFS⟩ : ∃ FS : ByteArray, FS = ⟨litF.toArray⟩ := ⟨_, rfl⟩
  obtain ⟨TS, hTS⟩ : ∃ TS : ByteArray, TS = ⟨litT.toArray⟩ := ⟨_, rfl⟩
  rw [← hNS] at hN
  have lN := str_eq hNS
  have lF := str_eq hFS
  have lT := str_eq hTS
  have sN : NS.size ≤ 70000 := by rw [← size_list, lN]; decide
  have sF : FS.size ≤ 70000 := by rw [← size_list, lF]; decide
  have sT : TS.size ≤ 70000 := by rw [← size_list, lT]; decide
  have rN := fun w1 => readN_any NS sN w1
  rw [lN, readN_lit] at rN
  have rF := fun w1 V1 h1 => readF_any FS sF w1 V1 h1
  rw [lF, readF_lit] at rF
  have rT := fun w1 V1 h1 => readT_any TS sT w1 V1 h1
  rw [lT, readT_lit] at rT
  have rW := fun w1 V1 h1 => readW_any FS sF w1 V1 h1
  rw [lF, readW_bad] at rW
  have rB := fun w1 V1 h1 => readF_any ⟨#[101, 100, 100, 121, 32, 102, 108, 111, 119, 32, 50]⟩ (by decide) w1 V1 h1
  rw [show (⟨#[101, 100, 100, 121, 32, 102, 108, 111, 119, 32, 50]⟩ : ByteArray).data.toList = litB from rfl, readF_bad] at rB
  have wF := fun w1 V1 h1 => flow_w [] (by intro x hx; cases hx) (by simp) w1.heap.size (.slice none 0 0) w1 V1 h1 (own_nil _ _ _ _)
  rw [flowO_nil] at wF
  have wT := fun w1 V1 h1 => tracers_w [] (by intro x hx; cases hx) (by simp) w1.heap.size (.slice none 0 0) w1 V1 h1 (own_nil _ _ _ _)
  rw [tracersO_nil] at wT
  simp only [← hFS] at wF
  simp only [← hTS] at wT
  have HN := hid hN
  have RN := hid rN
  have RF := hid rF
  have RT := hid rT
  have RW := hid rW
  have RB := hid rB
  have WF := hid wF
  have WT := hid wT
  have KN := hid hNS
  have KF := hid hFS
  clear hN rN rF rT rW rB wF wT hNS hFS hTS lN lF lT V sN sF sT
  go_enter Tryz.func6, Tryz.ntmps6
  go_wp2_with (first | (go_at_call 29; ((with_reducible refine (copysign_0 _).mono ?_); rintro e w' ⟨rfl, rfl⟩)) | (go_at_call 28; ((with_reducible refine (of_any _ _ _).mono ?_); rintro e w' ⟨rfl, rfl⟩)))
  refine HN.out.mono ?_
  rintro e w1 ⟨rfl, hb⟩
  have B1 := hid hb
  clear hb
  go_wp2_with fail
  refine (RN.out w1).mono ?_
  rintro e w2 ⟨v2, rfl, ht, hb⟩
  obtain rfl := ht.nil
  have B2 := hid (B1.out.trans (hb.mono B1.out.size))
  clear hb ht
  go_wp2_with fail
  refine (WF.out w2 (V'.out.keep (Keeps.of_below (S := []) B2.out) h8 (by simp)) (by have := B2.out.size; omega)).mono ?_
  rintro e w3 ⟨rfl, hb⟩
  have B3 := hid (B2.out.trans (hb.mono B2.out.size))
  clear hb
  go_wp2_with fail
  refine (RF.out w3 (V'.out.keep (Keeps.of_below (S := []) B3.out) h8 (by simp)) (by have := B3.out.size; omega)).mono ?_
  rintro e w4 ⟨sv4, v4, rfl, ht, ho, hb⟩
  obtain rfl := ht.nil
  obtain ⟨a4, c4, rfl, -⟩ := own_form ho
  have B4 := hid (B3.out.trans (hb.mono B3.out.size))
  clear hb ht ho
  go_wp2_with fail
  have B4' := hid (B4.out.alloc B4.out.size (.cells #[.slice a4 0 c4] 25))
  refine (WT.out _ (V'.out.keep (Keeps.of_below (S := []) B4'.out) h8 (by simp)) (by have := B4.out.size; simp; omega)).mono ?_
  rintro e w5 ⟨rfl, hb⟩
  have q5 : w5.heap[w4.heap.size]? = some (.cells #[.slice a4 0 c4] 25 (0, 0)) := (hb.block _ (by simp)).trans (by simp only [block_at])
  have B5 := hid (B4'.out.trans (hb.mono B4'.out.size))
  have Q5 := hid q5
  clear hb q5
  go_wp2_with fail
  refine (RT.out w5 (V'.out.keep (Keeps.of_below (S := []) B5.out) h8 (by simp)) (by have := B5.out.size; omega)).mono ?_
  rintro e w6 ⟨sv6, v6, rfl, ht, ho, hb⟩
  obtain rfl := ht.nil
  obtain ⟨a6, c6, rfl, -⟩ := own_form ho
  have q6 := (hb.block _ (lt_of_block Q5.out)).trans Q5.out
  have B6 := hid (B5.out.trans (hb.mono B5.out.size))
  have Q6 := hid q6
  clear hb ht ho q6
  go_wp2_with fail
  refine (RB.out w6 (V'.out.keep (Keeps.of_below (S := []) B6.out) h8 (by simp)) (by have := B6.out.size; omega)).mono ?_
  rintro e w7 ⟨sv7, v7, rfl, ht, ho, hb⟩
  obtain ⟨g7, rfl, hg7⟩ := ht.hit (by simp)
  obtain ⟨a7, c7, rfl, -⟩ := own_form ho
  have q7 := (hb.block _ (lt_of_block Q6.out)).trans Q6.out
  have B7 := hid (B6.out.trans (hb.mono B6.out.size))
  have Q7 := hid q7
  have G7 := hid hg7
  clear hb ht ho q7 hg7
  go_wp2_with fail
  have B7' := hid (B7.out.alloc B7.out.size (.cells #[.slice a7 0 c7] 25))
  refine (RW.out _ (V'.out.keep (Keeps.of_below (S := []) B7'.out) h8 (by simp)) (by have := B7.out.size; simp; omega)).mono ?_
  rintro e w8 ⟨sv8, v8, rfl, ht, ho, hb⟩
  obtain ⟨g8, rfl, hg8⟩ := ht.hit (by simp)
  obtain ⟨a8, c8, rfl, -⟩ := own_form ho
  have q8 := (hb.block _ (by simp; exact Nat.lt_succ_of_lt (lt_of_block Q7.out))).trans ((Below.heap_alloc w7 _ _ (lt_of_block Q7.out)).trans Q7.out)
  have k7 := (hb.block g7 (by simp; exact Nat.lt_succ_of_lt (lt_of_block G7.out))).trans ((Below.heap_alloc w7 _ _ (lt_of_block G7.out)).trans G7.out)
  have B8 := hid (B7'.out.trans (hb.mono B7'.out.size))
  have q8c := cell_of_block q8 0
  simp at q8c
  haveI : Has w8 w4.heap.size := ⟨lt_of_block q8⟩
  have S7 : Says (.iface 121 (.pointer (some ⟨g7, 0, none⟩))) 290 10 w8 := .inr ⟨by simp, g7, rfl, k7⟩
  have S8 : Says (.iface 121 (.pointer (some ⟨g8, 0, none⟩))) 290 5 w8 := .inr ⟨by simp, g8, rfl, hg8⟩
  have V8 := V'.out.keep (Keeps.of_below (S := []) B8.out) h8 (by simp)
  have hs7 := says_any _ 290 10 290 10 w8 V8 (by have := B8.out.size; omega) S7
  have hs8 := fun w9 (h : Below w8.heap.size w8 w9) => says_any (.iface 121 (.pointer (some ⟨g8, 0, none⟩))) 290 5 290 5 w9 (V8.keep (Keeps.of_below (S := []) h) (by have := B8.out.size; omega) (by simp)) (by have := B8.out.size; have := h.size; omega) (.inr ⟨by simp, g8, rfl, (h.block g8 (lt_of_block hg8)).trans hg8⟩)
  have HS7 := hid hs7
  have HS8 := hid hs8
  clear hb ht ho q8 k7 hg8 S7 S8 V8 hs7 hs8
  have hsame : sameC 4607182418800017408 9223372036854775808 4607182418800017408 9223372036854775808 = true := by decide
  have hNe : NS = ⟨#[51, 102, 102, 48, 48, 48, 48, 48, 48, 48, 48, 48, 48, 48, 48, 48, 32, 56, 48, 48, 48, 48, 48, 48, 48, 48, 48, 48, 48, 48, 48, 48, 48]⟩ := KN.out
  have hFe : FS = ⟨#[101, 100, 100, 121, 32, 102, 108, 111, 119, 32, 49, 10, 101, 108, 101, 109, 101, 110, 116, 115, 32, 48, 10, 115, 117, 109, 32, 54, 49, 48, 53, 51, 53, 49, 98, 97, 51, 57, 54, 52, 98, 98, 53, 10]⟩ := KF.out
  clear HN RN RF RT RW RB WF WT KN KF
  subst hNe
  subst hFe
  go_wp2_with (go_at_call 18; ((with_reducible refine (same18 _ _ _ _ _).mono ?_); rintro e w' ⟨rfl, rfl⟩; rw [hsame]))
  refine HS7.out.mono ?_
  rintro e w9 ⟨rfl, hb⟩
  have B9 := hid hb
  clear hb
  go_wp2_with fail
  refine (HS8.out w9 B9.out).mono ?_
  rintro e w10 ⟨rfl, hb⟩
  have B10 := hid (B8.out.trans ((B9.out.trans (hb.mono B9.out.size)).mono B8.out.size))
  clear hb
  go_wp2_with fail
  go_ret
  exact ⟨rfl, B10.out⟩
end Go.Proofs.YtnagagcgmfkjjaaGreatDoor
