/- The document's reader: sums, floats, numbers. -/
import Derived.Test.YtnagagcgmfkjjaaGreatDoorBC
set_option linter.unusedSimpArgs false
set_option linter.unusedVariables false
namespace Go.Proofs.YtnagagcgmfkjjaaGreatDoor
open Go.RowKit

set_option maxHeartbeats 4000000 in
set_option maxRecDepth 100000 in
theorem rsum_any (t : ByteArray) (hsz : t.size ≤ 10000000) (w : World) :
    Calls Tryz.prog 26 #[.string t] w fun e w' => e = .returned (.int .u64 (sumS t.data.toList)) ∧ w = w' := by
  rw [sumS_eq]
  obtain ⟨bs, hL⟩ : ∃ bs, bs = t.data.toList := ⟨_, rfl⟩
  have hLn : bs.length = t.size := by rw [hL]; simp
  have hB : ∀ j (h : j < t.size), bs.getD j 0 = t[j] := by
    intro j h
    rw [hL, List.getD_eq_getElem?_getD, Array.getElem?_toList, Array.getElem?_eq_getElem (by simpa using h)]
    rfl
  rw [← hL]
  clear hL
  have HB := hid hB
  have HLN := hid hLn
  clear hB hLn
  go_enter Tryz.func26, Tryz.ntmps26
  go_wp2
  go_loop [3, 4] (fun vn vi => ∃ (k a : Nat), vn = .int .u64 a ∧ vi = .int .i64 k ∧ k ≤ t.size ∧ Hid (a = (bs.take k).foldl sumF 14695981039346656037)) (fun _ vi => t.size - (intOf vi).toNat)
  case atStart => exact ⟨0, 14695981039346656037, rfl, rfl, by omega, hid (by rw [List.take_zero, List.foldl_nil])⟩
  case round =>
    obtain ⟨k, a, rfl, rfl, hk, hha⟩ := hrel
    by_cases hkn : k < t.size
    · have hc := HB.out k hkn
      have hlen := HLN.out
      have ha := sum_lt (bs.take k)
      rw [← hha.out] at ha
      have hs := take_snocJ bs k (by omega)
      rw [hc] at hs
      have hx := u64_xor_nat a (t[k]).toNat ha (by have := (t[k]).toNat_lt; omega)
      have hm : IntKind.u64.wrap (((a ^^^ (t[k]).toNat : Nat) : Int) * 1099511628211) = ((sumF a t[k] : Nat) : Int) := by
        rw [IntKind.wrap_u64]
        unfold sumF
        omega
      have HN : Hid (sumF a t[k] = (bs.take (k + 1)).foldl sumF 14695981039346656037) := by
        rw [hs, List.foldl_append, ← hha.out, List.foldl_cons, List.foldl_nil]; exact hid (Eq.refl (sumF a t[k]))
      have hw : IntKind.u64.wrap ((t[k]).toNat : Int) = ((t[k]).toNat : Int) := by rw [IntKind.wrap_u64]; have := (t[k]).toNat_lt; omega
      clear hs hc hlen hha
      go_wp2
      exact ⟨⟨k + 1, sumF a t[k], rfl, by rfl, by omega, HN⟩, by simp [intOf]; omega⟩
    · obtain rfl : k = t.size := by omega
      have hlen := HLN.out
      have hf := hha.out
      rw [List.take_of_length_le (by omega)] at hf
      have HF := hid hf
      clear hf hlen hha
      go_wp2
      go_ret
      exact ⟨by rw [HF.out]; rfl, rfl⟩
theorem rlong_any (t : ByteArray) (w : World) : Calls Tryz.prog 40 #[.string t] w fun e w' => e = .returned (.bool (decide (65536 < t.size))) ∧ w = w' := by
  by_cases h : 65536 < t.size
  · have h' : (65536 : Int) < (t.size : Int) := by omega
    rw [show decide (65536 < t.size) = true by simpa using h]
    go_enter Tryz.func40, Tryz.ntmps40
    go_wp2
    go_ret
    exact ⟨by simp [h], rfl⟩
  · have h' : ¬ (65536 : Int) < (t.size : Int) := by omega
    rw [show decide (65536 < t.size) = false by simpa using h]
    go_enter Tryz.func40, Tryz.ntmps40
    go_wp2
    go_ret
    exact ⟨by simp [h], rfl⟩
theorem rfrom_any (n : Nat) (w : World) : Calls Tryz.prog 68 #[.int .u64 n] w fun e w' => e = .returned (.float .f64 n) ∧ w = w' := by
  have h1 := f64from_run
  go_enter Tryz.func68, Tryz.ntmps68
  go_wp2
  go_ret
  exact ⟨rfl, rfl⟩
theorem rbits_any (n : Nat) (w : World) : Calls Tryz.prog 69 #[.float .f64 n] w fun e w' => e = .returned (.int .u64 (bitsS n)) ∧ w = w' := by
  have h1 := f64bits_run
  cases h : isNan n
  · have eb : bitsS n = n := by unfold bitsS; rw [h]; rfl
    rw [eb]
    go_enter Tryz.func69, Tryz.ntmps69
    go_wp2_with (go_at_call 73; ((with_reducible refine (none_any _ _).mono ?_); rintro e w' ⟨rfl, rfl⟩; rw [h]))
    go_ret
    exact ⟨rfl, rfl⟩
  · have eb : bitsS n = 9221120237041090560 := by unfold bitsS; rw [h]; rfl
    rw [eb]
    go_enter Tryz.func69, Tryz.ntmps69
    go_wp2_with (go_at_call 73; ((with_reducible refine (none_any _ _).mono ?_); rintro e w' ⟨rfl, rfl⟩; rw [h]))
    go_ret
    exact ⟨rfl, rfl⟩
theorem blank_list : (⟨#[32]⟩ : ByteArray).data.toList = [32] := rfl
set_option maxRecDepth 100000 in
set_option maxHeartbeats 4000000 in
theorem rfloat_any (rb : Nat) (s : ByteArray) (st : St) (w : World) (h : Rr w rb s st.1 st.2) (hi : st.1 ≤ s.size) (hs : s.size ≤ 80000) :
    Calls Tryz.prog 45 #[.pointer (some ⟨rb, 0, none⟩)] w fun e w' => e = .returned (.float .f64 (floatS s.data.toList (mustS s.data.toList [[32]] st)).1) ∧
      Rr w' rb s (floatS s.data.toList (mustS s.data.toList [[32]] st)).2.1 (floatS s.data.toList (mustS s.data.toList [[32]] st)).2.2 ∧ Keeps w.heap.size [rb] w w' := by
  have hm1 := rmust_any rb s ⟨#[32]⟩ st w h hi hs (by decide)
  have hi1 := must_le s.data.toList [[32]] st (by rw [size_list]; exact hi)
  rw [size_list] at hi1
  rw [blank_list] at hm1
  obtain ⟨st1, hst1⟩ : ∃ st1, st1 = mustS s.data.toList [[32]] st := ⟨_, rfl⟩
  rw [← hst1] at hm1 hi1 ⊢
  have HM := hid hm1
  obtain ⟨QF, hQF⟩ : ∃ x, x = floatS s.data.toList st1 := ⟨_, rfl⟩
  rw [← hQF]
  have HQF := hid hQF
  clear hm1 hst1 h hQF
  go_enter Tryz.func45, Tryz.ntmps45
  go_wp2_with fail
  refine HM.out.mono ?_
  rintro e w1 ⟨rfl, hR1, hK1⟩
  have c1 := cell_of_block hR1 1
  simp at c1
  have HR1 := hid hR1
  have HK1 := hid hK1
  clear hR1 hK1
  go_wp2_with fail
  refine (rsixteen_any rb s st1.1 st1.2 w1 HR1.out hi1 hs).mono ?_
  rintro e w2 ⟨rfl, hR, hK⟩
  have HK2 := hid (HK1.out.trans (hK.mono HK1.out.size (by simp)))
  have hfl := float_st s.data.toList (st1.1, st1.2) (sixteenS s.data.toList (st1.1, st1.2)).1 (sixteenS s.data.toList (st1.1, st1.2)).2.1 (sixteenS s.data.toList (st1.1, st1.2)).2.2 rfl
  generalize sixteenS s.data.toList (st1.1, st1.2) = sv at hR hfl ⊢
  obtain ⟨n, i', a'⟩ := sv
  simp only [] at hR hfl
  have hqf := HQF.out
  rw [show floatS s.data.toList st1 = _ from hfl] at hqf
  have c2 := cell_of_block hR 2
  simp at c2
  have HR2 := hid hR
  clear hR hK hfl c1
  by_cases ha : a' < 0
  · have hd : decide (0 ≤ a') = false := by simpa using ha
    rw [hd] at c2
    by_cases hb : bitsS n = n
    · have hb' : ((bitsS n : Int) != (n : Int)) = false := by rw [hb]; simp
      rw [if_pos hb] at hqf
      have HBN := hid hb
      have HV := hid hqf
      clear hb hqf
      go_wp2_with (first | (go_at_call 68; ((with_reducible refine (rfrom_any _ _).mono ?_); rintro e w' ⟨rfl, rfl⟩)) | (go_at_call 69; ((with_reducible refine (rbits_any _ _).mono ?_); rintro e w' ⟨rfl, rfl⟩)))
      go_ret
      rw [HV.out]
      exact ⟨rfl, HR2.out, HK2.out⟩
    · have hb' : ((bitsS n : Int) != (n : Int)) = true := by simp; omega
      rw [if_neg hb] at hqf
      unfold wrongS at hqf
      rw [if_pos (show (i', a').2 < 0 from ha)] at hqf
      have HBN := hid hb
      have HV := hid hqf
      clear hb hqf
      go_wp2_with (first | (go_at_call 68; ((with_reducible refine (rfrom_any _ _).mono ?_); rintro e w' ⟨rfl, rfl⟩)) | (go_at_call 69; ((with_reducible refine (rbits_any _ _).mono ?_); rintro e w' ⟨rfl, rfl⟩)))
      refine (rwrong_any rb s i' a' st1.1 w2 HR2.out).mono ?_
      rintro e w3 ⟨rfl, hR, hK⟩
      rw [if_pos (by omega)] at hR
      have HR3 := hid hR
      have HK3 := hid (HK2.out.trans (hK.mono HK2.out.size (by simp)))
      clear hR hK
      go_wp2_with fail
      go_ret
      rw [HV.out]
      exact ⟨rfl, HR3.out, HK3.out⟩
  · have hd : decide (0 ≤ a') = true := by simpa using ha
    rw [hd] at c2
    have hwr : (if bitsS n = n then (i', a') else wrongS st1.1 (i', a')) = (i', a') := by
      split
      · rfl
      · unfold wrongS; rw [if_neg (show ¬ (i', a').2 < 0 from ha)]
    have hqf2 : QF = (n, (i', a')) := by
      rw [hqf]
      split
      · rfl
      · unfold wrongS; rw [if_neg (show ¬ (i', a').2 < 0 from ha)]
    have HV := hid hqf2
    clear hwr hqf hqf2
    go_wp2_with (first | (go_at_call 68; ((with_reducible refine (rfrom_any _ _).mono ?_); rintro e w' ⟨rfl, rfl⟩)) | (go_at_call 69; ((with_reducible refine (rbits_any _ _).mono ?_); rintro e w' ⟨rfl, rfl⟩)))
    go_ret
    rw [HV.out]
    exact ⟨rfl, HR2.out, HK2.out⟩
set_option maxRecDepth 100000 in
set_option maxHeartbeats 4000000 in
theorem rnumber_any (rb : Nat) (s : ByteArray) (st : St) (w : World) (h : Rr w rb s st.1 st.2) (hi : st.1 ≤ s.size) (hs : s.size ≤ 80000) :
    Calls Tryz.prog 44 #[.pointer (some ⟨rb, 0, none⟩)] w fun e w' => e = .returned (.complex .f64 (numS s.data.toList (mustS s.data.toList [[32]] st)).1.1 (numS s.data.toList (mustS s.data.toList [[32]] st)).1.2) ∧
      Rr w' rb s (numS s.data.toList (mustS s.data.toList [[32]] st)).2.1 (numS s.data.toList (mustS s.data.toList [[32]] st)).2.2 ∧ Keeps w.heap.size [rb] w w' := by
  have hf1 := rfloat_any rb s st w h hi hs
  have hi1 := float_le s.data.toList _ (must_le s.data.toList [[32]] st (by rw [size_list]; exact hi))
  rw [size_list] at hi1
  unfold numS
  simp only []
  generalize floatS s.data.toList (mustS s.data.toList [[32]] st) = r1 at hf1 hi1 ⊢
  have HF := hid hf1
  obtain ⟨r2, hr2⟩ : ∃ x, x = floatS s.data.toList (mustS s.data.toList [[32]] r1.2) := ⟨_, rfl⟩
  rw [← hr2]
  have ER2 := hid hr2
  clear hf1 h hr2
  go_enter Tryz.func44, Tryz.ntmps44
  go_wp2_with fail
  refine HF.out.mono ?_
  rintro e w1 ⟨rfl, hR1, hK1⟩
  have hf2 := rfloat_any rb s r1.2 w1 hR1 hi1 hs
  rw [← ER2.out] at hf2
  have HF2 := hid hf2
  have HK1 := hid hK1
  clear hf2 hR1 hK1
  go_wp2_with fail
  refine HF2.out.mono ?_
  rintro e w2 ⟨rfl, hR2, hK2⟩
  have HR2 := hid hR2
  have HK2 := hid (HK1.out.trans (hK2.mono HK1.out.size (by simp)))
  clear hR2 hK2
  go_wp2_with (go_at_call 28; ((with_reducible refine (of_any _ _ _).mono ?_); rintro e w' ⟨rfl, rfl⟩))
  go_ret
  exact ⟨rfl, HR2.out, HK2.out⟩
end Go.Proofs.YtnagagcgmfkjjaaGreatDoor
