/- A number in sixteen sixteens, of the library that the given program calls. -/
import Derived.Test.YtnagagcgmfkjjaaGreatDoorC
import Derived.Lib.ConvBytes
import Derived.Lib.AtoiAllMem
import Derived.Lib.Hide
import Derived.Laws.Strings3
import Derived.Laws.Closers25
import Derived.Laws.Closers25b
import Derived.BigCall
import Derived.BigGuard
set_option linter.unusedSimpArgs false
set_option linter.unusedVariables false
namespace Go.Proofs.YtnagagcgmfkjjaaGreatDoor
open Go.RowKit

theorem or32 (c : UInt8) (h : 97 ≤ c.toNat ∧ c.toNat ≤ 102) : bits .or .u8 (c.toNat : Int) 32 = (c.toNat : Int) := by
  have H : ∀ n : Fin 256, 97 ≤ n.1 ∧ n.1 ≤ 102 → bits .or .u8 (n.1 : Int) 32 = (n.1 : Int) := by decide +kernel
  exact H ⟨c.toNat, UInt8.toNat_lt c⟩ h
theorem isHex_iff (c : UInt8) : isHex c = true ↔ (48 ≤ c.toNat ∧ c.toNat ≤ 57) ∨ (97 ≤ c.toNat ∧ c.toNat ≤ 102) := by
  unfold isHex
  simp [UInt8.le_iff_toNat_le]
theorem lower_any (c : Int) (w : World) : Calls Tryz.prog 115 #[.int .u8 c] w fun e w' => e = .returned (.int .u8 (bits .or .u8 c 32)) ∧ w = w' := by
  go_enter Tryz.func115, Tryz.ntmps115
  go_wp2
  go_ret
  exact ⟨rfl, rfl⟩
theorem hexV_lt (d : By) (hd : ∀ c ∈ d, isHex c = true) : hexV d < 16 ^ d.length := by
  induction h : d.length generalizing d with
  | zero => rw [List.eq_nil_of_length_eq_zero h]; decide
  | succ n ih =>
    have hne : d ≠ [] := by intro e; rw [e] at h; cases h
    obtain ⟨d', c, rfl⟩ : ∃ d' c, d = d' ++ [c] := ⟨d.dropLast, d.getLast hne, (List.dropLast_concat_getLast hne).symm⟩
    have h1 := hexC_hexD c (hd c (by simp))
    have h2 := ih d' (fun x hx => hd x (by simp [hx])) (by simpa using h)
    rw [hexV_snoc, Nat.pow_succ]
    omega
theorem take_snoc' (l : By) (k : Nat) (h : k < l.length) : l.take (k + 1) = l.take k ++ [l.getD k 0] := by
  rw [List.take_succ_eq_append_getElem h, List.getD_eq_getElem?_getD, List.getElem?_eq_getElem h]
  rfl
set_option maxHeartbeats 8000000 in
set_option maxRecDepth 100000 in
/-- internal/strconv.ParseUint of sixteen sixteens. -/
theorem iparse16 (t : ByteArray) (hsz : t.size = 16) (hh : ∀ c ∈ t.data.toList, isHex c = true) (w : World) :
    Calls Tryz.prog 102 #[.string t, .int .i64 16, .int .i64 64] w fun e w' => e = .returned (.tuple #[.int .u64 (hexV t.data.toList), .nilIface]) ∧ Below w.heap.size w w' := by
  have hemp : t.toList.isEmpty = false := by
    rw [← decide_eq_emptyBytes]
    exact decide_eq_false (fun h => by rw [h] at hsz; cases hsz)
  have hcv := Lib.run_convert_string_bytes (P := Tryz.prog) w 9 68 5 t (u := .string) Tryz.underlying9 Tryz.underlying68 Tryz.underlying5
  have hB : ∀ j, j < t.size → (Lib.bytesWorld w 5 t).cell? ⟨w.heap.size, j, none⟩ = some (.int .u8 (t.data.toList.getD j 0).toNat) := fun j hj => Lib.bytesWorld_cell w 5 t j hj
  have hbel : Below w.heap.size w (Lib.bytesWorld w 5 t) := ⟨rfl, rfl, rfl, by rw [Lib.bytesWorld_size]; omega, fun j hj => Lib.bytesWorld_at_old w 5 t j hj⟩
  obtain ⟨W1, hW1⟩ : ∃ W1, W1 = Lib.bytesWorld w 5 t := ⟨_, rfl⟩
  rw [← hW1] at hcv hB hbel
  clear hW1
  obtain ⟨bs, hL⟩ : ∃ bs, bs = t.data.toList := ⟨_, rfl⟩
  have hLn : bs.length = 16 := by rw [hL, ← hsz]; simp
  rw [← hL] at hB hh ⊢
  have HSZ := hid hsz
  rw [hsz] at hcv hB
  clear hL hsz
  have hmv : IntKind.u64.wrap (IntKind.u64.wrap 18446744073709551616 - 1) = 18446744073709551615 := by
    rw [IntKind.wrap_u64, IntKind.wrap_u64]
    decide
  have HB := hid hB
  have HH := hid hh
  have HBEL := hid hbel
  clear hB hh hbel
  go_enter Tryz.func102, Tryz.ntmps102
  go_wp2
  go_loop [12, 13, 101] (fun vu vn vi => ∃ (k : Nat) (a : Int), vu = .bool false ∧ vn = .int .u64 a ∧ vi = .int .i64 k ∧ k ≤ 16 ∧ Hid (a = ((hexV (bs.take k) : Nat) : Int))) (fun _ _ vi => 16 - (intOf vi).toNat)
  case atStart => exact ⟨0, 0, rfl, rfl, rfl, by omega, hid rfl⟩
  case round =>
    obtain ⟨k, a, rfl, rfl, rfl, hk, hha⟩ := hrel
    have hlt : hexV (bs.take k) < 16 ^ k := by
      have := hexV_lt (bs.take k) (fun c hc => HH.out c (List.mem_of_mem_take hc))
      rwa [List.length_take, Nat.min_eq_left (by omega)] at this
    have ha0 : 0 ≤ a := by rw [hha.out]; omega
    by_cases hkn : k < 16
    · have hp : 16 ^ k ≤ 16 ^ 15 := Nat.pow_le_pow_right (by decide) (by omega)
      have ha1 : a < 1152921504606846976 := by
        rw [hha.out]
        have : (16 : Nat) ^ 15 = 1152921504606846976 := by decide
        omega
      clear hlt hp
      have hc := HB.out k hkn
      have hx := HH.out (bs.getD k 0) (by rw [List.getD_eq_getElem?_getD, List.getElem?_eq_getElem (by omega)]; simp)
      have hs := take_snoc' bs k (by omega)
      have HS := hid hs
      clear hs
      generalize hcx : bs.getD k 0 = c at hc hx HS
      clear hcx
      have hc256 : c.toNat < 256 := c.toNat_lt
      have hor := or32 c
      rw [isHex_iff] at hx
      rcases hx with ⟨h1, h2⟩ | ⟨h1, h2⟩
      · have hd : hexD c = c.toNat - 48 := by unfold hexD; rw [if_pos (by simp [UInt8.le_iff_toNat_le]; omega)]
        have HN : Hid (a * 16 + ((c.toNat : Int) - 48) = ((hexV (bs.take (k + 1)) : Nat) : Int)) := by
          rw [HS.out, hexV_snoc, hd, hha.out]
          exact hid (by omega)
        clear hor hd hha
        go_wp2
        exact ⟨⟨k + 1, _, rfl, rfl, by rfl, by omega, HN⟩, by simp [intOf]; omega⟩
      · have hd : hexD c = c.toNat - 87 := by unfold hexD; rw [if_neg (by simp [UInt8.le_iff_toNat_le]; omega)]
        have hor' := or32 c ⟨h1, h2⟩
        have HN : Hid (a * 16 + ((c.toNat : Int) - 97 + 10) = ((hexV (bs.take (k + 1)) : Nat) : Int)) := by
          rw [HS.out, hexV_snoc, hd, hha.out]
          exact hid (by omega)
        clear hor hd hha
        go_wp2_with (go_at_call 115; ((with_reducible refine (lower_any _ _).mono ?_); rintro e w' ⟨rfl, rfl⟩))
        exact ⟨⟨k + 1, _, rfl, rfl, by rfl, by omega, HN⟩, by simp [intOf]; omega⟩
    · obtain rfl : k = 16 := by omega
      have hfin : a = ((hexV bs : Nat) : Int) := by
        rw [hha.out, List.take_of_length_le (by omega)]
      have HF := hid hfin
      clear hfin hha hlt
      go_wp2
      go_ret2
      exact ⟨by rw [HF.out]; rfl, HBEL.out⟩
theorem parse16 (t : ByteArray) (hsz : t.size = 16) (hh : ∀ c ∈ t.data.toList, isHex c = true) (w : World) :
    Calls Tryz.prog 81 #[.string t, .int .i64 16, .int .i64 64] w fun e w' => e = .returned (.tuple #[.int .u64 (hexV t.data.toList), .nilIface]) ∧ Below w.heap.size w w' := by
  have HH := hid hh
  have HS := hid hsz
  clear hh hsz
  go_enter Tryz.func81, Tryz.ntmps81
  go_wp2_with fail
  refine (iparse16 t HS.out HH.out _).mono ?_
  rintro e wq ⟨rfl, hb⟩
  go_wp2_with fail
  go_ret2
  exact ⟨rfl, hb⟩
/-- The row of sixteens. -/
def hexRow : ByteArray := ⟨#[48, 49, 50, 51, 52, 53, 54, 55, 56, 57, 97, 98, 99, 100, 101, 102]⟩
theorem inRow_hex : inRow hexRow = isHex := by
  have H : ∀ n : Fin 256, inRow hexRow (UInt8.ofNat n.1) = isHex (UInt8.ofNat n.1) := by decide +kernel
  funext c
  have := H ⟨c.toNat, UInt8.toNat_lt c⟩
  simpa using this
theorem extract_run (s : ByteArray) (p : UInt8 → Bool) (most i : Nat) : (s.extract i (i + (runS s.data.toList p most i).length)).data.toList = runS s.data.toList p most i := by
  rw [Lib.extract_data]
  rw [show i + (runS s.data.toList p most i).length - i = (runS s.data.toList p most i).length by omega]
  have h := run_take s.data.toList p most i
  rw [List.take_add] at h
  exact List.append_cancel_left h
set_option maxRecDepth 100000 in
set_option maxHeartbeats 2000000 in
theorem sixteen_any (rb : Nat) (s : ByteArray) (i : Nat) (a : Int) (w : World) (h : Rd w rb s i a) (hi : i ≤ s.size) (hs : s.size ≤ 70000) :
    Calls Tryz.prog 61 #[.pointer (some ⟨rb, 0, none⟩)] w fun e w' => e = .returned (.int .u64 (sixteenS s.data.toList (i, a)).1) ∧
      Rd w' rb s (sixteenS s.data.toList (i, a)).2.1 (sixteenS s.data.toList (i, a)).2.2 ∧ Keeps w.heap.size [rb] w w' := by
  have c1 := cell_of_block h 1
  simp at c1
  have H := hid h
  clear h
  by_cases ha : a < 0
  · have hd : decide (a < 0) = true := by simpa using ha
    have hrow := inRow_hex
    have hrun := run_any rb s hexRow i a 16 w H.out hi hs (by omega)
    rw [hrow] at hrun
    have HRUN := hid hrun
    clear hrun hrow
    unfold sixteenS
    rw [if_pos (show (i, a).2 < 0 from ha)]
    show Calls Tryz.prog 61 #[.pointer (some ⟨rb, 0, none⟩)] w fun e w' => _
    simp only []
    have hex := extract_run s isHex 16 i
    have hal := run_all s.data.toList isHex 16 i
    generalize hd2 : runS s.data.toList isHex 16 i = d at HRUN hex hal
    generalize s.extract i (i + d.length) = t at HRUN hex
    have htl : t.size = d.length := by rw [← hex]; simp
    clear hd2
    by_cases h16 : d.length = 16
    · rw [if_pos h16]
      have hts : t.size = 16 := by omega
      have hts' : ((t.size : Int) != 16) = false := by rw [hts]; rfl
      have HTS := hid hts
      have HEX := hid hex
      have H16 := hid h16
      have HAL := hid hal
      clear hts hex h16 htl hal
      go_enter Tryz.func61, Tryz.ntmps61
      go_wp2_with (go_at_call 38; ((with_reducible refine (ok_any rb s i a _ H.out).mono ?_); rintro e w' ⟨rfl, rfl⟩))
      refine HRUN.out.mono ?_
      rintro e wq ⟨rfl, hR, hK⟩
      have HRR := hid hR
      have HKK := hid hK
      clear hR hK
      go_wp2_with fail
      refine (parse16 t HTS.out (by rw [HEX.out]; exact HAL.out) _).mono ?_
      rintro e wq2 ⟨rfl, hb⟩
      have hsz := HKK.out.size
      have hlt := lt_of_block HRR.out
      have hlt0 := lt_of_block H.out
      have R2 := HRR.out.keep (Keeps.of_below (S := []) hb) hlt (by simp)
      have K2 := HKK.out.trans ((Keeps.of_below (S := [rb]) hb).mono hsz (fun _ _ h => h))
      have HR2 := hid R2
      have HK2 := hid K2
      clear R2 K2 hb
      go_wp2_with fail
      go_ret
      refine ⟨?_, ?_, HK2.out⟩
      · rw [← HEX.out]; rfl
      · have := HR2.out
        rw [H16.out] at this
        exact this
    · rw [if_neg h16]
      have hts' : ((t.size : Int) != 16) = true := by simp; omega
      have HEX := hid hex
      clear hex h16 htl
      go_enter Tryz.func61, Tryz.ntmps61
      go_wp2_with (go_at_call 38; ((with_reducible refine (ok_any rb s i a _ H.out).mono ?_); rintro e w' ⟨rfl, rfl⟩))
      refine HRUN.out.mono ?_
      rintro e wq ⟨rfl, hR, hK⟩
      have HRR := hid hR
      have HKK := hid hK
      clear hR hK
      go_wp2_with fail
      refine (wrong_any rb s (i + d.length) a i _ HRR.out).mono ?_
      rintro e wq2 ⟨rfl, hR, hK⟩
      rw [if_pos ha] at hR
      have hsz := HKK.out.size
      have HR2 := hid hR
      have HK2 := hid (HKK.out.trans (hK.mono hsz (fun _ _ h => h)))
      clear hR hK
      go_wp2_with fail
      go_ret
      exact ⟨rfl, HR2.out, HK2.out⟩
  · have hd : decide (a < 0) = false := by simpa using ha
    unfold sixteenS
    rw [if_neg (show ¬ (i, a).2 < 0 from ha)]
    go_enter Tryz.func61, Tryz.ntmps61
    go_wp2_with (go_at_call 38; ((with_reducible refine (ok_any rb s i a _ H.out).mono ?_); rintro e w' ⟨rfl, rfl⟩))
    go_ret
    exact ⟨rfl, H.out, Keeps.refl _ _ _⟩
end Go.Proofs.YtnagagcgmfkjjaaGreatDoor
