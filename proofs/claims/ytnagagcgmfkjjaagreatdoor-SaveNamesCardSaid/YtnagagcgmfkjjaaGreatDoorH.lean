/- Decimal numbers, of the library that the given program calls. -/
import Derived.Test.YtnagagcgmfkjjaaGreatDoorG
set_option linter.unusedSimpArgs false
set_option linter.unusedVariables false
namespace Go.Proofs.YtnagagcgmfkjjaaGreatDoor
open Go.RowKit

theorem decV_mono (d : By) (k : Nat) : decV (d.take k) ≤ decV d := by
  have key : ∀ (r : By) (n : Nat), n ≤ r.foldl (fun n c => 10 * n + (c.toNat - 48)) n := by
    intro r
    induction r with
    | nil => intro n; exact Nat.le_refl _
    | cons c r ih => intro n; exact Nat.le_trans (show n ≤ 10 * n + (c.toNat - 48) by omega) (ih _)
  have h : decV d = (d.drop k).foldl (fun n c => 10 * n + (c.toNat - 48)) (decV (d.take k)) := by
    unfold decV
    rw [← List.foldl_append, List.take_append_drop]
  rw [h]
  exact key _ _
theorem isDig_iff (c : UInt8) : isDig c = true ↔ 48 ≤ c.toNat ∧ c.toNat ≤ 57 := by
  unfold isDig
  simp [UInt8.le_iff_toNat_le]
set_option maxHeartbeats 8000000 in
set_option maxRecDepth 100000 in
/-- internal/strconv.ParseUint of decimal digits, at 63 bits. -/
theorem iparse63 (t : ByteArray) (hsz0 : 0 < t.size) (hsz : t.size ≤ 70000) (hh : ∀ c ∈ t.data.toList, isDig c = true) (w : World) :
    Calls Tryz.prog 102 #[.string t, .int .i64 10, .int .i64 63] w fun e w' => e = .returned (if decV t.data.toList < 9223372036854775808 then .tuple #[.int .u64 (decV t.data.toList), .nilIface] else .tuple #[.int .u64 9223372036854775807, .iface 178 (.int .i64 1)]) ∧ Below w.heap.size w w' := by
  have hemp : t.toList.isEmpty = false := by
    rw [← decide_eq_emptyBytes]
    exact decide_eq_false (fun h => by rw [h] at hsz0; exact absurd hsz0 (by decide))
  have hcv := Lib.run_convert_string_bytes (P := Tryz.prog) w 9 68 5 t (u := .string) Tryz.underlying9 Tryz.underlying68 Tryz.underlying5
  have hB : ∀ j, j < t.size → (Lib.bytesWorld w 5 t).cell? ⟨w.heap.size, j, none⟩ = some (.int .u8 (t.data.toList.getD j 0).toNat) := fun j hj => Lib.bytesWorld_cell w 5 t j hj
  have hbel : Below w.heap.size w (Lib.bytesWorld w 5 t) := ⟨rfl, rfl, rfl, by rw [Lib.bytesWorld_size]; omega, fun j hj => Lib.bytesWorld_at_old w 5 t j hj⟩
  obtain ⟨W1, hW1⟩ : ∃ W1, W1 = Lib.bytesWorld w 5 t := ⟨_, rfl⟩
  rw [← hW1] at hcv hB hbel
  clear hW1
  obtain ⟨bs, hL⟩ : ∃ bs, bs = t.data.toList := ⟨_, rfl⟩
  have hLn : bs.length = t.size := by rw [hL]; simp
  rw [← hL] at hB hh ⊢
  clear hL
  have hmv : IntKind.u64.wrap (9223372036854775808 - 1) = 9223372036854775807 := by
    rw [IntKind.wrap_u64]
    decide
  obtain ⟨R, hR⟩ : ∃ R : Value, R = (if decV bs < 9223372036854775808 then .tuple #[.int .u64 (decV bs), .nilIface] else .tuple #[.int .u64 9223372036854775807, .iface 178 (.int .i64 1)]) := ⟨_, rfl⟩
  rw [← hR]
  have HRV := hid hR
  clear hR
  have HB := hid hB
  have HH := hid hh
  have HBEL := hid hbel
  have HLN := hid hLn
  clear hB hh hbel hLn
  go_enter Tryz.func102, Tryz.ntmps102
  go_wp2
  go_loop [12, 13, 101] (fun vu vn vi => ∃ (k : Nat) (a : Int), vu = .bool false ∧ vn = .int .u64 a ∧ vi = .int .i64 k ∧ k ≤ t.size ∧ Hid (a = ((decV (bs.take k) : Nat) : Int) ∧ decV (bs.take k) < 9223372036854775808)) (fun _ _ vi => t.size - (intOf vi).toNat)
  case atStart => exact ⟨0, 0, rfl, rfl, rfl, by omega, hid ⟨rfl, by rw [List.take_zero]; decide⟩⟩
  case round =>
    obtain ⟨k, a, rfl, rfl, rfl, hk, hha⟩ := hrel
    obtain ⟨ha, hacc⟩ := hha.out
    clear hha
    have ha0 : 0 ≤ a := by omega
    have ha1 : a < 9223372036854775808 := by omega
    by_cases hkn : k < t.size
    · have hc := HB.out k hkn
      have hlen := HLN.out
      have hx := HH.out (bs.getD k 0) (by rw [List.getD_eq_getElem?_getD, List.getElem?_eq_getElem (by omega)]; simp)
      have hs := take_snoc' bs k (by omega)
      have hmono := decV_mono bs (k + 1)
      rw [hs, decV_snoc] at hmono
      have HS := hid hs
      clear hs hlen
      generalize hcx : bs.getD k 0 = c at hc hx HS hmono
      clear hcx
      have hc256 : c.toNat < 256 := c.toNat_lt
      rw [isDig_iff] at hx
      obtain ⟨h1, h2⟩ := hx
      by_cases hD : 10 * decV (bs.take k) + (c.toNat - 48) < 9223372036854775808
      · have HN : Hid (a * 10 + ((c.toNat : Int) - 48) = ((decV (bs.take (k + 1)) : Nat) : Int) ∧ decV (bs.take (k + 1)) < 9223372036854775808) := by
          rw [HS.out, decV_snoc]
          exact hid ⟨by omega, hD⟩
        have icut : a < 1844674407370955162 := by omega
        have iov : a * 10 + ((c.toNat : Int) - 48) ≤ 9223372036854775807 := by omega
        clear hmono hD ha hacc
        go_wp2
        exact ⟨⟨k + 1, _, rfl, rfl, by rfl, by omega, HN⟩, by simp [intOf]; omega⟩
      · have hF : ¬ decV bs < 9223372036854775808 := by omega
        have HF := hid hF
        clear hF
        by_cases hcut : 1844674407370955162 ≤ a
        · clear hmono hD ha hacc
          go_wp2
          go_ret2
          exact ⟨by rw [HRV.out, if_neg HF.out]; rfl, HBEL.out⟩
        · by_cases hov : 18446744073709551616 ≤ a * 10 + ((c.toNat : Int) - 48)
          · have hwr : IntKind.u64.wrap (a * 10 + ((c.toNat : Int) - 48)) = a * 10 + ((c.toNat : Int) - 48) - 18446744073709551616 := by
              rw [IntKind.wrap_u64]
              omega
            have icut : a < 1844674407370955162 := by omega
            clear hmono hD ha hacc hcut
            go_wp2
            go_ret2
            exact ⟨by rw [HRV.out, if_neg HF.out]; rfl, HBEL.out⟩
          · have icut : a < 1844674407370955162 := by omega
            have i1 : a * 10 + ((c.toNat : Int) - 48) < 18446744073709551616 := by omega
            have i2 : 9223372036854775807 < a * 10 + ((c.toNat : Int) - 48) := by omega
            clear hmono hD ha hacc hcut hov
            go_wp2
            go_ret2
            exact ⟨by rw [HRV.out, if_neg HF.out]; rfl, HBEL.out⟩
    · obtain rfl : k = t.size := by omega
      have hlen := HLN.out
      rw [List.take_of_length_le (by omega)] at ha hacc
      have HF := hid ha
      have HA := hid hacc
      clear ha hacc hlen
      go_wp2
      go_ret2
      exact ⟨by rw [HRV.out, if_pos HA.out, HF.out]; rfl, HBEL.out⟩
end Go.Proofs.YtnagagcgmfkjjaaGreatDoor
