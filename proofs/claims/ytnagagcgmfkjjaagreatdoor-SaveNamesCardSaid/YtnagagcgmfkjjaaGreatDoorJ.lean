/- The sum of a text's bytes and a fault, of the given program; the shortest row of sixteens. -/
import Derived.Test.YtnagagcgmfkjjaaGreatDoorS
import Derived.Lib.ConvBytes
import Derived.Laws.BitsAllLaws
import Derived.Lib.Hide
import Derived.WalkKit
import Derived.Outline
import Derived.Deep.LoopGhost
import Derived.IntWalk
import Derived.BigCall
import Derived.BigGuard
set_option linter.unusedSimpArgs false
set_option linter.unusedVariables false
namespace Go.Proofs.YtnagagcgmfkjjaaGreatDoor
open Go.RowKit
/-- The shortest row of sixteens. -/
def hexM (n : Nat) : By := if n < 16 then [hexC n] else hexM (n / 16) ++ [hexC (n % 16)]
theorem hexW_len : ∀ (k n : Nat), (hexW k n).length = k := by
  intro k
  induction k with
  | zero => intro n; rfl
  | succ k ih => intro n; simp [hexW, ih]
theorem hexW_zero : ∀ (k : Nat), hexW k 0 = List.replicate k 48 := by
  intro k
  induction k with
  | zero => rfl
  | succ k ih =>
    rw [hexW, Nat.zero_div, Nat.zero_mod, ih, List.replicate_succ']
    rfl
theorem hexM_pad : ∀ (k n : Nat), 0 < k → n < 16 ^ k → (hexM n).length ≤ k ∧ List.replicate (k - (hexM n).length) 48 ++ hexM n = hexW k n := by
  intro k
  induction k with
  | zero => intro n h; omega
  | succ k ih =>
    intro n _ hn
    rw [hexM]
    by_cases h : n < 16
    · rw [if_pos h, hexW, show n / 16 = 0 by omega, hexW_zero, Nat.mod_eq_of_lt h]
      simp
    · rw [if_neg h, hexW]
      have hk : 0 < k := by
        rcases Nat.eq_zero_or_pos k with rfl | h'
        · simp at hn; omega
        · exact h'
      obtain ⟨h1, h2⟩ := ih (n / 16) hk (by rw [Nat.pow_succ] at hn; omega)
      simp only [List.length_append, List.length_singleton]
      refine ⟨by omega, ?_⟩
      rw [← List.append_assoc, show k + 1 - ((hexM (n / 16)).length + 1) = k - (hexM (n / 16)).length by omega, h2]
theorem hexM_lt (n : Nat) (h : n < 16) : hexM n = [hexC n] := by rw [hexM, if_pos h]
theorem hexM_ge (n : Nat) (h : ¬ n < 16) : hexM n = hexM (n / 16) ++ [hexC (n % 16)] := by rw [hexM, if_neg h]

theorem take_snocJ (l : By) (k : Nat) (h : k < l.length) : l.take (k + 1) = l.take k ++ [l.getD k 0] := by
  rw [List.take_succ_eq_append_getElem h, List.getD_eq_getElem?_getD, List.getElem?_eq_getElem h]
  rfl
def sumF (n : Nat) (c : UInt8) : Nat := ((n ^^^ c.toNat) * 1099511628211) % 18446744073709551616
theorem sumS_eq (l : By) : sumS l = l.foldl sumF 14695981039346656037 := rfl
theorem sumF_lt (n : Nat) (c : UInt8) : sumF n c < 18446744073709551616 := Nat.mod_lt _ (by decide)
theorem sum_lt (l : By) : l.foldl sumF 14695981039346656037 < 18446744073709551616 := by
  rcases List.eq_nil_or_concat l with rfl | ⟨l', c, rfl⟩
  · show (14695981039346656037 : Nat) < 18446744073709551616
    omega
  · rw [List.concat_eq_append, List.foldl_append, List.foldl_cons, List.foldl_nil]; exact sumF_lt _ _
set_option maxHeartbeats 4000000 in
set_option maxRecDepth 100000 in
theorem sum_any (t : ByteArray) (hsz : t.size ≤ 10000000) (w : World) :
    Calls Tryz.prog 62 #[.string t] w fun e w' => e = .returned (.int .u64 (sumS t.data.toList)) ∧ Below w.heap.size w w' := by
  have hcv := Lib.run_convert_string_bytes (P := Tryz.prog) w 9 68 5 t (u := .string) Tryz.underlying9 Tryz.underlying68 Tryz.underlying5
  have hB : ∀ j, j < t.size → (Lib.bytesWorld w 5 t).cell? ⟨w.heap.size, j, none⟩ = some (.int .u8 (t.data.toList.getD j 0).toNat) := fun j hj => Lib.bytesWorld_cell w 5 t j hj
  have hbel : Below w.heap.size w (Lib.bytesWorld w 5 t) := ⟨rfl, rfl, rfl, by rw [Lib.bytesWorld_size]; omega, fun j hj => Lib.bytesWorld_at_old w 5 t j hj⟩
  obtain ⟨W1, hW1⟩ : ∃ W1, W1 = Lib.bytesWorld w 5 t := ⟨_, rfl⟩
  rw [← hW1] at hcv hB hbel
  clear hW1
  rw [sumS_eq]
  obtain ⟨bs, hL⟩ : ∃ bs, bs = t.data.toList := ⟨_, rfl⟩
  have hLn : bs.length = t.size := by rw [hL]; simp
  rw [← hL] at hB ⊢
  clear hL
  have HB := hid hB
  have HBEL := hid hbel
  have HLN := hid hLn
  clear hB hbel hLn
  go_enter Tryz.func62, Tryz.ntmps62
  go_wp2
  go_loop [3, 9] (fun vn vi => ∃ (k a : Nat), vn = .int .u64 a ∧ vi = .int .i64 k ∧ k ≤ t.size ∧ Hid (a = (bs.take k).foldl sumF 14695981039346656037)) (fun _ vi => t.size - (intOf vi).toNat)
  case atStart => exact ⟨0, 14695981039346656037, rfl, rfl, by omega, hid (by rw [List.take_zero, List.foldl_nil])⟩
  case round =>
    obtain ⟨k, a, rfl, rfl, hk, hha⟩ := hrel
    by_cases hkn : k < t.size
    · have hc := HB.out k hkn
      have hlen := HLN.out
      have ha := sum_lt (bs.take k)
      rw [← hha.out] at ha
      have hs := take_snocJ bs k (by omega)
      generalize hcx : bs.getD k 0 = c at hc hs
      have hx := u64_xor_nat a c.toNat ha (by have := c.toNat_lt; omega)
      have hm : IntKind.u64.wrap (((a ^^^ c.toNat : Nat) : Int) * 1099511628211) = ((sumF a c : Nat) : Int) := by
        rw [IntKind.wrap_u64]
        unfold sumF
        omega
      have HN : Hid (sumF a c = (bs.take (k + 1)).foldl sumF 14695981039346656037) := by
        rw [hs, List.foldl_append, ← hha.out, List.foldl_cons, List.foldl_nil]; exact hid (Eq.refl (sumF a c))
      have hw : IntKind.u64.wrap (c.toNat : Int) = (c.toNat : Int) := by rw [IntKind.wrap_u64]; have := c.toNat_lt; omega
      clear hs hcx hlen hha
      go_wp2
      exact ⟨⟨k + 1, sumF a c, rfl, by rfl, by omega, HN⟩, by simp [intOf]; omega⟩
    · obtain rfl : k = t.size := by omega
      have hlen := HLN.out
      have hf := hha.out
      rw [List.take_of_length_le (by omega)] at hf
      have HF := hid hf
      clear hf hlen hha
      go_wp2
      go_ret
      exact ⟨by rw [HF.out]; rfl, HBEL.out⟩
theorem fault_any (c p : Int) (w : World) :
    Calls Tryz.prog 33 #[.int .i64 c, .int .i64 p] w fun e w' => e = .returned (.iface 121 (.pointer (some ⟨w.heap.size, 0, none⟩))) ∧ w' = w.alloc (.cells #[.int .i64 c, .int .i64 p] 41) := by
  go_enter Tryz.func33, Tryz.ntmps33
  go_wp2
  go_ret
  exact ⟨rfl, rfl⟩
end Go.Proofs.YtnagagcgmfkjjaaGreatDoor
