/- Words that must stand there, of the given program's reader. -/
import Derived.Test.YtnagagcgmfkjjaaGreatDoorB
import Derived.Lib.IndexBytes
set_option linter.unusedSimpArgs false
set_option linter.unusedVariables false
namespace Go.Proofs.YtnagagcgmfkjjaaGreatDoor
open Go.RowKit

theorem prefix_eq (s p : ByteArray) (i : Nat) (hi : i ≤ s.size) : Lib.hasPrefix (s.extract i s.size).data.toList p.data.toList = p.data.toList.isPrefixOf (s.data.toList.drop i) := by
  unfold Lib.hasPrefix
  rw [Lib.extract_to_end]
set_option maxRecDepth 100000 in
set_option maxHeartbeats 2000000 in
theorem must_any (rb : Nat) (s : ByteArray) (i : Nat) (a : Int) (ws : List ByteArray) (g n c : Nat) (w : World) (h : Rd w rb s i a) (hi : i ≤ s.size) (hs : s.size ≤ 70000) (hn : ws.length = n) (hn2 : n ≤ 100) (hg : g ≠ rb) (hg2 : g < w.heap.size)
    (hc : ∀ j, j < n → w.cell? ⟨g, j, none⟩ = some (.string (ws.getD j default))) :
    Calls Tryz.prog 59 #[.pointer (some ⟨rb, 0, none⟩), .slice (some ⟨g, 0, none⟩) n c] w fun e w' => e = .returned (.tuple #[]) ∧
      Rd w' rb s (mustS s.data.toList (ws.map fun x => x.data.toList) (i, a)).1 (mustS s.data.toList (ws.map fun x => x.data.toList) (i, a)).2 ∧ Keeps w.heap.size [rb] w w' := by
  have H := hid h
  have C := hid hc
  clear h hc
  go_enter Tryz.func59, Tryz.ntmps59
  go_wp2_with fail
  go_loopw [8] (fun t wr => ∃ (k i' : Nat) (a' : Int), k ≤ n ∧ t = .int .i64 k ∧ i' ≤ s.size ∧ Rd wr rb s i' a' ∧ Keeps w.heap.size [rb] w wr ∧ mustS s.data.toList ((ws.drop k).map fun x => x.data.toList) (i', a') = mustS s.data.toList (ws.map fun x => x.data.toList) (i, a)) (fun t _ => n - (intOf t).toNat)
  case atStart => exact ⟨0, i, a, Nat.zero_le _, rfl, hi, H.out, Keeps.refl _ _ _, rfl⟩
  case round =>
    obtain ⟨k, i', a', hk, rfl, hi', HR, HK, hm⟩ := hrel
    have hsz := HK.size
    by_cases hlt : k < n
    · have ck : wr.cell? ⟨g, k, none⟩ = some (.string (ws.getD k default)) := (HK.cell (q := ⟨g, k, none⟩) hg2 (by simpa using hg)).trans (C.out k hlt)
      have hdr : ws.drop k = ws.getD k default :: ws.drop (k + 1) := by
        rw [List.drop_eq_getElem_cons (by omega), List.getD_eq_getElem?_getD, List.getElem?_eq_getElem (by omega)]
        rfl
      rw [hdr, List.map_cons] at hm
      generalize hx : ws.getD k default = x at ck hm
      clear hx hdr
      have hpe := prefix_eq s x i' hi'
      have hpf := prefix_eq s x i' hi'
      rw [Lib.extract_data] at hpf
      have d0 := cell_of_block HR 0
      have d1 := cell_of_block HR 1
      have d2 := cell_of_block HR 2
      have f1 := free_of_block HR 1
      simp at d0 d1 d2
      have HRR := hid HR
      have HKK := hid HK
      have HM := hid hm
      clear HR HK hm
      by_cases ha : a' < 0
      · have hd : decide (a' < 0) = true := by simpa using ha
        cases hp : x.data.toList.isPrefixOf (s.data.toList.drop i')
        · rw [hp] at hpe hpf
          have HP := hid hp
          clear hp
          go_wp2_with (go_at_call 38; ((with_reducible refine (ok_any rb s i' a' _ HRR.out).mono ?_); rintro e w' ⟨rfl, rfl⟩))
          go_quiet ((go_at_call 79; exact Calls.quiet_of_same (Tryz.strings_HasPrefix _ _ _)))
          go_wp2_with fail
          refine (wrong_any rb s i' a' i' _ (HRR.out.drewN nq)).mono ?_
          rintro e wq ⟨rfl, hR, hK⟩
          go_wp2_with fail
          refine bodyPost_ret (results_none rfl _ _ _) rfl ?_
          have e1 := HM.out
          rw [mustS, if_pos ha, if_neg (by rw [HP.out]; decide)] at e1
          rw [← e1]
          rw [if_pos ha] at hR
          exact ⟨rfl, hR, (HKK.out.drewN nq).trans (hK.mono (by rw [show (wr.drewN nq).heap.size = wr.heap.size from rfl]; omega) (fun _ _ h => h))⟩
        · rw [hp] at hpe hpf
          have HP := hid hp
          have hle : i' + x.size ≤ s.size := by
            obtain ⟨t, ht⟩ := List.isPrefixOf_iff_prefix.1 hp
            have h1 : (s.data.toList.drop i').length = x.data.toList.length + t.length := by rw [← ht]; simp
            simp at h1
            have e1 : s.data.size = s.size := rfl
            have e2 : x.data.size = x.size := rfl
            omega
          clear hp
          go_wp2_with (go_at_call 38; ((with_reducible refine (ok_any rb s i' a' _ HRR.out).mono ?_); rintro e w' ⟨rfl, rfl⟩))
          go_quiet ((go_at_call 79; exact Calls.quiet_of_same (Tryz.strings_HasPrefix _ _ _)))
          go_wp2_with fail
          go_roundw
          case rel =>
            have R1 : Rd ((wr.drewN nq).setCell ⟨rb, 1, none⟩ (.int .i64 (i' + x.size))) rb s (i' + x.size) a' := (HRR.out.drewN nq).move (i' + x.size)
            have e1 := HM.out
            rw [mustS, if_pos ha, if_pos HP.out] at e1
            exact ⟨k + 1, i' + x.size, a', by omega, by rfl, hle, R1, (HKK.out.drewN nq).set (Or.inl (by simp)) _ _, e1⟩
          case measure => simp [intOf]; omega
      · have hd : decide (a' < 0) = false := by simpa using ha
        go_wp2_with (go_at_call 38; ((with_reducible refine (ok_any rb s i' a' _ HRR.out).mono ?_); rintro e w' ⟨rfl, rfl⟩))
        refine bodyPost_ret (results_none rfl _ _ _) rfl ?_
        have e1 := HM.out
        rw [must_not _ _ _ (by show ¬ a' < 0; omega)] at e1
        rw [← e1]
        exact ⟨rfl, HRR.out, HKK.out⟩
    · obtain rfl : k = n := by omega
      have e1 := hm
      rw [List.drop_of_length_le (by omega)] at e1
      have HRR := hid HR
      have HKK := hid HK
      have HE := hid e1
      clear hm e1 HR HK
      go_wp2_with fail
      go_end0
      have e1 := HE.out
      rw [List.map_nil, mustS] at e1
      rw [← e1]
      exact ⟨rfl, HRR.out, HKK.out⟩
end Go.Proofs.YtnagagcgmfkjjaaGreatDoor
