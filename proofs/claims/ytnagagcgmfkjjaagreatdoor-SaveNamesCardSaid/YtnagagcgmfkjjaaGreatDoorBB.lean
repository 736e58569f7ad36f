/- The document's reader: a number in sixteen sixteens. -/
import Derived.Test.YtnagagcgmfkjjaaGreatDoorBA
set_option linter.unusedSimpArgs false
set_option linter.unusedVariables false
namespace Go.Proofs.YtnagagcgmfkjjaaGreatDoor
open Go.RowKit

/-- The value of a sixteen that was found among the first j, or -1. -/
def fnd (c : UInt8) (j : Nat) : Int := if isHex c && decide (hexD c < j) then (hexD c : Int) else -1
def hexRow16 : ByteArray := ⟨#[48, 49, 50, 51, 52, 53, 54, 55, 56, 57, 97, 98, 99, 100, 101, 102]⟩
theorem fnd_step (c : UInt8) (j : Nat) (hj : j < 16) : (fnd c (j + 1) = if c = hexC j then (j : Int) else fnd c j) := by
  have H : ∀ (n : Fin 256) (m : Fin 16), (fnd (UInt8.ofNat n.1) (m.1 + 1) = if UInt8.ofNat n.1 = hexC m.1 then (m.1 : Int) else fnd (UInt8.ofNat n.1) m.1) := by decide +kernel
  have := H ⟨c.toNat, UInt8.toNat_lt c⟩ ⟨j, hj⟩
  simpa using this
theorem fnd_end (c : UInt8) : fnd c 16 = if isHex c then (hexD c : Int) else -1 := by
  have H : ∀ (n : Fin 256), fnd (UInt8.ofNat n.1) 16 = if isHex (UInt8.ofNat n.1) then (hexD (UInt8.ofNat n.1) : Int) else -1 := by decide +kernel
  have := H ⟨c.toNat, UInt8.toNat_lt c⟩
  simpa using this
theorem run_get (l : By) (p : UInt8 → Bool) (m i k : Nat) (hk : k < m) (hall : ∀ j, j < k → ∃ c, l[i + j]? = some c ∧ p c = true) :
    (∀ c, l[i + k]? = some c → p c = false → (runS l p m i).length = k) ∧ (l[i + k]? = none → (runS l p m i).length = k) := by
  refine ⟨fun c hc hp => run_len l p m i k hall (by omega) (Or.inr (Or.inr ⟨c, hc, hp⟩)), fun hn => run_len l p m i k hall (by omega) (Or.inr (Or.inl hn))⟩
theorem run_full (l : By) (p : UInt8 → Bool) (m i : Nat) (hall : ∀ j, j < m → ∃ c, l[i + j]? = some c ∧ p c = true) : (runS l p m i).length = m ∧ runS l p m i = (l.drop i).take m := by
  have h := run_len l p m i m hall (Nat.le_refl _) (Or.inl rfl)
  refine ⟨h, ?_⟩
  have h2 := run_take l p m i
  rw [h, List.take_add] at h2
  exact (List.append_cancel_left h2).symm
theorem row16_get (d : Nat) (h : d < 16) : hexRow16[d]'h = hexC d := by
  have H : ∀ n : Fin 16, hexRow16[n.1]'n.2 = hexC n.1 := by decide +kernel
  exact H ⟨d, h⟩
theorem or_hex (n d : Nat) (hn : n < 1152921504606846976) (hd : d < 16) : bits .or .u64 ((16 * n : Nat) : Int) (d : Int) = ((16 * n + d : Nat) : Int) := by
  have h1 := u64_or_nat (16 * n) d (by omega) (by omega)
  rw [h1]
  congr 1
  have := Nat.two_pow_add_eq_or_of_lt (i := 4) (b := d) (by omega) n
  rw [← this]
set_option maxRecDepth 100000 in
set_option maxHeartbeats 8000000 in
theorem rsixteen_any (rb : Nat) (s : ByteArray) (i : Nat) (a : Int) (w : World) (h : Rr w rb s i a) (hi : i ≤ s.size) (hs : s.size ≤ 80000) :
    Calls Tryz.prog 67 #[.pointer (some ⟨rb, 0, none⟩)] w fun e w' => e = .returned (.int .u64 (sixteenS s.data.toList (i, a)).1) ∧
      Rr w' rb s (sixteenS s.data.toList (i, a)).2.1 (sixteenS s.data.toList (i, a)).2.2 ∧ Keeps w.heap.size [rb] w w' := by
  have c1 := cell_of_block h 1
  have c2 := cell_of_block h 2
  simp at c1 c2
  have H := hid h
  haveI : Has w rb := ⟨lt_of_block h⟩
  clear h
  by_cases ha : a < 0
  · have hd : decide (0 ≤ a) = false := by simpa using ha
    rw [hd] at c2
    obtain ⟨Q, hQ⟩ : ∃ Q, Q = sixteenS s.data.toList (i, a) := ⟨_, rfl⟩
    rw [← hQ]
    unfold sixteenS at hQ
    rw [if_pos (show (i, a).2 < 0 from ha)] at hQ
    simp only [] at hQ
    have HQ := hid hQ
    clear hQ
    go_enter Tryz.func67, Tryz.ntmps67
    go_wp2_with fail
    go_loopw [4, 5] (fun t4 t5 wr => ∃ (k n : Nat), t5 = .int .i64 k ∧ t4 = .int .u64 n ∧ k ≤ 16 ∧ i + k ≤ s.size ∧ Hid (Rr wr rb s (i + k) a) ∧ Hid (Keeps w.heap.size [rb] w wr) ∧ Hid (n = hexV ((s.data.toList.drop i).take k)) ∧ Hid (∀ j, j < k → ∃ c, s.data.toList[i + j]? = some c ∧ isHex c = true)) (fun _ t5 _ => 16 - (intOf t5).toNat)
    case atStart => exact ⟨0, 0, rfl, rfl, by omega, hi, H, hid (Keeps.refl _ _ _), hid rfl, hid (fun j hj => by omega)⟩
    case round =>
      obtain ⟨k, n, rfl, rfl, hk, hik, HR, HK, HN, HALL⟩ := hrel
      obtain ⟨m, hm⟩ : ∃ m, m = i + k := ⟨_, rfl⟩
      rw [← hm] at HR
      have d0 := cell_of_block HR.out 0
      have d1 := cell_of_block HR.out 1
      have d2 := cell_of_block HR.out 2
      have f1 := free_of_block HR.out 1
      simp at d0 d1 d2
      rw [hd] at d2
      haveI : Has wr rb := ⟨lt_of_block HR.out⟩
      by_cases hk16 : k < 16
      · by_cases hms : m < s.size
        · have hget : s.data.toList[i + k]? = some s[m] := by
            rw [← hm, Array.getElem?_toList]
            exact Array.getElem?_eq_getElem (by simpa using hms)
          have hms' : (m : Int) < (s.size : Int) := by omega
          have hms'' : decide (m < s.size) = true := by simpa using hms
          have HG := hid hget
          have HM := hid hm
          clear hget hm
          go_wp2_with fail
          clear d0 d1 d2 f1
          go_loopw [6, 7] (fun t6 t7 wq => ∃ (j : Nat), t7 = .int .i64 j ∧ t6 = .int .i64 (fnd s[m] j) ∧ j ≤ 16 ∧ Hid (Rr wq rb s m a) ∧ Hid (Keeps w.heap.size [rb] w wq)) (fun _ t7 _ => 16 - (intOf t7).toNat)
          case atStart => exact ⟨0, rfl, by unfold fnd; simp, by omega, HR, HK⟩
          case round =>
            obtain ⟨j, rfl, rfl, hj, HW, HKW⟩ := hrel
            have e0 := cell_of_block HW.out 0
            have e1 := cell_of_block HW.out 1
            have e2 := cell_of_block HW.out 2
            have g1 := free_of_block HW.out 1
            simp at e0 e1 e2
            rw [hd] at e2
            haveI : Has wr rb := ⟨lt_of_block HW.out⟩
            by_cases hj16 : j < 16
            · have hj16' : (j : Int) < 16 := by omega
              have hj16'' : decide ((j : Int) < 16) = true := by simpa using hj16'
              have hst := fnd_step s[m] j hj16
              have hrow := row16_get j hj16
              unfold hexRow16 at hrow
              have hj0 : (0 : Int) ≤ (j : Int) := by omega
              have hm0 : (0 : Int) ≤ (m : Int) := by omega
              by_cases he : s[m] = hexC j
              · rw [if_pos he] at hst
                have HE := hid he
                have he' : ((s[m].toNat : Int) == ((hexC j).toNat : Int)) = true := by rw [he]; simp
                have HST := hid hst
                clear hst he
                go_wp2_with fail
                go_quiet (fail)
                go_wp2_with fail
                go_quiet (fail)
                go_wp2_with fail
                go_roundw
                case rel => exact ⟨j + 1, by rfl, by rw [HST.out], by omega, hid HW.out, hid (HKW.out.drewN _)⟩
                case measure => simp [intOf]; omega
              · rw [if_neg he] at hst
                have he' : ((s[m].toNat : Int) == ((hexC j).toNat : Int)) = false := by
                  rw [beq_eq_false_iff_ne]
                  intro h
                  exact he (UInt8.toNat_inj.1 (by omega))
                have HST := hid hst
                clear hst he
                go_wp2_with fail
                go_quiet (fail)
                go_wp2_with fail
                go_quiet (fail)
                go_wp2_with fail
                go_roundw
                case rel => exact ⟨j + 1, by rfl, by rw [HST.out], by omega, hid HW.out, hid (HKW.out.drewN _)⟩
                case measure => simp [intOf]; omega
            · obtain rfl : j = 16 := by omega
              have hfe := fnd_end s[m]
              by_cases hx : isHex s[m] = true
              · rw [if_pos hx] at hfe
                have hd16 := (hexC_hexD s[m] hx).2
                obtain ⟨q, hq⟩ : ∃ q, q = hexD s[m] := ⟨_, rfl⟩
                rw [← hq] at hfe hd16
                have hlen : ((s.data.toList.drop i).take k).length = k := by rw [List.length_take, List.length_drop, size_list, Nat.min_eq_left (by omega)]
                have hnlt : n < 16 ^ k := by
                  rw [HN.out]
                  have := hexV_lt ((s.data.toList.drop i).take k) (fun c hc => by
                    obtain ⟨j, hj, rfl⟩ := List.getElem_of_mem hc
                    have hjk : j < k := by rw [hlen] at hj; exact hj
                    obtain ⟨c', h1, h2⟩ := HALL.out j hjk
                    have e : ((s.data.toList.drop i).take k)[j]? = some c' := by rw [List.getElem?_take_of_lt hjk, List.getElem?_drop]; exact h1
                    obtain ⟨h3, h4⟩ := List.getElem?_eq_some_iff.1 e
                    rw [h4]; exact h2)
                  rw [hlen] at this
                  exact this
                have hn15 : n < 1152921504606846976 := by
                  have h2 : 16 ^ k ≤ 16 ^ 15 := Nat.pow_le_pow_right (by decide) (by omega)
                  have h3 : (16 : Nat) ^ 15 = 1152921504606846976 := by decide
                  omega
                have hor := or_hex n q hn15 hd16
                have htk : (s.data.toList.drop i).take (k + 1) = (s.data.toList.drop i).take k ++ [s[m]] := by
                  rw [List.take_succ_eq_append_getElem (by rw [List.length_drop, size_list]; have := HM.out; omega)]
                  congr 2
                  rw [List.getElem_drop]
                  have h1 := HG.out
                  rw [List.getElem?_eq_getElem (by rw [size_list]; have := HM.out; omega)] at h1
                  exact Option.some.inj h1
                have HN2 : Hid (16 * n + q = hexV ((s.data.toList.drop i).take (k + 1))) := hid (by rw [htk, hexV_snoc, ← HN.out, hq])
                have HALL2 : Hid (∀ j, j < k + 1 → ∃ c, s.data.toList[i + j]? = some c ∧ isHex c = true) := hid (fun j hj => by
                  rcases Nat.lt_or_eq_of_le (Nat.le_of_lt_succ hj) with h | rfl
                  · exact HALL.out j h
                  · exact ⟨_, HG.out, hx⟩)
                have hq0 : ¬ ((q : Int) < 0) := by omega
                clear hlen hnlt htk hx hq
                go_wp2_with fail
                go_quiet (fail)
                go_wp2_with fail
                have hor' : bits .or .u64 ((n : Int) * 16) (q : Int) = ((16 * n + q : Nat) : Int) := by
                  have e : (n : Int) * 16 = ((16 * n : Nat) : Int) := by omega
                  rw [e]; exact hor
                have R1 : Rr ((wr.drewN nq).setCell ⟨rb, 1, none⟩ (.int .i64 (m + 1))) rb s (m + 1) a := (show Rr (wr.drewN nq) rb s m a from HW.out).move (m + 1)
                exact ⟨⟨k + 1, 16 * n + q, by rfl, by rw [hor'], by omega, by have := HM.out; omega, by rw [show i + (k + 1) = m + 1 by have := HM.out; omega]; exact hid R1, hid ((HKW.out.drewN _).set (Or.inl (by simp)) _ _), HN2, HALL2⟩, by simp [intOf]; omega⟩
              · rw [if_neg hx] at hfe
                have hx' : isHex s[m] = false := by simpa using hx
                have hrun := (run_get s.data.toList isHex 16 i k hk16 HALL.out).1 s[m] HG.out hx'
                have hq := HQ.out
                rw [if_neg (by rw [hrun]; omega), hrun] at hq
                have HQ2 := hid hq
                clear hq hrun hx hx'
                go_wp2_with fail
                go_quiet (fail)
                go_wp2_with fail
                refine (rwrong_any rb s m a i _ (show Rr (wr.drewN nq) rb s m a from HW.out)).mono ?_
                rintro e w9 ⟨rfl, hR, hK⟩
                rw [if_pos ha] at hR
                go_wp2_with fail
                go_ret
                rw [HQ2.out]
                exact ⟨rfl, by rw [← HM.out]; exact hR, HKW.out.trans ((Keeps.refl _ _ _).drewN nq |>.trans (hK.mono HKW.out.size (fun _ _ h => h)))⟩
        · have hrun := (run_get s.data.toList isHex 16 i k hk16 HALL.out).2 (by rw [List.getElem?_eq_none]; rw [size_list]; omega)
          have hq := HQ.out
          rw [if_neg (by rw [hrun]; omega), hrun] at hq
          have HQ2 := hid hq
          have HM := hid hm
          have hms' : ¬ (m : Int) < (s.size : Int) := by omega
          have hms'' : decide (m < s.size) = false := by simpa using hms
          clear hq hrun hm
          go_wp2_with fail
          go_loopw [6, 7] (fun t6 t7 wq => t7 = .int .i64 0 ∧ t6 = .int .i64 (-1) ∧ wq = wr) (fun _ t7 _ => 0)
          case atStart => exact ⟨rfl, rfl, rfl⟩
          case round =>
            obtain ⟨rfl, rfl, rfl⟩ := hrel
            go_wp2_with fail
            go_quiet (fail)
            go_wp2_with fail
            refine (rwrong_any rb s m a i _ (show Rr (wr.drewN nq) rb s m a from HR.out)).mono ?_
            rintro e w9 ⟨rfl, hR, hK⟩
            rw [if_pos ha] at hR
            go_wp2_with fail
            go_ret
            rw [HQ2.out]
            exact ⟨rfl, by rw [← HM.out]; exact hR, HK.out.trans ((Keeps.refl _ _ _).drewN nq |>.trans (hK.mono HK.out.size (fun _ _ h => h)))⟩
      · obtain rfl : k = 16 := by omega
        obtain ⟨r1, r2⟩ := run_full s.data.toList isHex 16 i HALL.out
        have hq := HQ.out
        rw [if_pos r1, r2, ← HN.out] at hq
        have HQ2 := hid hq
        have HM := hid hm
        clear hq r1 r2 hm
        go_wp2_with fail
        go_ret
        rw [HQ2.out]
        exact ⟨rfl, by rw [← HM.out]; exact HR.out, HK.out⟩
  · have hd : decide (0 ≤ a) = true := by simpa using ha
    rw [hd] at c2
    unfold sixteenS
    rw [if_neg (show ¬ (i, a).2 < 0 from ha)]
    go_enter Tryz.func67, Tryz.ntmps67
    go_wp2_with fail
    go_loopw [4, 5] (fun t4 t5 wr => t4 = .int .u64 0 ∧ t5 = .int .i64 0 ∧ wr = w) (fun _ t5 _ => 0)
    case atStart => exact ⟨rfl, rfl, rfl⟩
    case round =>
      obtain ⟨rfl, rfl, rfl⟩ := hrel
      go_wp2_with fail
      go_ret
      exact ⟨rfl, H.out, Keeps.refl _ _ _⟩
end Go.Proofs.YtnagagcgmfkjjaaGreatDoor
