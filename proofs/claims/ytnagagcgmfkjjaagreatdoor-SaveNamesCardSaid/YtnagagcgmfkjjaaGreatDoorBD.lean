/- The document's reader: whole numbers. -/
import Derived.Test.YtnagagcgmfkjjaaGreatDoorBC
import Derived.Deep.CutBlock
import Derived.Deep.CutRange
set_option linter.unusedSimpArgs false
set_option linter.unusedVariables false
namespace Go.Proofs.YtnagagcgmfkjjaaGreatDoor
open Go.RowKit

theorem dig_nat (c : UInt8) : isDig c = true ↔ 48 ≤ c.toNat ∧ c.toNat ≤ 57 := isDig_iff c
theorem headD_get (d : ByteArray) (h : 0 < d.size) : (((d[0]'h).toNat : Int) == 48) = (d.data.toList.headD 0 == 48) := by
  have e : d.data.toList.headD 0 = d[0]'h := by
    have : d.data.toList[0]? = some (d[0]'h) := by
      rw [Array.getElem?_toList, Array.getElem?_eq_getElem (by simpa using h)]; rfl
    cases hl : d.data.toList with
    | nil => rw [hl] at this; simp at this
    | cons x l => rw [hl] at this; simp at this; rw [← this]; rfl
  rw [e, Bool.eq_iff_iff, beq_iff_eq, beq_iff_eq]
  constructor
  · intro h; exact UInt8.toNat_inj.1 (by show (d[0]).toNat = 48; omega)
  · intro h; rw [h]; rfl
set_option maxRecDepth 100000 in
set_option maxHeartbeats 16000000 in
theorem rwhole_any (bits : Nat) (m : ByteArray) (hbits : bits ≤ 63) (hbad : ∀ d : By, (∀ c ∈ d, isDig c = true) → badDoc d m.data.toList = badWhole d bits) (hm : m.size ≤ 100)
    (rb : Nat) (s : ByteArray) (i : Nat) (a : Int) (w : World) (h : Rr w rb s i a) (hi : i ≤ s.size) (hs : s.size ≤ 80000) :
    Calls Tryz.prog 43 #[.pointer (some ⟨rb, 0, none⟩), .string m] w fun e w' => e = .returned (.int .i64 (wholeS s.data.toList bits (i, a)).1) ∧
      Rr w' rb s (wholeS s.data.toList bits (i, a)).2.1 (wholeS s.data.toList bits (i, a)).2.2 ∧ Keeps w.heap.size [rb] w w' := by
  have c0 := cell_of_block h 0
  have c1 := cell_of_block h 1
  have c2 := cell_of_block h 2
  simp at c0 c1 c2
  have H := hid h
  haveI : Has w rb := ⟨lt_of_block h⟩
  have BAD := hid hbad
  obtain ⟨Q, hQ⟩ : ∃ Q, Q = wholeS s.data.toList bits (i, a) := ⟨_, rfl⟩
  rw [← hQ]
  unfold wholeS at hQ
  have hi0 : (0 : Int) ≤ (i : Int) := by omega
  have hi1 : (i : Int) ≤ (s.size : Int) := by omega
  by_cases ha : a < 0
  · have hd : decide (0 ≤ a) = false := by simpa using ha
    rw [hd] at c2
    rw [if_pos (show (i, a).2 < 0 from ha), size_list] at hQ
    simp only [] at hQ
    have HQ := hid hQ
    clear hQ h hbad
    go_enter Tryz.func43, Tryz.ntmps43
    go_upto_block 0 with fail
    clear c0 c1 c2
    go_cut [] from 13 to 60 (fun wx => ∃ k : Nat, i + k ≤ s.size ∧ Hid (Rr wx rb s (i + k) a) ∧ Hid (Keeps w.heap.size [rb] w wx) ∧ Hid ((runS s.data.toList isDig s.size i).length = k))
    case first =>
      go_wp2_with fail
      go_loopw [] (fun wr => ∃ k : Nat, i + k ≤ s.size ∧ Hid (Rr wr rb s (i + k) a) ∧ Hid (Keeps w.heap.size [rb] w wr) ∧ Hid (∀ j, j < k → ∃ c, s.data.toList[i + j]? = some c ∧ isDig c = true)) (fun wr => match wr.cell? ⟨rb, 1, none⟩ with | some v => s.size - (intOf v).toNat | none => 0)
      case atStart => exact ⟨0, hi, H, hid (Keeps.refl _ _ _), hid (fun j hj => by omega)⟩
      case round =>
        obtain ⟨k, hik, HR, HK, HALL⟩ := hrel
        obtain ⟨n, hn⟩ : ∃ n, n = i + k := ⟨_, rfl⟩
        rw [← hn] at HR
        have d0 := cell_of_block HR.out 0
        have d1 := cell_of_block HR.out 1
        have d2 := cell_of_block HR.out 2
        have g1 := free_of_block HR.out 1
        simp at d0 d1 d2
        rw [hd] at d2
        haveI : Has wr rb := ⟨lt_of_block HR.out⟩
        have hn0 : (0 : Int) ≤ (n : Int) := by omega
        by_cases h1 : n < s.size
        · have h1' : (n : Int) < (s.size : Int) := by omega
          have h1'' : decide (n < s.size) = true := by simpa using h1
          have hget : s.data.toList[i + k]? = some s[n] := by
            rw [← hn, Array.getElem?_toList]
            exact Array.getElem?_eq_getElem (by simpa using h1)
          have HG := hid hget
          have HN := hid hn
          clear hget hn
          by_cases h48 : 48 ≤ s[n].toNat
          · have k48 : (48 : Int) ≤ (s[n].toNat : Int) := by omega
            have k48' : decide (48 ≤ s[n].toNat) = true := by simpa using h48
            by_cases h57 : s[n].toNat ≤ 57
            · have k57 : (s[n].toNat : Int) ≤ 57 := by omega
              have k57' : decide (s[n].toNat ≤ 57) = true := by simpa using h57
              have hdig : Hid (isDig s[n] = true) := hid ((dig_nat _).2 ⟨h48, h57⟩)
              go_wp2_with fail
              go_quiet (fail)
              go_wp2_with fail
              have R1 : Rr ((wr.drewN nq).setCell ⟨rb, 1, none⟩ (.int .i64 (n + 1))) rb s (n + 1) a := Rr.move (show Rr (wr.drewN nq) rb s n a from HR.out) (n + 1)
              have e1 := cell_of_block R1 1
              have e2 := cell_of_block HR.out 1
              simp only [List.getElem?_toArray, List.getElem?_cons_succ, List.getElem?_cons_zero] at e1 e2
              have hn := HN.out
              refine ⟨⟨k + 1, by omega, hid ?_, hid ((HK.out.drewN nq).set (Or.inl (by simp)) _ _), hid ?_⟩, ?_⟩
              · rw [show i + (k + 1) = n + 1 by omega]; exact R1
              · intro j hj
                by_cases hjk : j < k
                · exact HALL.out j hjk
                · obtain rfl : j = k := by omega
                  exact ⟨_, HG.out, hdig.out⟩
              · rw [e1, e2]
                simp only [intOf]
                omega
            · have k57 : ¬ (s[n].toNat : Int) ≤ 57 := by omega
              have k57' : decide (s[n].toNat ≤ 57) = false := by simpa using h57
              have hdig : Hid (isDig s[n] = false) := hid (by rw [Bool.eq_false_iff]; intro h; exact h57 ((dig_nat _).1 h).2)
              go_wp2_with fail
              go_quiet (fail)
              go_wp2_with fail
              go_meet
              have hn := HN.out
              exact ⟨k, hik, hid (by rw [← hn]; exact HR.out), hid (HK.out.drewN _), hid (run_len s.data.toList isDig s.size i k HALL.out (by omega) (Or.inr (Or.inr ⟨_, HG.out, hdig.out⟩)))⟩
          · have k48 : ¬ (48 : Int) ≤ (s[n].toNat : Int) := by omega
            have k48' : decide (48 ≤ s[n].toNat) = false := by simpa using h48
            have k48'' : decide ((48 : Int) ≤ (s[n].toNat : Int)) = false := by rw [decide_eq_false_iff_not]; omega
            have k48m : decide (s[n].toNat < 48) = true := by simpa using h48
            have hdig : Hid (isDig s[n] = false) := hid (by rw [Bool.eq_false_iff]; intro h; exact h48 ((dig_nat _).1 h).1)
            go_wp2_with fail
            go_quiet (fail)
            go_wp2_with fail
            go_meet
            have hn := HN.out
            exact ⟨k, hik, hid (by rw [← hn]; exact HR.out), hid (HK.out.drewN _), hid (run_len s.data.toList isDig s.size i k HALL.out (by omega) (Or.inr (Or.inr ⟨_, HG.out, hdig.out⟩)))⟩
        · have h1' : ¬ (n : Int) < (s.size : Int) := by omega
          have h1'' : decide (n < s.size) = false := by simpa using h1
          have hend : Hid (s.data.toList[i + k]? = none) := hid (by apply List.getElem?_eq_none; rw [size_list]; omega)
          have HN := hid hn
          clear hn
          go_wp2_with fail
          go_quiet (fail)
          go_wp2_with fail
          go_meet
          have hn := HN.out
          exact ⟨k, hik, hid (by rw [← hn]; exact HR.out), hid (HK.out.drewN _), hid (run_len s.data.toList isDig s.size i k HALL.out (by omega) (Or.inr (Or.inl hend.out)))⟩
    case rest =>
      obtain ⟨k, hik, HR, HK, HL⟩ := hcut
      obtain ⟨n, hn⟩ : ∃ n, n = i + k := ⟨_, rfl⟩
      rw [← hn] at HR
      have d0 := cell_of_block HR.out 0
      have d1 := cell_of_block HR.out 1
      have d2 := cell_of_block HR.out 2
      simp at d0 d1 d2
      rw [hd] at d2
      haveI : Has wc rb := ⟨lt_of_block HR.out⟩
      have hn0 : (0 : Int) ≤ (n : Int) := by omega
      have hin : i ≤ n := by omega
      have hin' : (i : Int) ≤ (n : Int) := by omega
      have hns : n ≤ s.size := by omega
      have hns' : (n : Int) ≤ (s.size : Int) := by omega
      have hex : (s.extract i n).data.toList = runS s.data.toList isDig s.size i := by
        have h1 := run_take s.data.toList isDig s.size i
        rw [HL.out, List.take_add] at h1
        have h2 := List.append_cancel_left h1
        rw [Lib.extract_data, hn, show i + k - i = k by omega, h2]
      have hall : ∀ c ∈ runS s.data.toList isDig s.size i, isDig c = true := run_all s.data.toList isDig s.size i
      have hq := HQ.out
      have hb := BAD.out _ hall
      rw [← hb, HL.out, ← hn] at hq
      rw [← hex] at hq hall
      have HALL := hid hall
      have HQ2 := hid hq
      have hb2 := hb
      rw [← hex] at hb2
      have HB2 := hid hb2
      clear hn hex hall hq hb hb2
      go_wp2_with fail
      go_quiet (fail)
      have R5 : Hid (Rr (wc.drewN nq) rb s n a) := HR
      have K5 : Hid (Keeps w.heap.size [rb] w (wc.drewN nq)) := hid (HK.out.drewN _)
      have hsz : (s.extract i n).size = n - i := by simp [ByteArray.size_extract]; omega
      generalize wc.drewN nq = w5 at R5 K5 ⊢
      generalize s.extract i n = d at hsz HALL HQ2 HB2 ⊢
      clear d0 d1 d2
      have d2 := cell_of_block R5.out 2
      simp at d2
      rw [hd] at d2
      haveI : Has w5 rb := ⟨lt_of_block R5.out⟩
      have hds : d.size ≤ 80000 := by omega
      have HSZ := hid hsz
      clear hsz
      go_upto_region 5 with fail
      go_cut [107] from 61 to 107 (fun s107 wx => s107 = .bool (badDoc d.data.toList m.data.toList) ∧ w5 = wx)
      case first =>
        have f1 : (d.toList == ([] : List UInt8)) = d.data.toList.isEmpty := by rw [ByteArray.toList_eq]; cases d.data.toList <;> rfl
        have f1' : d.toList.isEmpty = d.data.toList.isEmpty := by rw [ByteArray.toList_eq]
        have f2 : decide (1 < d.size) = decide (1 < d.data.toList.length) := by rw [size_list]
        have f4 : decide (m.size < d.size) = decide (m.data.toList.length < d.data.toList.length) := by rw [size_list, size_list]
        have f5 : decide (d.size = m.size) = decide (d.data.toList.length = m.data.toList.length) := by rw [size_list, size_list]
        have f6 : (Op.bytesLess d.toList m.toList || d.toList == m.toList) = (Op.bytesLess d.data.toList m.data.toList || d.data.toList == m.data.toList) := by rw [ByteArray.toList_eq, ByteArray.toList_eq]
        have f3 : ∀ h : 0 < d.size, (((d[0]'h).toNat : Int) == 48) = (d.data.toList.headD 0 == 48) := headD_get d
        have f0 : d.data.toList.isEmpty = decide (d.size = 0) := by rw [← size_list]; cases d.data.toList <;> simp
        have hbd : badDoc d.data.toList m.data.toList = badDoc d.data.toList m.data.toList := rfl
        conv at hbd => rhs; unfold badDoc
        rw [← f2, ← f4, ← f5, ← f6, f0] at hbd
        rw [f0] at f1 f1'
        generalize (d.data.toList.headD 0 == 48) = b3 at f3 hbd
        generalize hb6 : (Op.bytesLess d.toList m.toList || d.toList == m.toList) = b6 at hbd
        clear f2 f4 f5 f6 f0
        by_cases h0 : d.size = 0
        · have e0 : (d.toList == ([] : List UInt8)) = true := by rw [f1]; simpa using h0
          have e1 : d.toList.isEmpty = true := by rw [f1']; simpa using h0
          have e2 : decide (d.size = 0) = true := by simpa using h0
          rw [e2] at hbd
          clear f1 f1' f3 hb6
          have HBD := hid hbd
          clear hbd
          go_wp2_with fail
          go_meet
          exact ⟨by rw [HBD.out]; rfl, rfl⟩
        · have e0 : (d.toList == ([] : List UInt8)) = false := by rw [f1]; simpa using h0
          have e1 : d.toList.isEmpty = false := by rw [f1']; simpa using h0
          have e2 : decide (d.size = 0) = false := by simpa using h0
          have hpos : 0 < d.size := by omega
          have g3 := f3 hpos
          rw [e2] at hbd
          clear f1 f1' f3
          have tail : ∀ b : Bool, True := fun _ => trivial
          by_cases h1 : 1 < d.size
          · have h1' : (1 : Int) < (d.size : Int) := by omega
            have h1'' : decide (1 < d.size) = true := by simpa using h1
            rw [h1''] at hbd
            cases b3
            · by_cases h4 : m.size < d.size
              · have h4' : (m.size : Int) < (d.size : Int) := by omega
                have h4'' : decide (m.size < d.size) = true := by simpa using h4
                rw [h4''] at hbd
                clear hb6
                have HBD := hid hbd
                clear hbd
                go_wp2_with fail
                go_meet
                exact ⟨by rw [HBD.out]; rfl, rfl⟩
              · have h4' : ¬ (m.size : Int) < (d.size : Int) := by omega
                have h4'' : decide (m.size < d.size) = false := by simpa using h4
                rw [h4''] at hbd
                by_cases h5 : d.size = m.size
                · have h5' : ((d.size : Int) == (m.size : Int)) = true := by simp; omega
                  have h5'' : decide (d.size = m.size) = true := by simpa using h5
                  rw [h5''] at hbd
                  have H5 := hid h5
                  clear h5
                  cases b6
                  all_goals
                    have HBD := hid hbd
                    clear hbd
                    go_wp2_with fail
                    go_meet
                    exact ⟨by rw [HBD.out]; rfl, rfl⟩
                · have h5' : ((d.size : Int) == (m.size : Int)) = false := by simp; omega
                  have h5'' : decide (d.size = m.size) = false := by simpa using h5
                  rw [h5''] at hbd
                  clear hb6
                  have HBD := hid hbd
                  clear hbd
                  go_wp2_with fail
                  go_meet
                  exact ⟨by rw [HBD.out]; rfl, rfl⟩
            · clear hb6
              have HBD := hid hbd
              clear hbd
              go_wp2_with fail
              go_meet
              exact ⟨by rw [HBD.out]; rfl, rfl⟩
          · have h1' : ¬ (1 : Int) < (d.size : Int) := by omega
            have h1'' : decide (1 < d.size) = false := by simpa using h1
            rw [h1''] at hbd
            clear g3
            by_cases h4 : m.size < d.size
            · have h4' : (m.size : Int) < (d.size : Int) := by omega
              have h4'' : decide (m.size < d.size) = true := by simpa using h4
              rw [h4''] at hbd
              clear hb6
              have HBD := hid hbd
              clear hbd
              go_wp2_with fail
              go_meet
              exact ⟨by rw [HBD.out]; rfl, rfl⟩
            · have h4' : ¬ (m.size : Int) < (d.size : Int) := by omega
              have h4'' : decide (m.size < d.size) = false := by simpa using h4
              rw [h4''] at hbd
              by_cases h5 : d.size = m.size
              · have h5' : ((d.size : Int) == (m.size : Int)) = true := by simp; omega
                have h5'' : decide (d.size = m.size) = true := by simpa using h5
                rw [h5''] at hbd
                have H5 := hid h5
                clear h5
                cases b6
                all_goals
                  have HBD := hid hbd
                  clear hbd
                  go_wp2_with fail
                  go_meet
                  exact ⟨by rw [HBD.out]; rfl, rfl⟩
              · have h5' : ((d.size : Int) == (m.size : Int)) = false := by simp; omega
                have h5'' : decide (d.size = m.size) = false := by simpa using h5
                rw [h5''] at hbd
                clear hb6
                have HBD := hid hbd
                clear hbd
                go_wp2_with fail
                go_meet
                exact ⟨by rw [HBD.out]; rfl, rfl⟩
      case rest =>
        obtain ⟨rfl, rfl⟩ := hcut
        cases hB : badDoc d.data.toList m.data.toList
        · have hq := HQ2.out
          rw [hB] at hq; simp only [Bool.false_eq_true, if_false] at hq
          have hbw := HB2.out
          rw [hB] at hbw
          have hlt : decV d.data.toList < 9223372036854775808 := by
            have h1 : ¬ (2 ^ bits ≤ decV d.data.toList) := by
              intro h
              unfold badWhole at hbw
              simp [h] at hbw
            have h2 : 2 ^ bits ≤ 2 ^ 63 := Nat.pow_le_pow_right (by decide) hbits
            have h3 : (2 : Nat) ^ 63 = 9223372036854775808 := by decide
            omega
          have HV := hid hq
          have HLT := hid hlt
          clear hq hbw hlt
          go_wp2_with fail
          go_loop [7, 8] (fun vn vi => ∃ (k n : Nat), vn = .int .i64 n ∧ vi = .int .i64 k ∧ k ≤ d.size ∧ Hid (n = decV (d.data.toList.take k))) (fun _ vi => d.size - (intOf vi).toNat)
          case atStart => exact ⟨0, 0, rfl, rfl, by omega, hid rfl⟩
          case round =>
            obtain ⟨k, n, rfl, rfl, hk, hha⟩ := hrel
            by_cases hkd : k < d.size
            · have hk' : (k : Int) < (d.size : Int) := by omega
              have hk0 : (0 : Int) ≤ (k : Int) := by omega
              have hget : d.data.toList[k]? = some d[k] := by
                rw [Array.getElem?_toList]
                exact Array.getElem?_eq_getElem (by simpa using hkd)
              have htk : d.data.toList.take (k + 1) = d.data.toList.take k ++ [d[k]] := by
                rw [List.take_add_one, hget]; rfl
              have hdg := (dig_nat _).1 (HALL.out d[k] (List.mem_of_getElem? hget))
              have hmono := decV_mono d.data.toList (k + 1)
              rw [htk, decV_snoc, ← hha.out] at hmono
              have hlt := HLT.out
              have hb1 : 10 * (n : Int) + ((d[k].toNat : Int) - 48) < 9223372036854775808 := by omega
              have hc48 : (48 : Int) ≤ (d[k].toNat : Int) := by omega
              have hc57 : (d[k].toNat : Int) ≤ 57 := by omega
              have w1 : IntKind.i64.wrap (10 * (n : Int)) = ((10 * n : Nat) : Int) := by
                rw [show 10 * (n : Int) = ((10 * n : Nat) : Int) by omega]
                exact IntWalk.i64_in _ (by omega)
              have w2 : IntKind.u8.wrap ((d[k].toNat : Int) - 48) = ((d[k].toNat - 48 : Nat) : Int) := by rw [IntKind.wrap_u8]; omega
              have w3 : IntKind.i64.wrap ((d[k].toNat - 48 : Nat) : Int) = ((d[k].toNat - 48 : Nat) : Int) := IntWalk.i64_in _ (by omega)
              have w4 : IntKind.i64.wrap (((10 * n : Nat) : Int) + ((d[k].toNat - 48 : Nat) : Int)) = ((10 * n + (d[k].toNat - 48) : Nat) : Int) := by
                rw [show ((10 * n : Nat) : Int) + ((d[k].toNat - 48 : Nat) : Int) = ((10 * n + (d[k].toNat - 48) : Nat) : Int) by omega]
                exact IntWalk.i64_in _ (by omega)
              have w5 : RowKit.wrap64 (10 * (n : Int) + ((d[k].toNat - 48 : Nat) : Int)) = ((10 * n + (d[k].toNat - 48) : Nat) : Int) := by
                unfold RowKit.wrap64; omega
              have HN : Hid (10 * n + (d[k].toNat - 48) = decV (d.data.toList.take (k + 1))) := hid (by rw [htk, decV_snoc, ← hha.out])
              clear hget htk hdg hmono hlt hb1 hha
              generalize hx : d[k].toNat = x at w1 w2 w3 w4 w5 hc48 hc57 HN
              go_wp2_with fail
              exact ⟨⟨k + 1, 10 * n + (x - 48), by first | rfl | (rw [w5]) | (simp only [w5]) , by rfl, by omega, HN⟩, by simp [intOf]; omega⟩
            · obtain rfl : k = d.size := by omega
              have hf := hha.out
              rw [List.take_of_length_le (by rw [size_list]; omega)] at hf
              have HF := hid hf
              clear hf hha
              go_wp2_with fail
              go_ret
              rw [HV.out]
              exact ⟨by rw [HF.out]; rfl, R5.out, K5.out⟩
        · have hq := HQ2.out
          rw [hB, if_pos rfl] at hq
          have HV := hid hq
          clear hq
          go_wp2_with fail
          refine (rwrong_any rb s n a i _ R5.out).mono ?_
          rintro e w6 ⟨rfl, hR, hK⟩
          rw [if_pos (by omega)] at hR
          have HR6 := hid hR
          have HK6 := hid (K5.out.trans (hK.mono K5.out.size (by simp)))
          clear hR hK
          go_wp2_with fail
          go_ret
          rw [HV.out]
          exact ⟨rfl, HR6.out, HK6.out⟩
  · have hd : decide (0 ≤ a) = true := by simpa using ha
    rw [hd] at c2
    rw [if_neg (show ¬ (i, a).2 < 0 from ha)] at hQ
    have HQ := hid hQ
    clear hQ h hbad
    go_enter Tryz.func43, Tryz.ntmps43
    go_wp2_with fail
    clear c0 c1 c2
    go_loopw [] (fun wr => Hid (Rr wr rb s i a) ∧ Hid (Keeps w.heap.size [rb] w wr)) (fun _ => 0)
    case atStart => exact ⟨H, hid (Keeps.refl _ _ _)⟩
    case round =>
      obtain ⟨HR, HK⟩ := hrel
      have d0 := cell_of_block HR.out 0
      have d1 := cell_of_block HR.out 1
      have d2 := cell_of_block HR.out 2
      simp at d0 d1 d2
      rw [hd] at d2
      haveI : Has wr rb := ⟨lt_of_block HR.out⟩
      go_wp2_with fail
      go_quiet (fail)
      go_wp2_with fail
      go_quiet (fail)
      go_wp2_with fail
      refine (rwrong_any rb s i a i _ (by exact HR.out)).mono ?_
      rintro e w6 ⟨rfl, hR, hK⟩
      rw [if_neg (by omega)] at hR
      have HR6 := hid hR
      have HK6 : Hid (Keeps w.heap.size [rb] w w6) := hid ((HK.out.drewN _).trans (Keeps.mono hK HK.out.size (by simp)))
      clear hR hK
      go_wp2_with fail
      go_ret
      rw [HQ.out]
      exact ⟨rfl, HR6.out, HK6.out⟩
end Go.Proofs.YtnagagcgmfkjjaaGreatDoor
