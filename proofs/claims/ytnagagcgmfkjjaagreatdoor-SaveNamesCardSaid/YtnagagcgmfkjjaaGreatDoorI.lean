/- A whole number, of the given program's reader. -/
import Derived.Test.YtnagagcgmfkjjaaGreatDoorH
import Derived.Test.YtnagagcgmfkjjaaGreatDoorK
set_option linter.unusedSimpArgs false
set_option linter.unusedVariables false
namespace Go.Proofs.YtnagagcgmfkjjaaGreatDoor
open Go.RowKit

theorem decV_fold (r : By) (n : Nat) : n ≤ r.foldl (fun n c => 10 * n + (c.toNat - 48)) n := by
  induction r generalizing n with
  | nil => exact Nat.le_refl _
  | cons c r ih => exact Nat.le_trans (show n ≤ 10 * n + (c.toNat - 48) by omega) (ih _)
theorem parseM_dig (M : Nat) (hM : M < 1844674407370955162) : ∀ (l : By) (acc : Nat), acc ≤ M → (∀ c ∈ l, isDig c = true) →
    Lib.parseUintM M acc l = if l.foldl (fun n c => 10 * n + (c.toNat - 48)) acc ≤ M then .ok (l.foldl (fun n c => 10 * n + (c.toNat - 48)) acc) else .range := by
  intro l
  induction l with
  | nil => intro acc h _; simp [Lib.parseUintM, h]
  | cons c r ih =>
    intro acc h hd
    have hc := (isDig_iff c).1 (hd c (by simp))
    rw [Lib.parseUintM, if_pos hc, if_neg (by omega)]
    have e : acc * 10 + (c.toNat - 48) = 10 * acc + (c.toNat - 48) := by omega
    by_cases hm : M < acc * 10 + (c.toNat - 48)
    · rw [if_pos hm, if_neg]
      have := decV_fold r (10 * acc + (c.toNat - 48))
      simp only [List.foldl_cons]
      omega
    · rw [if_neg hm, ih _ (by omega) (fun x hx => hd x (by simp [hx])), List.foldl_cons, e]
theorem parse8_dig (d : By) (hd : ∀ c ∈ d, isDig c = true) (h : d ≠ []) : Lib.parseUintB 8 d = if decV d < 256 then .ok (decV d) else .range := by
  unfold Lib.parseUintB
  rw [if_neg h, parseM_dig _ (by decide) d 0 (by omega) hd]
  show (if decV d ≤ 255 then Lib.NumEnd.ok (decV d) else .range) = _
  by_cases h2 : decV d < 256
  · rw [if_pos h2, if_pos (by omega)]
  · rw [if_neg h2, if_neg (by omega)]
theorem size_pos_iff (t : ByteArray) : t.data.toList = [] ↔ t.size = 0 := by
  rw [← size_list]; exact List.length_eq_zero_iff.symm
theorem parse_ok (bits : Nat) (hb : bits = 8 ∨ bits = 63) (t : ByteArray) (hsz0 : 0 < t.size) (hsz : t.size ≤ 70000) (hh : ∀ c ∈ t.data.toList, isDig c = true) (hv : decV t.data.toList < 2 ^ bits) (w : World) :
    Calls Tryz.prog 81 #[.string t, .int .i64 10, .int .i64 bits] w fun e w' => e = .returned (.tuple #[.int .u64 (decV t.data.toList), .nilIface]) ∧ Below w.heap.size w w' := by
  rcases hb with rfl | rfl
  · have h := parse8_dig t.data.toList hh (by rw [ne_eq, size_pos_iff]; omega)
    rw [if_pos (by omega)] at h
    refine (Tryz.strconv_ParseUint_10_at8_ok t (by omega) _ h w).mono ?_
    rintro e w' ⟨rfl, hw⟩
    refine ⟨rfl, ?_⟩
    rcases hw with rfl | rfl
    · exact Below.refl _ _
    · exact ⟨rfl, rfl, rfl, by rw [Lib.bytesWorld_size]; omega, fun j hj => Lib.bytesWorld_at_old w 5 t j hj⟩
  · have hI := iparse63 t hsz0 hsz hh w
    rw [if_pos (by omega)] at hI
    have HI := hid hI
    clear hI
    go_enter Tryz.func81, Tryz.ntmps81
    go_wp2_with fail
    refine HI.out.mono ?_
    rintro e wq ⟨rfl, hb⟩
    go_wp2_with fail
    go_ret2
    exact ⟨rfl, hb⟩
theorem parse_bad (bits : Nat) (hb : bits = 8 ∨ bits = 63) (t : ByteArray) (hsz : t.size ≤ 70000) (hh : ∀ c ∈ t.data.toList, isDig c = true) (hv : t.size = 0 ∨ 2 ^ bits ≤ decV t.data.toList) (w : World) (V : Vars w) :
    Calls Tryz.prog 81 #[.string t, .int .i64 10, .int .i64 bits] w fun e w' => (∃ (x : Int) (N : Nat), e = .returned (.tuple #[.int .u64 x, .iface 180 (.pointer (some ⟨N, 0, none⟩))])) ∧ Below w.heap.size w w' := by
  obtain ⟨⟨tp, p, h2⟩, ⟨tp3, p3, h3⟩, -, -, -⟩ := V
  have L17 : LaysPu.n17 Tryz.prog Tryz.laysPu14_ren := { Tryz.laysPu14 with }
  by_cases h0 : t.size = 0
  · have ht : t = ⟨#[]⟩ := by
      have : t.data.toList = [] := (size_pos_iff t).2 h0
      cases t with | mk d => simp at this; rw [this]
    have hI := Tryz.internal_strconv_ParseUint_empty 10 bits w
    rw [← ht] at hI
    have hT := fun w' (hb : Below w.heap.size w w') => AnyPu.strconv_toError_syntax L17 ⟨#[80, 97, 114, 115, 101, 85, 105, 110, 116]⟩ t 10 bits (.iface tp p) w' (by omega) (((Keeps.of_below (S := []) hb).cell (q := ⟨2, 0, none⟩) (World.block_lt_of_cell? _ _ h2) (by simp)).trans h2) (Or.inr ⟨_, _, rfl⟩)
    have HI := hid hI
    have HT := hid hT
    clear hI hT ht
    go_enter Tryz.func81, Tryz.ntmps81
    go_wp2_with fail
    refine HI.out.mono ?_
    rintro e wq ⟨rfl, rfl⟩
    go_wp2_with fail
    refine (HT.out _ (Below.refl _ _)).mono ?_
    rintro e wq2 ⟨N, rfl, -, -, hb⟩
    go_wp2_with fail
    go_ret2
    exact ⟨⟨_, N, rfl⟩, hb⟩
  · rcases hb with rfl | rfl
    · have h := parse8_dig t.data.toList hh (by rw [ne_eq, size_pos_iff]; omega)
      rw [if_neg (by omega)] at h
      refine (Tryz.strconv_ParseUint_10_at8_range t (by omega) h _ w h3 (Or.inr ⟨_, _, rfl⟩)).mono ?_
      rintro e w' ⟨N, rfl, -, -, hb⟩
      exact ⟨⟨_, N, rfl⟩, hb⟩
    · have hI := iparse63 t (by omega) hsz hh w
      rw [if_neg (by omega)] at hI
      have hT := fun w' (hb : Below w.heap.size w w') => AnyPu.strconv_toError_range L17 ⟨#[80, 97, 114, 115, 101, 85, 105, 110, 116]⟩ t 10 63 (.iface tp3 p3) w' (by omega) (((Keeps.of_below (S := []) hb).cell (q := ⟨3, 0, none⟩) (World.block_lt_of_cell? _ _ h3) (by simp)).trans h3) (Or.inr ⟨_, _, rfl⟩)
      have HI := hid hI
      have HT := hid hT
      clear hI hT
      go_enter Tryz.func81, Tryz.ntmps81
      go_wp2_with fail
      refine HI.out.mono ?_
      rintro e wq ⟨rfl, hb0⟩
      have HB0 := hid hb0
      clear hb0
      go_wp2_with fail
      refine (HT.out _ HB0.out).mono ?_
      rintro e wq2 ⟨N, rfl, -, -, hb⟩
      go_wp2_with fail
      go_ret2
      exact ⟨⟨_, N, rfl⟩, HB0.out.trans (hb.mono HB0.out.size)⟩
/-- The row of ten digits. -/
def decRow : ByteArray := ⟨#[48, 49, 50, 51, 52, 53, 54, 55, 56, 57]⟩
theorem inRow_dec : inRow decRow = isDig := by
  have H : ∀ n : Fin 256, inRow decRow (UInt8.ofNat n.1) = isDig (UInt8.ofNat n.1) := by decide +kernel
  funext c
  have := H ⟨c.toNat, UInt8.toNat_lt c⟩
  simpa using this
set_option maxRecDepth 100000 in
set_option maxHeartbeats 2000000 in
theorem whole_any (bits : Nat) (hb : bits = 8 ∨ bits = 63) (rb : Nat) (s : ByteArray) (i : Nat) (a : Int) (w : World) (h : Rd w rb s i a) (hi : i ≤ s.size) (hs : s.size ≤ 70000) (V : Vars w) (hB : 8 ≤ w.heap.size) (hrb : 8 ≤ rb) :
    Calls Tryz.prog 60 #[.pointer (some ⟨rb, 0, none⟩), .int .i64 bits] w fun e w' => e = .returned (.int .u64 (wholeS s.data.toList bits (i, a)).1) ∧
      Rd w' rb s (wholeS s.data.toList bits (i, a)).2.1 (wholeS s.data.toList bits (i, a)).2.2 ∧ Keeps w.heap.size [rb] w w' := by
  have c0 := cell_of_block h 0
  have c1 := cell_of_block h 1
  simp at c0 c1
  have H := hid h
  clear h
  by_cases ha : a < 0
  · have hd : decide (a < 0) = true := by simpa using ha
    have hrow := inRow_dec
    have hrun := run_any rb s decRow i a s.size w H.out hi hs hs
    rw [hrow] at hrun
    have HRUN := hid hrun
    clear hrun hrow
    unfold wholeS
    rw [if_pos (show (i, a).2 < 0 from ha), size_list]
    show Calls Tryz.prog 60 #[.pointer (some ⟨rb, 0, none⟩), .int .i64 bits] w fun e w' => _
    simp only []
    have hex := extract_run s isDig s.size i
    have hal := run_all s.data.toList isDig s.size i
    have hle := run_le s.data.toList isDig s.size i (by rw [size_list]; exact hi)
    rw [size_list] at hle
    generalize hd2 : runS s.data.toList isDig s.size i = d at HRUN hex hal hle
    generalize s.extract i (i + d.length) = t at HRUN hex
    have htl : t.size = d.length := by rw [← hex]; simp
    have hts : t.size ≤ 70000 := by omega
    clear hd2
    have HAL := hid hal
    have HEX := hid hex
    have HTL := hid htl
    have VV := fun (w1 : World) (K : Keeps w.heap.size [rb] w w1) => V.keep K hB (by simpa using hrb)
    have HV := hid VV
    clear VV V hal hex htl hle
    by_cases hbad : t.size = 0 ∨ 2 ^ bits ≤ decV d
    · have hbw : badWhole d bits = true := by
        unfold badWhole
        rcases hbad with h | h
        · have : d = [] := List.length_eq_zero_iff.1 (by rw [← HTL.out]; exact h)
          simp [this]
        · simp [h]
      have hPB := fun (w1 : World) (V1 : Vars w1) => parse_bad bits hb t hts (by rw [HEX.out]; exact HAL.out) (by rw [HEX.out]; exact hbad) w1 V1
      have HPB := hid hPB
      clear hPB hbad
      rw [if_pos hbw]
      go_enter Tryz.func60, Tryz.ntmps60
      go_wp2_with (go_at_call 38; ((with_reducible refine (ok_any rb s i a _ H.out).mono ?_); rintro e w' ⟨rfl, rfl⟩))
      refine HRUN.out.mono ?_
      rintro e wq ⟨rfl, hR, hK⟩
      have HRR := hid hR
      have HKK := hid hK
      clear hR hK
      go_wp2_with fail
      refine (HPB.out _ (HV.out _ HKK.out)).mono ?_
      rintro e wq2 ⟨⟨x, NN, rfl⟩, hbl⟩
      have R2 := HRR.out.keep (Keeps.of_below (S := []) hbl) (lt_of_block HRR.out) (by simp)
      have K2 := HKK.out.trans ((Keeps.of_below (S := [rb]) hbl).mono HKK.out.size (fun _ _ h => h))
      have HR2 := hid R2
      have HK2 := hid K2
      clear R2 K2 hbl
      go_wp2_with fail
      refine (wrong_any rb s (i + d.length) a i _ HR2.out).mono ?_
      rintro e wq3 ⟨rfl, hR, hK⟩
      rw [if_pos ha] at hR
      have HR3 := hid hR
      have HK3 := hid (HK2.out.trans (hK.mono HK2.out.size (fun _ _ h => h)))
      clear hR hK
      go_wp2_with fail
      go_ret
      exact ⟨rfl, HR3.out, HK3.out⟩
    · have hpos : 0 < t.size := by omega
      have hPO := fun (w1 : World) => parse_ok bits hb t hpos hts (by rw [HEX.out]; exact HAL.out) (by rw [HEX.out]; omega) w1
      rw [HEX.out] at hPO
      have HPO := hid hPO
      have h0 : t[0].toNat = (d.headD 0).toNat := by
        rw [← HEX.out]
        cases t with | mk q => cases q with | mk l => cases l with
          | nil => simp [ByteArray.size] at hpos
          | cons c r => rfl
      have hbw : badWhole d bits = (decide (1 < d.length) && d.headD 0 == 48) := by
        unfold badWhole
        have h1 : d.isEmpty = false := by
          rw [List.isEmpty_eq_false_iff]
          intro e
          have := HTL.out
          rw [e, List.length_nil] at this
          omega
        have h2 : decide (2 ^ bits ≤ decV d) = false := by simp; omega
        rw [h1, h2]
        rfl
      clear hPO hbad
      have h48 : (d.headD 0 == 48) = (((t[0].toNat : Nat) : Int) == 48) := by
        have hu : (d.headD 0 = 48) ↔ (d.headD 0).toNat = 48 := ⟨fun h => by rw [h]; rfl, fun h => UInt8.toNat_inj.1 h⟩
        rw [h0, Bool.eq_iff_iff, beq_iff_eq, beq_iff_eq, hu]
        omega
      have HBW := hid hbw
      have htl2 : decide (1 < d.length) = decide (1 < (t.size : Int)) := by rw [HTL.out]; exact decide_eq_decide.2 (by omega)
      rw [hbw]
      clear hbw h0
      rw [h48, htl2]
      have tail : ∀ (bb : Bool) (wq : World) (R : World → Prop), True := fun _ _ _ => trivial
      clear tail
      by_cases h1 : (1 : Int) < (t.size : Int)
      · have h1' : decide (1 < (t.size : Int)) = true := by simpa using h1
        cases h2 : (((t[0].toNat : Nat) : Int) == 48)
        · rw [h1', show (true && false) = false by rfl]
          go_enter Tryz.func60, Tryz.ntmps60
          go_wp2_with (go_at_call 38; ((with_reducible refine (ok_any rb s i a _ H.out).mono ?_); rintro e w' ⟨rfl, rfl⟩))
          refine HRUN.out.mono ?_
          rintro e wq ⟨rfl, hR, hK⟩
          have HRR := hid hR
          have HKK := hid hK
          clear hR hK
          go_wp2_with fail
          refine (HPO.out _).mono ?_
          rintro e wq2 ⟨rfl, hbl⟩
          have R2 := HRR.out.keep (Keeps.of_below (S := []) hbl) (lt_of_block HRR.out) (by simp)
          have K2 := HKK.out.trans ((Keeps.of_below (S := [rb]) hbl).mono HKK.out.size (fun _ _ h => h))
          have HR2 := hid R2
          have HK2 := hid K2
          clear R2 K2 hbl
          go_wp2_with fail
          go_ret
          exact ⟨rfl, HR2.out, HK2.out⟩
        · rw [h1', show (true && true) = true by rfl]
          go_enter Tryz.func60, Tryz.ntmps60
          go_wp2_with (go_at_call 38; ((with_reducible refine (ok_any rb s i a _ H.out).mono ?_); rintro e w' ⟨rfl, rfl⟩))
          refine HRUN.out.mono ?_
          rintro e wq ⟨rfl, hR, hK⟩
          have HRR := hid hR
          have HKK := hid hK
          clear hR hK
          go_wp2_with fail
          refine (HPO.out _).mono ?_
          rintro e wq2 ⟨rfl, hbl⟩
          have R2 := HRR.out.keep (Keeps.of_below (S := []) hbl) (lt_of_block HRR.out) (by simp)
          have K2 := HKK.out.trans ((Keeps.of_below (S := [rb]) hbl).mono HKK.out.size (fun _ _ h => h))
          have HR2 := hid R2
          have HK2 := hid K2
          clear R2 K2 hbl
          go_wp2_with fail
          refine (wrong_any rb s (i + d.length) a i _ HR2.out).mono ?_
          rintro e wq3 ⟨rfl, hR, hK⟩
          rw [if_pos ha] at hR
          have HR3 := hid hR
          have HK3 := hid (HK2.out.trans (hK.mono HK2.out.size (fun _ _ h => h)))
          clear hR hK
          go_wp2_with fail
          go_ret
          exact ⟨rfl, HR3.out, HK3.out⟩
      · have h1' : decide (1 < (t.size : Int)) = false := by simpa using h1
        rw [h1', show (false && (((t[0].toNat : Nat) : Int) == 48)) = false by rfl]
        go_enter Tryz.func60, Tryz.ntmps60
        go_wp2_with (go_at_call 38; ((with_reducible refine (ok_any rb s i a _ H.out).mono ?_); rintro e w' ⟨rfl, rfl⟩))
        refine HRUN.out.mono ?_
        rintro e wq ⟨rfl, hR, hK⟩
        have HRR := hid hR
        have HKK := hid hK
        clear hR hK
        go_wp2_with fail
        refine (HPO.out _).mono ?_
        rintro e wq2 ⟨rfl, hbl⟩
        have R2 := HRR.out.keep (Keeps.of_below (S := []) hbl) (lt_of_block HRR.out) (by simp)
        have K2 := HKK.out.trans ((Keeps.of_below (S := [rb]) hbl).mono HKK.out.size (fun _ _ h => h))
        have HR2 := hid R2
        have HK2 := hid K2
        clear R2 K2 hbl
        go_wp2_with fail
        go_ret
        exact ⟨rfl, HR2.out, HK2.out⟩
  · have hd : decide (a < 0) = false := by simpa using ha
    unfold wholeS
    rw [if_neg (show ¬ (i, a).2 < 0 from ha)]
    go_enter Tryz.func60, Tryz.ntmps60
    go_wp2_with (go_at_call 38; ((with_reducible refine (ok_any rb s i a _ H.out).mono ?_); rintro e w' ⟨rfl, rfl⟩))
    go_ret
    exact ⟨rfl, H.out, Keeps.refl _ _ _⟩
end Go.Proofs.YtnagagcgmfkjjaaGreatDoor
