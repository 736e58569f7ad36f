/- The document's reader: how a save begins and ends. -/
import Derived.Test.YtnagagcgmfkjjaaGreatDoorBE
import Derived.Test.YtnagagcgmfkjjaaGreatDoorBD
set_option linter.unusedSimpArgs false
set_option linter.unusedVariables false
namespace Go.Proofs.YtnagagcgmfkjjaaGreatDoor
open Go.RowKit

def m63b : ByteArray := ⟨#[57, 50, 50, 51, 51, 55, 50, 48, 51, 54, 56, 53, 52, 55, 55, 53, 56, 48, 55]⟩
def m255b : ByteArray := ⟨#[50, 53, 53]⟩
set_option maxRecDepth 100000 in
set_option maxHeartbeats 8000000 in
theorem rbegins_any (rb : Nat) (s kind word : ByteArray) (st : St) (w : World) (h : Rr w rb s st.1 st.2) (hi : st.1 ≤ s.size) (hs : s.size ≤ 80000) (hkind : kind.size ≤ 100) (hword : word.size ≤ 100) :
    Calls Tryz.prog 41 #[.pointer (some ⟨rb, 0, none⟩), .string kind, .string word] w fun e w' => e = .returned (.int .i64 (wholeS s.data.toList 63 (mustS s.data.toList (headL kind.data.toList word.data.toList) st)).1) ∧
      Rr w' rb s (mustS s.data.toList [[10]] (wholeS s.data.toList 63 (mustS s.data.toList (headL kind.data.toList word.data.toList) st)).2).1 (mustS s.data.toList [[10]] (wholeS s.data.toList 63 (mustS s.data.toList (headL kind.data.toList word.data.toList) st)).2).2 ∧ Keeps w.heap.size [rb] w w' := by
  have hh : mustS s.data.toList (headL kind.data.toList word.data.toList) st = mustS s.data.toList [[32]] (mustS s.data.toList [word.data.toList] (mustS s.data.toList [[10]] (mustS s.data.toList [[49]] (mustS s.data.toList [[32]] (mustS s.data.toList [kind.data.toList] (mustS s.data.toList [[32]] (mustS s.data.toList [[101, 100, 100, 121]] st))))))) := by
    unfold headL
    rw [must_cons, must_cons _ [32], must_cons _ kind.data.toList, must_cons _ [32], must_cons _ [49], must_cons _ [10], must_cons _ word.data.toList]
  obtain ⟨m8, hm8⟩ : ∃ x, x = mustS s.data.toList (headL kind.data.toList word.data.toList) st := ⟨_, rfl⟩
  obtain ⟨r9, hr9⟩ : ∃ x, x = wholeS s.data.toList 63 m8 := ⟨_, rfl⟩
  obtain ⟨r10, hr10⟩ : ∃ x, x = mustS s.data.toList [[10]] r9.2 := ⟨_, rfl⟩
  rw [← hm8, ← hr9, ← hr10]
  rw [hh] at hm8
  have H8 := hid hm8
  have H9 := hid hr9
  have H10 := hid hr10
  clear hh hm8 hr9 hr10
  have R0 := hid h
  have i0 := hi
  have K0 := hid (Keeps.refl w.heap.size [rb] w)
  clear h
  go_enter Tryz.func41, Tryz.ntmps41
  go_wp2_with fail
  refine (rmust_any rb s ⟨#[101, 100, 100, 121]⟩ st _ R0.out i0 hs (by decide)).mono ?_
  rintro e w1 ⟨rfl, hR, hK⟩
  have i1 := must_le s.data.toList [[101, 100, 100, 121]] st (by rw [size_list]; exact i0)
  rw [size_list] at i1
  obtain ⟨s1, e1⟩ : ∃ x, x = mustS s.data.toList [[101, 100, 100, 121]] st := ⟨_, rfl⟩
  rw [show mustS s.data.toList [(⟨#[101, 100, 100, 121]⟩ : ByteArray).data.toList] st = s1 from e1.symm] at hR
  rw [← e1] at i1
  have R1 := hid hR
  have K1 := hid (K0.out.trans (hK.mono K0.out.size (by simp)))
  have E1 := hid e1
  clear hR hK e1 R0 K0
  go_wp2_with fail
  refine (rmust_any rb s ⟨#[32]⟩ s1 _ R1.out i1 hs (by decide)).mono ?_
  rintro e w2 ⟨rfl, hR, hK⟩
  have i2 := must_le s.data.toList [[32]] s1 (by rw [size_list]; exact i1)
  rw [size_list] at i2
  obtain ⟨s2, e2⟩ : ∃ x, x = mustS s.data.toList [[32]] s1 := ⟨_, rfl⟩
  rw [show mustS s.data.toList [(⟨#[32]⟩ : ByteArray).data.toList] s1 = s2 from e2.symm] at hR
  rw [← e2] at i2
  have R2 := hid hR
  have K2 := hid (K1.out.trans (hK.mono K1.out.size (by simp)))
  have E2 := hid e2
  clear hR hK e2 R1 K1
  go_wp2_with fail
  refine (rmust_any rb s kind s2 _ R2.out i2 hs hkind).mono ?_
  rintro e w3 ⟨rfl, hR, hK⟩
  have i3 := must_le s.data.toList [kind.data.toList] s2 (by rw [size_list]; exact i2)
  rw [size_list] at i3
  obtain ⟨s3, e3⟩ : ∃ x, x = mustS s.data.toList [kind.data.toList] s2 := ⟨_, rfl⟩
  rw [show mustS s.data.toList [kind.data.toList] s2 = s3 from e3.symm] at hR
  rw [← e3] at i3
  have R3 := hid hR
  have K3 := hid (K2.out.trans (hK.mono K2.out.size (by simp)))
  have E3 := hid e3
  clear hR hK e3 R2 K2
  go_wp2_with fail
  refine (rmust_any rb s ⟨#[32]⟩ s3 _ R3.out i3 hs (by decide)).mono ?_
  rintro e w4 ⟨rfl, hR, hK⟩
  have i4 := must_le s.data.toList [[32]] s3 (by rw [size_list]; exact i3)
  rw [size_list] at i4
  obtain ⟨s4, e4⟩ : ∃ x, x = mustS s.data.toList [[32]] s3 := ⟨_, rfl⟩
  rw [show mustS s.data.toList [(⟨#[32]⟩ : ByteArray).data.toList] s3 = s4 from e4.symm] at hR
  rw [← e4] at i4
  have R4 := hid hR
  have K4 := hid (K3.out.trans (hK.mono K3.out.size (by simp)))
  have E4 := hid e4
  clear hR hK e4 R3 K3
  go_wp2_with fail
  refine (rmust_any rb s ⟨#[49]⟩ s4 _ R4.out i4 hs (by decide)).mono ?_
  rintro e w5 ⟨rfl, hR, hK⟩
  have i5 := must_le s.data.toList [[49]] s4 (by rw [size_list]; exact i4)
  rw [size_list] at i5
  obtain ⟨s5, e5⟩ : ∃ x, x = mustS s.data.toList [[49]] s4 := ⟨_, rfl⟩
  rw [show mustS s.data.toList [(⟨#[49]⟩ : ByteArray).data.toList] s4 = s5 from e5.symm] at hR
  rw [← e5] at i5
  have R5 := hid hR
  have K5 := hid (K4.out.trans (hK.mono K4.out.size (by simp)))
  have E5 := hid e5
  clear hR hK e5 R4 K4
  go_wp2_with fail
  refine (rmust_any rb s ⟨#[10]⟩ s5 _ R5.out i5 hs (by decide)).mono ?_
  rintro e w6 ⟨rfl, hR, hK⟩
  have i6 := must_le s.data.toList [[10]] s5 (by rw [size_list]; exact i5)
  rw [size_list] at i6
  obtain ⟨s6, e6⟩ : ∃ x, x = mustS s.data.toList [[10]] s5 := ⟨_, rfl⟩
  rw [show mustS s.data.toList [(⟨#[10]⟩ : ByteArray).data.toList] s5 = s6 from e6.symm] at hR
  rw [← e6] at i6
  have R6 := hid hR
  have K6 := hid (K5.out.trans (hK.mono K5.out.size (by simp)))
  have E6 := hid e6
  clear hR hK e6 R5 K5
  go_wp2_with fail
  refine (rmust_any rb s word s6 _ R6.out i6 hs hword).mono ?_
  rintro e w7 ⟨rfl, hR, hK⟩
  have i7 := must_le s.data.toList [word.data.toList] s6 (by rw [size_list]; exact i6)
  rw [size_list] at i7
  obtain ⟨s7, e7⟩ : ∃ x, x = mustS s.data.toList [word.data.toList] s6 := ⟨_, rfl⟩
  rw [show mustS s.data.toList [word.data.toList] s6 = s7 from e7.symm] at hR
  rw [← e7] at i7
  have R7 := hid hR
  have K7 := hid (K6.out.trans (hK.mono K6.out.size (by simp)))
  have E7 := hid e7
  clear hR hK e7 R6 K6
  go_wp2_with fail
  refine (rmust_any rb s ⟨#[32]⟩ s7 _ R7.out i7 hs (by decide)).mono ?_
  rintro e w8 ⟨rfl, hR, hK⟩
  have i8 := must_le s.data.toList [[32]] s7 (by rw [size_list]; exact i7)
  rw [size_list] at i8
  obtain ⟨s8, e8⟩ : ∃ x, x = mustS s.data.toList [[32]] s7 := ⟨_, rfl⟩
  rw [show mustS s.data.toList [(⟨#[32]⟩ : ByteArray).data.toList] s7 = s8 from e8.symm] at hR
  rw [← e8] at i8
  have R8 := hid hR
  have K8 := hid (K7.out.trans (hK.mono K7.out.size (by simp)))
  have E8 := hid e8
  clear hR hK e8 R7 K7
  go_wp2_with fail
  have e8 : s8 = m8 := by rw [H8.out, ← E1.out, ← E2.out, ← E3.out, ← E4.out, ← E5.out, ← E6.out, ← E7.out, ← E8.out]
  subst e8
  refine (rwhole_any 63 m63b (by decide) bad63 (by decide) rb s s8.1 s8.2 _ R8.out i8 hs).mono ?_
  rintro e w9 ⟨rfl, hR, hK⟩
  have i9 := whole_le s.data.toList 63 s8 (by rw [size_list]; exact i8)
  rw [size_list] at i9
  rw [show wholeS s.data.toList 63 (s8.1, s8.2) = r9 from H9.out.symm] at hR ⊢
  rw [← H9.out] at i9
  have R9 := hid hR
  have K9 := hid (K8.out.trans (hK.mono K8.out.size (by simp)))
  clear hR hK R8 K8
  go_wp2_with fail
  refine (rmust_any rb s ⟨#[10]⟩ r9.2 _ R9.out i9 hs (by decide)).mono ?_
  rintro e w10 ⟨rfl, hR, hK⟩
  rw [show mustS s.data.toList [(⟨#[10]⟩ : ByteArray).data.toList] r9.2 = r10 from H10.out.symm] at hR
  have R10 := hid hR
  have K10 := hid (K9.out.trans (hK.mono K9.out.size (by simp)))
  clear hR hK
  go_wp2_with fail
  go_ret
  exact ⟨rfl, R10.out, K10.out⟩
def endsR (s : By) (st : St) : Int × Int := if (endsS s st).st.2 < 0 then (if (endsS s st).told = sumS (s.take (endsS s st).fin) then (0, 0) else (291, ((endsS s st).at' : Int))) else (290, (endsS s st).st.2)
theorem read_ends {α : Type} {s kind word one : By} {line : St → α × St} {l : List α} {st : St} (h0 : ¬ 65536 < s.length)
    (h : linesS s one line (wholeS s 63 (mustS s (headL kind word) (0, -1))).1 (mustS s [[10]] (wholeS s 63 (mustS s (headL kind word) (0, -1))).2) = (l, st)) : readS s kind word one line = (l, (endsR s st).1, (endsR s st).2) := by
  unfold readS endsR
  rw [if_neg h0]
  simp only [h]
  split
  · split <;> rfl
  · rfl
theorem ends_val {s : By} {st st1 st2 st3 : St} {r : Nat × St} (e1 : st1 = mustS s [[115, 117, 109]] st) (e2 : st2 = mustS s [[32]] st1) (e3 : r = sixteenS s st2) (e4 : st3 = mustS s [[10]] r.2) :
    (st3.2 < 0 → st3.1 < s.length → endsR s st = (290, (st3.1 : Int))) ∧ (st3.2 < 0 → ¬ st3.1 < s.length → r.1 = sumS (s.take st.1) → endsR s st = (0, 0)) ∧ (st3.2 < 0 → ¬ st3.1 < s.length → ¬ r.1 = sumS (s.take st.1) → endsR s st = (291, (st2.1 : Int))) ∧ (¬ st3.2 < 0 → endsR s st = (290, st3.2)) := by
  have e2' : mustS s [[115, 117, 109], [32]] st = st2 := by rw [must_cons, ← e1, ← e2]
  unfold endsR endsS
  simp only [e2', ← e3, ← e4]
  refine ⟨fun h1 h2 => ?_, fun h1 h2 h3 => ?_, fun h1 h2 h3 => ?_, fun h1 => ?_⟩
  · have e : (if st3.2 < 0 ∧ st3.1 < s.length then ((st3.1, (st3.1 : Int)) : St) else st3) = (st3.1, (st3.1 : Int)) := if_pos ⟨h1, h2⟩
    rw [e, if_neg (show ¬ ((st3.1 : Int) < 0) by omega)]
  · have e : (if st3.2 < 0 ∧ st3.1 < s.length then ((st3.1, (st3.1 : Int)) : St) else st3) = st3 := if_neg (fun x => h2 x.2)
    rw [e, if_pos h1, if_pos h3]
  · have e : (if st3.2 < 0 ∧ st3.1 < s.length then ((st3.1, (st3.1 : Int)) : St) else st3) = st3 := if_neg (fun x => h2 x.2)
    rw [e, if_pos h1, if_neg h3]
  · have e : (if st3.2 < 0 ∧ st3.1 < s.length then ((st3.1, (st3.1 : Int)) : St) else st3) = st3 := if_neg (fun x => h1 x.1)
    rw [e, if_neg h1]

set_option maxRecDepth 100000 in
set_option maxHeartbeats 8000000 in
theorem rr_sets {w : World} {rb : Nat} {s : ByteArray} {i : Nat} {a : Int} (h : Rr w rb s i a) {g : Nat} (hne : rb ≠ g) (o : Nat) (v : Value) (o2 : Nat) (v2 : Value) : Rr ((w.setCell ⟨g, o, none⟩ v).setCell ⟨g, o2, none⟩ v2) rb s i a :=
  (block_ne _ _ _ _ _ (fun e => hne e)).trans ((block_ne _ _ _ _ _ (fun e => hne e)).trans h)
set_option maxRecDepth 100000 in
set_option maxHeartbeats 8000000 in
theorem rends_any (rb : Nat) (s : ByteArray) (st : St) (w : World) (h : Rr w rb s st.1 st.2) (hi : st.1 ≤ s.size) (hs : s.size ≤ 80000) :
    Calls Tryz.prog 46 #[.pointer (some ⟨rb, 0, none⟩)] w fun e w' => e = .returned (.agg #[.int .i64 (endsR s.data.toList st).1, .int .i64 (endsR s.data.toList st).2]) ∧ (∃ st' : St, Rr w' rb s st'.1 st'.2) ∧ Keeps w.heap.size [rb] w w' := by
  have hrb := lt_of_block h
  have R0 : Hid (Rr (w.alloc (.cells #[.int .i64 0, .int .i64 0] 41)) rb s st.1 st.2) := hid ((Below.heap_alloc w _ rb hrb).trans h)
  have K0 : Hid (Keeps w.heap.size [rb] w (w.alloc (.cells #[.int .i64 0, .int .i64 0] 41))) := hid ((Keeps.refl _ _ _).alloc (Nat.le_refl _) _)
  have i0 := hi
  have B0 : Hid ((w.alloc (.cells #[.int .i64 0, .int .i64 0] 41)).heap[w.heap.size]? = some (.cells #[.int .i64 0, .int .i64 0] 41 (0, 0))) := hid (by simp only [block_at])
  have c1 := cell_of_block h 1
  simp at c1
  haveI : Has w rb := ⟨hrb⟩
  have hne : rb ≠ w.heap.size := by omega
  obtain ⟨Q, hQ⟩ : ∃ Q, Q = endsR s.data.toList st := ⟨_, rfl⟩
  rw [← hQ]
  have HQ := hid hQ
  clear h hQ
  go_enter Tryz.func46, Tryz.ntmps46
  go_wp2_with fail
  clear c1
  refine (rmust_any rb s ⟨#[115, 117, 109]⟩ st _ R0.out i0 hs (by decide)).mono ?_
  rintro e w1 ⟨rfl, hR, hK⟩
  have B1 := hid ((hK.block w.heap.size (lt_of_block B0.out) (by simp; omega)).trans B0.out)
  have i1 := must_le s.data.toList [[115, 117, 109]] st (by rw [size_list]; exact i0)
  rw [size_list] at i1
  obtain ⟨s1, e1⟩ : ∃ x, x = mustS s.data.toList [[115, 117, 109]] st := ⟨_, rfl⟩
  rw [show mustS s.data.toList [(⟨#[115, 117, 109]⟩ : ByteArray).data.toList] st = s1 from e1.symm] at hR
  rw [← e1] at i1
  have R1 := hid hR
  have K1 := hid (K0.out.trans (hK.mono K0.out.size (by simp)))
  have E1 := hid e1
  clear hR hK e1 R0 B0
  go_wp2_with fail
  refine (rmust_any rb s ⟨#[32]⟩ s1 _ R1.out i1 hs (by decide)).mono ?_
  rintro e w2 ⟨rfl, hR, hK⟩
  have B2 := hid ((hK.block w.heap.size (lt_of_block B1.out) (by simp; omega)).trans B1.out)
  have i2 := must_le s.data.toList [[32]] s1 (by rw [size_list]; exact i1)
  rw [size_list] at i2
  obtain ⟨s2, e2⟩ : ∃ x, x = mustS s.data.toList [[32]] s1 := ⟨_, rfl⟩
  rw [show mustS s.data.toList [(⟨#[32]⟩ : ByteArray).data.toList] s1 = s2 from e2.symm] at hR
  rw [← e2] at i2
  have R2 := hid hR
  have K2 := hid (K1.out.trans (hK.mono K1.out.size (by simp)))
  have E2 := hid e2
  clear hR hK e2 R1 B1
  have c1 := cell_of_block R2.out 1
  simp at c1
  go_wp2_with fail
  clear c1
  refine (rsixteen_any rb s s2.1 s2.2 _ R2.out i2 hs).mono ?_
  rintro e w3 ⟨rfl, hR, hK⟩
  have B3 := hid ((hK.block w.heap.size (lt_of_block B2.out) (by simp; omega)).trans B2.out)
  have i3 := sixteen_le s.data.toList s2 (by rw [size_list]; exact i2)
  rw [size_list] at i3
  obtain ⟨r3, e3⟩ : ∃ x, x = sixteenS s.data.toList s2 := ⟨_, rfl⟩
  rw [show sixteenS s.data.toList (s2.1, s2.2) = r3 from e3.symm] at hR ⊢
  rw [← e3] at i3
  have R3 := hid hR
  have K3 := hid (K2.out.trans (hK.mono K2.out.size (by simp)))
  have E3 := hid e3
  clear hR hK e3 R2 B2
  go_wp2_with fail
  refine (rmust_any rb s ⟨#[10]⟩ r3.2 _ R3.out i3 hs (by decide)).mono ?_
  rintro e w4 ⟨rfl, hR, hK⟩
  have B4 := hid ((hK.block w.heap.size (lt_of_block B3.out) (by simp; omega)).trans B3.out)
  have i4 := must_le s.data.toList [[10]] r3.2 (by rw [size_list]; exact i3)
  rw [size_list] at i4
  obtain ⟨s4, e4⟩ : ∃ x, x = mustS s.data.toList [[10]] r3.2 := ⟨_, rfl⟩
  rw [show mustS s.data.toList [(⟨#[10]⟩ : ByteArray).data.toList] r3.2 = s4 from e4.symm] at hR
  rw [← e4] at i4
  have R4 := hid hR
  have K4 := hid (K3.out.trans (hK.mono K3.out.size (by simp)))
  have E4 := hid e4
  clear hR hK e4 R3 B3
  obtain ⟨vA, vB, vC, vD⟩ := ends_val E1.out E2.out E3.out E4.out
  rw [← HQ.out] at vA vB vC vD
  rw [size_list] at vA vB vC
  have c0 := cell_of_block R4.out 0
  have c1 := cell_of_block R4.out 1
  have c2 := cell_of_block R4.out 2
  have c3 := cell_of_block R4.out 3
  simp at c0 c1 c2 c3
  have b0 := cell_of_block B4.out 0
  have b1 := cell_of_block B4.out 1
  have f0 := free_of_block B4.out 0
  have f1 := free_of_block B4.out 1
  simp at b0 b1
  have hlt := lt_of_block R4.out
  haveI : Has w4 rb := ⟨hlt⟩
  haveI : Has w4 w.heap.size := ⟨lt_of_block B4.out⟩
  have hs4 : s4.1 ≤ s.size := i4
  by_cases h7 : s4.2 < 0
  · have hd : decide (0 ≤ s4.2) = false := by simpa using h7
    rw [hd] at c2
    by_cases h8 : s4.1 < s.size
    · have h8' : (s4.1 : Int) < (s.size : Int) := by omega
      have h8'' : decide (s4.1 < s.size) = true := by simpa using h8
      have HV := hid (vA h7 h8)
      clear vA vB vC vD
      go_wp2_with fail
      go_quiet (fail)
      go_wp2_with fail
      refine (rwrong_any rb s s4.1 s4.2 s4.1 _ (show Rr (w4.drewN nq) rb s s4.1 s4.2 from R4.out)).mono ?_
      rintro e w5 ⟨rfl, hR, hK⟩
      rw [if_pos h7] at hR
      have B5 := (hK.block w.heap.size (lt_of_block B4.out) (by simp; omega)).trans B4.out
      have a2 := cell_of_block hR 2
      have a3 := cell_of_block hR 3
      simp at a2 a3
      have b0 := cell_of_block B5 0
      have b1 := cell_of_block B5 1
      have f0 := free_of_block B5 0
      have f1 := free_of_block B5 1
      simp at b0 b1
      haveI : Has w5 rb := ⟨lt_of_block hR⟩
      haveI : Has w5 w.heap.size := ⟨lt_of_block B5⟩
      have K5 := hid ((K4.out.drewN nq).trans (hK.mono K4.out.size (by simp)))
      have RF := hid hR
      clear hR hK B5 c0 c1 c2 c3
      go_wp2_with fail
      refine bodyPost_ret (v := .agg #[.int .i64 290, .int .i64 s4.1]) (by simp [results, Tryz.results46, go_sem, b0, b1]) rfl ?_
      rw [HV.out]
      exact ⟨rfl, ⟨(s4.1, (s4.1 : Int)), rr_sets RF.out hne _ _ _ _⟩, (K5.out.set (Or.inr (Nat.le_refl _)) _ _).set (Or.inr (Nat.le_refl _)) _ _⟩
    · have h8' : ¬ (s4.1 : Int) < (s.size : Int) := by omega
      have h8'' : decide (s4.1 < s.size) = false := by simpa using h8
      have hsum := fun w1 => rsum_any (s.extract 0 st.1) (by have : (s.extract 0 st.1).data.toList.length ≤ s.data.toList.length := (by rw [sum_take]; simp; omega); rw [size_list, size_list] at this; omega) w1
      rw [sum_take] at hsum
      have hst0 : (0 : Int) ≤ (st.1 : Int) := by omega
      have hsts : (st.1 : Int) ≤ (s.size : Int) := by omega
      by_cases h9 : r3.1 = sumS (s.data.toList.take st.1)
      · have h9' : ((r3.1 : Int) != ((sumS (s.data.toList.take st.1) : Nat) : Int)) = false := by rw [h9]; simp
        have HV := hid (vB h7 h8 h9)
        clear vA vB vC vD h9
        go_wp2_with fail
        go_quiet (fail)
        go_wp2_with (refine (hsum _).mono ?_; rintro e w8 ⟨rfl, rfl⟩)
        refine bodyPost_ret (v := .agg #[.int .i64 0, .int .i64 0]) (by simp [results, Tryz.results46, go_sem, b0, b1]) rfl ?_
        rw [HV.out]
        exact ⟨rfl, ⟨s4, rr_sets (show Rr (w4.drewN _) rb s s4.1 s4.2 from R4.out) hne _ _ _ _⟩, ((K4.out.drewN _).set (Or.inr (Nat.le_refl _)) _ _).set (Or.inr (Nat.le_refl _)) _ _⟩
      · have h9' : ((r3.1 : Int) != ((sumS (s.data.toList.take st.1) : Nat) : Int)) = true := by simp; omega
        have HV := hid (vC h7 h8 h9)
        clear vA vB vC vD h9
        go_wp2_with fail
        go_quiet (fail)
        go_wp2_with (refine (hsum _).mono ?_; rintro e w8 ⟨rfl, rfl⟩)
        refine bodyPost_ret (v := .agg #[.int .i64 291, .int .i64 s2.1]) (by simp [results, Tryz.results46, go_sem, b0, b1]) rfl ?_
        rw [HV.out]
        exact ⟨rfl, ⟨s4, rr_sets (show Rr (w4.drewN _) rb s s4.1 s4.2 from R4.out) hne _ _ _ _⟩, ((K4.out.drewN _).set (Or.inr (Nat.le_refl _)) _ _).set (Or.inr (Nat.le_refl _)) _ _⟩
  · have hd : decide (0 ≤ s4.2) = true := by simpa using h7
    have h0 : 0 ≤ s4.2 := by omega
    rw [hd] at c2
    rw [if_pos h0] at c3
    have HV := hid (vD h7)
    clear vA vB vC vD
    go_wp2_with fail
    go_quiet (fail)
    go_wp2_with fail
    refine bodyPost_ret (v := .agg #[.int .i64 290, .int .i64 s4.2]) (by simp [results, Tryz.results46, go_sem, b0, b1]) rfl ?_
    rw [HV.out]
    exact ⟨rfl, ⟨s4, rr_sets (show Rr (w4.drewN _) rb s s4.1 s4.2 from R4.out) hne _ _ _ _⟩, ((K4.out.drewN _).set (Or.inr (Nat.le_refl _)) _ _).set (Or.inr (Nat.le_refl _)) _ _⟩
end Go.Proofs.YtnagagcgmfkjjaaGreatDoor
