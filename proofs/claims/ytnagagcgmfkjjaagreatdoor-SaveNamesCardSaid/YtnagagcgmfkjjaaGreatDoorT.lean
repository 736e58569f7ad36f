/- The writers of numbers, of the given program. -/
import Derived.Test.YtnagagcgmfkjjaaGreatDoorR
set_option linter.unusedSimpArgs false
set_option linter.unusedVariables false
namespace Go.Proofs.YtnagagcgmfkjjaaGreatDoor
open Go.RowKit

theorem ba_eq {x : ByteArray} {l : By} (h : x.data.toList = l) : x = ⟨l.toArray⟩ := by
  subst h; cases x; simp
theorem ba_append (x y : ByteArray) : (x ++ y).data.toList = x.data.toList ++ y.data.toList := by simp
theorem repeatL_one (c : UInt8) (n : Nat) : Lib.repeatL [c] n = List.replicate n c := by
  induction n with
  | zero => rfl
  | succ n ih => simp [Lib.repeatL, List.replicate_succ, ← ih]
set_option maxRecDepth 100000 in
set_option maxHeartbeats 4000000 in
theorem sixteen_w (n : Nat) (hn : fits n) (w : World) (V : Vars w) (h40 : 8 ≤ w.heap.size) :
    Calls Tryz.prog 75 #[.int .u64 n] w fun e w' => e = .returned (.string ⟨(hexW 16 n).toArray⟩) ∧ Below w.heap.size w w' := by
  obtain ⟨h1, h2⟩ := hexM_pad 16 n (by omega) (by have e : (16 : Nat) ^ 16 = 18446744073709551616 := by decide
                                                  rw [e]; exact hn)
  have hf := format_94 n hn w V h40
  rw [← h2]
  obtain ⟨m, hm⟩ : ∃ m, m = hexM n := ⟨_, rfl⟩
  rw [← hm] at h1 hf ⊢
  obtain ⟨t, ht⟩ : ∃ t : ByteArray, t = ⟨m.toArray⟩ := ⟨_, rfl⟩
  rw [← ht] at hf
  have hts : t.size = m.length := by rw [ht]; simp [ByteArray.size]
  have hts16 : t.size ≤ 16 := by omega
  have hrep := fun w1 => Tryz.strings_Repeat ⟨#[48]⟩ (16 - t.size) w1 (by omega) (by show 1 * _ ≤ _; omega)
  obtain ⟨r, hr⟩ : ∃ r : ByteArray, r = ⟨(Lib.repeatL [48] (16 - t.size)).toArray⟩ := ⟨_, rfl⟩
  have hrl : r.data.toList = Lib.repeatL [48] (16 - t.size) := by rw [hr]
  rw [← hr] at hrep
  have hrs : r.size = 16 - t.size := by rw [← size_list, hrl, repeatL_one]; simp
  have hcat : (9223372036854775807 < r.size + t.size) = False := by simp; omega
  have HRL := hid hrl
  have hsub : (16 : Int) - (t.size : Int) = ((16 - t.size : Nat) : Int) := by omega
  have HT := hid ht
  have HS := hid hts
  have HF := hid hf
  clear ht hts hm hf h1 hr hrl hrs
  go_enter Tryz.func75, Tryz.ntmps75
  go_wp2_with fail
  refine HF.out.mono ?_
  rintro e w1 ⟨rfl, hb1⟩
  have HB1 := hid hb1
  clear hb1
  go_wp2_with fail
  refine (hrep w1).mono ?_
  rintro e w2 ⟨rfl, hb2⟩
  have HB2 := hid hb2
  clear hb2 hrep
  go_wp2_with fail
  go_ret
  refine ⟨?_, HB1.out.trans (HB2.out.mono HB1.out.size)⟩
  refine congrArg Ending.returned (congrArg Value.string ?_)
  refine ba_eq ?_
  rw [ba_append, HRL.out, repeatL_one, HT.out]
  simp [ByteArray.size]
end Go.Proofs.YtnagagcgmfkjjaaGreatDoor
