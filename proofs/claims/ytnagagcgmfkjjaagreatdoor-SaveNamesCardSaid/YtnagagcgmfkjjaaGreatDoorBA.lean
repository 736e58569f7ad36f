/- The document's reader: words that must stand. -/
import Derived.Test.YtnagagcgmfkjjaaGreatDoorAH
import Derived.Deep.QuietTactic
import Derived.BigQuiet
set_option linter.unusedSimpArgs false
set_option linter.unusedVariables false
namespace Go.Proofs.YtnagagcgmfkjjaaGreatDoor
open Go.RowKit

/-- The document's reader of the text s: how far; the place of the first wrong piece, or -1. -/
def Rr (w : World) (rb : Nat) (s : ByteArray) (i : Nat) (a : Int) : Prop := w.heap[rb]? = some (.cells #[.string s, .int .i64 i, .bool (decide (0 ≤ a)), .int .i64 (if 0 ≤ a then a else 0)] 96 (0, 0))
theorem Rr.keep {w w' : World} {rb : Nat} {s : ByteArray} {i : Nat} {a : Int} {B : Nat} {S : List Nat} (h : Rr w rb s i a) (k : Keeps B S w w') (hB : rb < B) (hS : rb ∉ S) : Rr w' rb s i a := (k.block rb hB hS).trans h
theorem Rr.move {w : World} {rb : Nat} {s : ByteArray} {i : Nat} {a : Int} (h : Rr w rb s i a) (j : Nat) : Rr (w.setCell ⟨rb, 1, none⟩ (.int .i64 j)) rb s j a := set_of_block h 1 _
set_option maxRecDepth 100000 in
set_option maxHeartbeats 4000000 in
theorem rwrong_any (rb : Nat) (s : ByteArray) (i : Nat) (a : Int) (p : Nat) (w : World) (h : Rr w rb s i a) :
    Calls Tryz.prog 49 #[.pointer (some ⟨rb, 0, none⟩), .int .i64 p] w fun e w' => e = .returned (.tuple #[]) ∧ Rr w' rb s i (if a < 0 then p else a) ∧ Keeps w.heap.size [rb] w w' := by
  have c2 := cell_of_block h 2
  have c3 := cell_of_block h 3
  have f2 := free_of_block h 2
  have f3 := free_of_block h 3
  simp at c2 c3
  have H := hid h
  haveI : Has w rb := ⟨lt_of_block h⟩
  clear h
  by_cases ha : a < 0
  · rw [if_pos ha]
    have hd : decide (0 ≤ a) = false := by simpa using ha
    rw [hd] at c2
    go_enter Tryz.func49, Tryz.ntmps49
    go_wp2_with fail
    go_end0
    refine ⟨rfl, ?_, ((Keeps.refl _ _ _).set (Or.inl (by simp)) _ _).set (Or.inl (by simp)) _ _⟩
    have h1 := set_of_block (set_of_block H.out 2 (.bool true)) 3 (.int .i64 p)
    unfold Rr
    rw [h1]
    simp
  · rw [if_neg ha]
    have hd : decide (0 ≤ a) = true := by simpa using ha
    rw [hd] at c2
    go_enter Tryz.func49, Tryz.ntmps49
    go_wp2_with fail
    go_end0
    exact ⟨rfl, H.out, Keeps.refl _ _ _⟩
set_option maxRecDepth 100000 in
set_option maxHeartbeats 4000000 in
theorem rmust_any (rb : Nat) (s x : ByteArray) (st : St) (w : World) (h : Rr w rb s st.1 st.2) (hi : st.1 ≤ s.size) (hs : s.size ≤ 80000) (hx : x.size ≤ 100) :
    Calls Tryz.prog 42 #[.pointer (some ⟨rb, 0, none⟩), .string x] w fun e w' => e = .returned (.tuple #[]) ∧ Rr w' rb s (mustS s.data.toList [x.data.toList] st).1 (mustS s.data.toList [x.data.toList] st).2 ∧ Keeps w.heap.size [rb] w w' := by
  obtain ⟨i, a⟩ := st
  simp only at h hi
  have c0 := cell_of_block h 0
  have c1 := cell_of_block h 1
  have c2 := cell_of_block h 2
  have f1 := free_of_block h 1
  simp at c0 c1 c2
  have H := hid h
  haveI : Has w rb := ⟨lt_of_block h⟩
  clear h
  by_cases ha : a < 0
  · have hd : decide (0 ≤ a) = false := by simpa using ha
    rw [hd] at c2
    rw [mustS, if_pos ha]
    by_cases hl : s.size - i < x.size
    · have hp : x.data.toList.isPrefixOf (s.data.toList.drop i) = false := by
        rw [Bool.eq_false_iff]
        intro h
        obtain ⟨t, ht⟩ := List.isPrefixOf_iff_prefix.1 h
        have h1 : (s.data.toList.drop i).length = x.data.toList.length + t.length := by rw [← ht]; simp
        rw [List.length_drop, size_list, size_list] at h1
        omega
      rw [if_neg (by rw [hp]; decide)]
      have hl' : ((s.size : Int) - (i : Int) < (x.size : Int)) := by omega
      go_enter Tryz.func42, Tryz.ntmps42
      go_wp2_with fail
      go_quiet (fail)
      go_wp2_with fail
      refine (rwrong_any rb s i a i _ (show Rr (w.drewN nq) rb s i a from H.out)).mono ?_
      rintro e wq ⟨rfl, hR, hK⟩
      rw [if_pos ha] at hR
      go_wp2_with fail
      refine bodyPost_ret (results_none rfl _ _ _) rfl ?_
      exact ⟨rfl, hR, ((Keeps.refl _ _ _).drewN _).trans hK⟩
    · have hl' : ¬ ((s.size : Int) - (i : Int) < (x.size : Int)) := by omega
      have hle : i + x.size ≤ s.size := by omega
      have hxe : (s.extract i (i + x.size)).data.toList = (s.data.toList.drop i).take x.size := by
        rw [Lib.extract_data, show i + x.size - i = x.size by omega]
      obtain ⟨d, hdd⟩ : ∃ d, d = s.size - i := ⟨_, rfl⟩
      have hsub : IntKind.i64.wrap ((s.size : Int) - (i : Int)) = (d : Int) := by
        have e : (s.size : Int) - (i : Int) = (d : Int) := by omega
        rw [e]
        exact IntWalk.i64_in _ (by omega)
      have hdx : ¬ (d : Int) < (x.size : Int) := by omega
      have hdx' : decide ((d : Int) < (x.size : Int)) = false := by simpa using hdx
      have hdx'' : decide (d < x.size) = false := by simp; omega
      clear hl'
      obtain ⟨j, hj⟩ : ∃ j, j = i + x.size := ⟨_, rfl⟩
      have hw : IntKind.i64.wrap ((i : Int) + (x.size : Int)) = (j : Int) := by
        have e : (i : Int) + (x.size : Int) = (j : Int) := by omega
        rw [e]
        exact IntWalk.i64_in _ (by omega)
      have hij : i ≤ j := by omega
      have hij' : (i : Int) ≤ (j : Int) := by omega
      have hjs : j ≤ s.size := by omega
      have hjs' : (j : Int) ≤ (s.size : Int) := by omega
      have hi0 : (0 : Int) ≤ (i : Int) := by omega
      have hj0 : (0 : Int) ≤ (j : Int) := by omega
      rw [← hj] at hxe
      have HJ := hid hj
      by_cases he : s.extract i j = x
      · have hp : x.data.toList.isPrefixOf (s.data.toList.drop i) = true := by
          rw [List.isPrefixOf_iff_prefix, List.prefix_iff_eq_take, size_list, ← hxe, he]
        rw [if_pos hp]
        clear hp hxe hj hdd hle
        go_enter Tryz.func42, Tryz.ntmps42
        go_wp2_with fail
        go_quiet (fail)
        go_wp2_with fail
        go_end0
        have hR : Rr ((w.drewN nq).setCell ⟨rb, 1, none⟩ (.int .i64 j)) rb s j a := Rr.move (show Rr (w.drewN nq) rb s i a from H.out) j
        rw [mustS]
        refine ⟨rfl, ?_, ((Keeps.refl _ _ _).drewN _).set (Or.inl (by simp)) _ _⟩
        rw [size_list, ← HJ.out]
        exact hR
      · have hp : x.data.toList.isPrefixOf (s.data.toList.drop i) = false := by
          rw [Bool.eq_false_iff]
          intro h
          rw [List.isPrefixOf_iff_prefix, List.prefix_iff_eq_take, size_list, ← hxe] at h
          exact he (ba_list h.symm)
        rw [if_neg (by rw [hp]; decide)]
        have he' : ((s.extract i j).toList == x.toList) = false := by
          rw [beq_eq_false_iff_ne]
          intro h
          exact he (ba_list (by simpa [ByteArray.toList_eq] using h))
        clear hp hxe hj hdd hle
        go_enter Tryz.func42, Tryz.ntmps42
        go_wp2_with fail
        go_quiet (fail)
        go_wp2_with fail
        refine (rwrong_any rb s i a i _ (show Rr (w.drewN nq) rb s i a from H.out)).mono ?_
        rintro e wq ⟨rfl, hR, hK⟩
        rw [if_pos ha] at hR
        go_wp2_with fail
        refine bodyPost_ret (results_none rfl _ _ _) rfl ?_
        exact ⟨rfl, hR, ((Keeps.refl _ _ _).drewN _).trans hK⟩
  · have hd : decide (0 ≤ a) = true := by simpa using ha
    rw [hd] at c2
    rw [must_not _ _ _ (by show ¬ a < 0; omega)]
    go_enter Tryz.func42, Tryz.ntmps42
    go_wp2_with fail
    refine bodyPost_ret (results_none rfl _ _ _) rfl ?_
    exact ⟨rfl, H.out, Keeps.refl _ _ _⟩
end Go.Proofs.YtnagagcgmfkjjaaGreatDoor
