/- A save written, of the given program. -/
import Derived.Test.YtnagagcgmfkjjaaGreatDoorU
import Derived.Lib.AppendIntMem
set_option linter.unusedSimpArgs false
set_option linter.unusedVariables false
namespace Go.Proofs.YtnagagcgmfkjjaaGreatDoor
open Go.RowKit

theorem sumS_fits (l : By) : fits (sumS l) := by
  rw [sumS_eq]; exact sum_lt l
theorem decW_eq (n : Nat) : decW n = Lib.decDigits n := by
  induction n using Nat.strongRecOn with
  | ind n ih =>
    rw [decW, Lib.decDigits]
    by_cases h : n < 10
    · simp [h]
    · simp [h, ih (n / 10) (by omega)]
theorem itoa_w (n : Nat) (hn : n < 1000000) (w : World) (V : Vars w) :
    Calls Tryz.prog 78 #[.int .i64 n] w fun e w' => e = .returned (.string ⟨(decW n).toArray⟩) ∧ Below w.heap.size w w' := by
  refine (Tryz.strconv_Itoa n (by omega) (by omega) w V.tabIs).mono ?_
  rintro e w' ⟨rfl, k, os, rfl⟩
  refine ⟨?_, Lib.below_grow _ _ (Nat.le_refl _) _ _⟩
  rw [decW_eq]
  have : ¬ ((n : Int) < 0) := by omega
  simp [Lib.itoa, this]
set_option maxRecDepth 100000 in
theorem whole_w (n : Nat) (hn : n < 256) (w : World) (V : Vars w) :
    Calls Tryz.prog 54 #[.int .u8 n] w fun e w' => e = .returned (.string ⟨(decW n).toArray⟩) ∧ Below w.heap.size w w' := by
  go_enter Tryz.func54, Tryz.ntmps54
  go_wp2_with fail
  refine (itoa_w n (by omega) _ V).mono ?_
  rintro e w1 ⟨rfl, hb⟩
  go_wp2_with fail
  go_ret
  exact ⟨rfl, hb⟩
theorem decW_len : ∀ (k n : Nat), n < 10 ^ k → (decW n).length ≤ k + 1 := by
  intro k
  induction k with
  | zero => intro n h; rw [decW, if_pos (by omega)]; simp
  | succ k ih =>
    intro n h
    rw [decW]
    split
    · simp
    · have := ih (n / 10) (by rw [Nat.pow_succ] at h; omega)
      simp
      omega
theorem join_flat (l : List By) : Lib.join l [] = l.flatten := by
  unfold Lib.join
  induction l with
  | nil => rfl
  | cons x l ih =>
    cases l with
    | nil => simp [List.intercalate]
    | cons y l =>
      rw [List.flatten_cons, ← ih]
      simp [List.intercalate]
/-- A join of strings that a row holds, at no separator. -/
theorem join_row (B0 n : Nat) (sv : Value) (ls : List By) (w : World) (ho : w.ownsRow B0 9 1 sv n (ls.map sV)) (hn : ls.length = n) (hlen : ls.flatten.length ≤ 1000000) (hnn : n ≤ 70000) :
    Calls Tryz.prog 77 #[sv, .string ⟨#[]⟩] w fun e w' => e = .returned (.string ⟨ls.flatten.toArray⟩) ∧ Below w.heap.size w w' := by
  obtain ⟨a, cap, rfl, hcells⟩ := own_form ho
  by_cases h0 : n = 0
  · subst h0
    have : ls = [] := List.eq_nil_of_length_eq_zero hn
    subst this
    refine (Tryz.strings_Join_none a cap _ w).mono ?_
    rintro e w' ⟨rfl, rfl⟩
    exact ⟨rfl, Below.refl _ _⟩
  · obtain ⟨g, rfl, hce⟩ := hcells (by omega)
    have hcell : ∀ (j : Nat) (x : ByteArray), (ls.map fun x => (⟨x.toArray⟩ : ByteArray))[j]? = some x → w.cell? ⟨g, 0 + j, none⟩ = some (.string x) := by
      intro j x hj
      have hjl : j < ls.length := by
        rcases Nat.lt_or_ge j ls.length with h | h
        · exact h
        · rw [List.getElem?_eq_none (by simpa using h)] at hj; cases hj
      rw [Nat.zero_add, hce j (by rw [List.length_map]; exact hjl)]
      rw [List.getElem?_map] at hj ⊢
      rw [List.getElem?_eq_getElem hjl] at hj ⊢
      simp only [Option.map_some, Option.some.injEq] at hj ⊢
      rw [← hj]
      rfl
    have hcapl : ls.length ≤ cap := by
      rcases ho.2 with ⟨h, -⟩ | ⟨g', c', cur', he, -, -, h, -⟩
      · cases h
      · injection he with e1 e2 e3; omega
    have hgl : g < w.heap.size := by
      have := hcell 0 _ (List.getElem?_eq_getElem (by rw [List.length_map]; omega))
      exact World.block_lt_of_cell? _ _ this
    have hmm : ((ls.map fun x => (⟨x.toArray⟩ : ByteArray)).map (·.data.toList)) = ls := by
      rw [List.map_map]; exact List.map_id' ls
    have hj := Tryz.strings_Join g 0 cap (ls.map fun x => (⟨x.toArray⟩ : ByteArray)) ⟨#[]⟩ w hcell hgl (by simp; omega) (by simpa using hcapl) (by
      rw [hmm, show (⟨#[]⟩ : ByteArray).data.toList = [] from rfl, join_flat]
      omega)
    rw [hmm, show (⟨#[]⟩ : ByteArray).data.toList = [] from rfl, join_flat, List.length_map, hn] at hj
    exact hj
set_option maxRecDepth 100000 in
set_option maxHeartbeats 8000000 in
theorem saved_w (B0 n : Nat) (kind word : ByteArray) (hk : kind.size ≤ 20) (hw : word.size ≤ 20) (sv : Value) (ls : List By) (w : World) (V : Vars w) (h40 : 8 ≤ w.heap.size) (ho : w.ownsRow B0 9 1 sv n (ls.map sV)) (hn : ls.length = n) (hlen : ls.flatten.length ≤ 1000000) (hnn : n ≤ 70000) :
    Calls Tryz.prog 56 #[.string kind, .string word, sv] w fun e w' => e = .returned (.string ⟨(savedW kind.data.toList word.data.toList n ls.flatten).toArray⟩) ∧ Below w.heap.size w w' := by
  obtain ⟨D, hD⟩ : ∃ D : ByteArray, D = ⟨(decW n).toArray⟩ := ⟨_, rfl⟩
  obtain ⟨J, hJ⟩ : ∃ J : ByteArray, J = ⟨ls.flatten.toArray⟩ := ⟨_, rfl⟩
  have hDl : D.data.toList = decW n := by rw [hD]
  have hJl : J.data.toList = ls.flatten := by rw [hJ]
  have hDs : D.size ≤ 20 := by
    rw [← size_list, hDl]
    have := decW_len 6 n (by omega)
    omega
  have hJs : J.size ≤ 1000000 := by rw [← size_list, hJl]; exact hlen
  have hi := fun w1 V1 => itoa_w n (by omega) w1 V1
  have hj := fun w1 (h : Below w.heap.size w w1) => join_row B0 n sv ls w1 (own_below ho h) hn hlen hnn
  rw [← hD] at hi
  rw [← hJ] at hj
  obtain ⟨a, cap, rfl, -⟩ := own_form ho
  have V' := hid V
  have HI := hid hi
  have HJ := hid hj
  have HJL := hid hJl
  have HDL := hid hDl
  clear V ho hD hJ hi hj hJl hDl
  have k1 : (9223372036854775807 < 5 + kind.size) = False := by simp; omega
  have k2 : (9223372036854775807 < 5 + kind.size + 3) = False := by simp; omega
  have k3 : (9223372036854775807 < 5 + kind.size + 3 + word.size) = False := by simp; omega
  have k4 : (9223372036854775807 < 5 + kind.size + 3 + word.size + 1) = False := by simp; omega
  have k5 : (9223372036854775807 < 5 + kind.size + 3 + word.size + 1 + D.size) = False := by simp; omega
  have k6 : (9223372036854775807 < 5 + kind.size + 3 + word.size + 1 + D.size + 1) = False := by simp; omega
  have k7 : (9223372036854775807 < 5 + kind.size + 3 + word.size + 1 + D.size + 1 + J.size) = False := by simp; omega
  go_enter Tryz.func56, Tryz.ntmps56
  go_wp2_with fail
  refine (HI.out w V'.out).mono ?_
  rintro e w1 ⟨rfl, hb1⟩
  have HB1 := hid hb1
  clear hb1
  go_wp2_with fail
  refine (HJ.out w1 HB1.out).mono ?_
  rintro e w2 ⟨rfl, hb2⟩
  have HB2 := hid (HB1.out.trans (hb2.mono HB1.out.size))
  clear hb2
  obtain ⟨S, hS⟩ : ∃ S : ByteArray, S = ({ data := #[101, 100, 100, 121, 32] } ++ kind ++ { data := #[32, 49, 10] } ++ word ++ { data := #[32] } ++ D ++ { data := #[10] } ++ J) := ⟨_, rfl⟩
  have hSl : S.data.toList = [101, 100, 100, 121, 32] ++ kind.data.toList ++ [32, 49, 10] ++ word.data.toList ++ [32] ++ decW n ++ [10] ++ ls.flatten := by
    rw [hS, ← HDL.out, ← HJL.out]
    simp only [ba_append]
  have hSs : S.size ≤ 1000100 := by
    rw [hS]
    simp only [ByteArray.size_append]
    show 5 + kind.size + 3 + word.size + 1 + D.size + 1 + J.size ≤ _
    omega
  have hSum := fun w1 => sum_any S (by omega) w1
  rw [hSl] at hSum
  rw [hS] at hSum
  obtain ⟨Z, hZ⟩ : ∃ Z, Z = sumS ([101, 100, 100, 121, 32] ++ kind.data.toList ++ [32, 49, 10] ++ word.data.toList ++ [32] ++ decW n ++ [10] ++ ls.flatten) := ⟨_, rfl⟩
  have hZf : fits Z := by rw [hZ]; exact sumS_fits _
  rw [← hZ] at hSum
  have HZ := hid hZ
  have HSUM := hid hSum
  have HSL := hid hSl
  have HSS := hid hS
  have m1 : (9223372036854775807 < 5 + kind.size + 3 + word.size + 1 + D.size + 1 + J.size + 4) = False := by simp; omega
  have h16 := fun w1 (h : Below w.heap.size w w1) => sixteen_w Z hZf w1 (V'.out.keep (Keeps.of_below (S := []) h) h40 (by simp)) (by have := h.size; omega)
  obtain ⟨X, hX⟩ : ∃ X : ByteArray, X = ⟨(hexW 16 Z).toArray⟩ := ⟨_, rfl⟩
  rw [← hX] at h16
  have hXl : X.data.toList = hexW 16 Z := by rw [hX]
  have hXs : X.size = 16 := by rw [← size_list, hXl, hexW_len]
  have m2 : (9223372036854775807 < 5 + kind.size + 3 + word.size + 1 + D.size + 1 + J.size + 4 + X.size) = False := by simp; omega
  have m3 : (9223372036854775807 < 5 + kind.size + 3 + word.size + 1 + D.size + 1 + J.size + 4 + X.size + 1) = False := by simp; omega
  have H16 := hid h16
  have HX := hid hXl
  clear hSum hSl hS h16 hX hXs hXl hZ hZf
  go_wp2_with fail
  refine (HSUM.out w2).mono ?_
  rintro e w3 ⟨rfl, hb3⟩
  have HB3 := hid (HB2.out.trans (hb3.mono HB2.out.size))
  clear hb3
  go_wp2_with fail
  refine (H16.out w3 HB3.out).mono ?_
  rintro e w4 ⟨rfl, hb4⟩
  have HB4 := hid (HB3.out.trans (hb4.mono HB3.out.size))
  clear hb4
  go_wp2_with fail
  go_ret
  refine ⟨congrArg Ending.returned (congrArg Value.string (ba_eq ?_)), HB4.out⟩
  simp only [ba_append]
  rw [HX.out, HDL.out, HJL.out]
  have e : savedW kind.data.toList word.data.toList n ls.flatten = ([101, 100, 100, 121, 32] ++ kind.data.toList ++ [32, 49, 10] ++ word.data.toList ++ [32] ++ decW n ++ [10] ++ ls.flatten) ++ [115, 117, 109, 32] ++ hexW 16 Z ++ [10] := by unfold savedW; rw [HZ.out]
  rw [e]
end Go.Proofs.YtnagagcgmfkjjaaGreatDoor
