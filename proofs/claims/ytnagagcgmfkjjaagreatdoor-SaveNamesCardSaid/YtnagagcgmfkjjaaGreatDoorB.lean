/- A run of bytes, of the given program's reader. -/
import Derived.Test.YtnagagcgmfkjjaaGreatDoorA
import Derived.Test.YtnagagcgmfkjjaaGreatDoorS
import Derived.Test.YtnagagcgmfkjjaaGreatDoorShelf
import Derived.Deep.QuietTactic
import Derived.BigQuiet
import Derived.Outline
import Derived.Deep.LoopGhost
import Derived.IntWalk
set_option linter.unusedSimpArgs false
set_option linter.unusedVariables false
namespace Go.Proofs.YtnagagcgmfkjjaaGreatDoor
open Go.RowKit

theorem Keeps.drewN {B : Nat} {S : List Nat} {a w : World} (h : Keeps B S a w) (n : Nat) : Keeps B S a (w.drewN n) := ⟨h.os, h.tape, h.output, h.size, h.block⟩
theorem Rd.drewN {w : World} {rb : Nat} {s : ByteArray} {i : Nat} {a : Int} (h : Rd w rb s i a) (n : Nat) : Rd (w.drewN n) rb s i a := h
theorem Rd.move {w : World} {rb : Nat} {s : ByteArray} {i : Nat} {a : Int} (h : Rd w rb s i a) (j : Nat) : Rd (w.setCell ⟨rb, 1, none⟩ (.int .i64 j)) rb s j a := set_of_block h 1 _
/-- Is a byte in a row? -/
def inRow (row : ByteArray) (c : UInt8) : Bool := decide (0 ≤ Lib.indexByte row.data.toList c)
theorem run_len (l : By) (p : UInt8 → Bool) (most i k : Nat) (hall : ∀ j, j < k → ∃ c, l[i + j]? = some c ∧ p c = true) (hm : k ≤ most) (hend : k = most ∨ l[i + k]? = none ∨ ∃ c, l[i + k]? = some c ∧ p c = false) : (runS l p most i).length = k := by
  unfold runS
  generalize hd : (l.drop i).take most = d
  have hg : ∀ j, j < most → d[j]? = l[i + j]? := by
    intro j hj
    rw [← hd, List.getElem?_take_of_lt hj, List.getElem?_drop]
  have hlen : d.length ≤ most := by rw [← hd]; simp; omega
  clear hd
  have key : ∀ (d : By) (k : Nat), (∀ j, j < k → ∃ c, d[j]? = some c ∧ p c = true) → (d[k]? = none ∨ ∃ c, d[k]? = some c ∧ p c = false) → (d.takeWhile p).length = k := by
    intro d
    induction d with
    | nil =>
      intro k h1 h2
      cases k with
      | zero => rfl
      | succ k => obtain ⟨c, hc, _⟩ := h1 0 (by omega); simp at hc
    | cons x d ih =>
      intro k h1 h2
      cases k with
      | zero =>
        rcases h2 with h | ⟨c, hc, hp⟩
        · simp at h
        · simp at hc; subst hc; simp [List.takeWhile_cons, hp]
      | succ k =>
        obtain ⟨c, hc, hp⟩ := h1 0 (by omega)
        simp at hc
        subst hc
        simp only [List.takeWhile_cons, hp, if_true, List.length_cons]
        rw [ih k (fun j hj => by simpa using h1 (j + 1) (by omega)) (by simpa using h2)]
  refine key d k (fun j hj => ?_) ?_
  · obtain ⟨c, h1, h2⟩ := hall j hj
    exact ⟨c, by rw [hg j (by omega)]; exact h1, h2⟩
  · rcases hend with h | h
    · left; rw [List.getElem?_eq_none]; omega
    · by_cases hk : k < most
      · rw [hg k hk]; exact h
      · left; rw [List.getElem?_eq_none]; omega
set_option maxRecDepth 100000 in
set_option maxHeartbeats 2000000 in
theorem run_any (rb : Nat) (s row : ByteArray) (i : Nat) (a : Int) (most : Nat) (w : World) (h : Rd w rb s i a) (hi : i ≤ s.size) (hs : s.size ≤ 70000) (hm : most ≤ 70000) :
    Calls Tryz.prog 80 #[.pointer (some ⟨rb, 0, none⟩), .string row, .int .i64 most] w fun e w' => e = .returned (.string (s.extract i (i + (runS s.data.toList (inRow row) most i).length))) ∧
      Rd w' rb s (i + (runS s.data.toList (inRow row) most i).length) a ∧ Keeps w.heap.size [rb] w w' := by
  have c0 := cell_of_block h 0
  have c1 := cell_of_block h 1
  simp at c0 c1
  have H := hid h
  clear h
  go_enter Tryz.func80, Tryz.ntmps80
  go_wp2_with fail
  go_loopw [] (fun wr => ∃ k : Nat, k ≤ most ∧ i + k ≤ s.size ∧ Rd wr rb s (i + k) a ∧ Keeps w.heap.size [rb] w wr ∧ ∀ j, j < k → ∃ c, s.data.toList[i + j]? = some c ∧ inRow row c = true) (fun wr => match wr.cell? ⟨rb, 1, none⟩ with | some v => s.size - (intOf v).toNat | none => 0)
  case atStart => exact ⟨0, Nat.zero_le _, hi, H.out, Keeps.refl _ _ _, fun j hj => by omega⟩
  case round =>
    obtain ⟨k, hk, hik, HR, HK, hall⟩ := hrel
    obtain ⟨n, hn⟩ : ∃ n, n = i + k := ⟨_, rfl⟩
    rw [← hn] at HR
    have d0 := cell_of_block HR 0
    have d1 := cell_of_block HR 1
    have g1 := free_of_block HR 1
    simp at d0 d1
    have hsub : IntKind.i64.wrap ((n : Int) - (i : Int)) = (k : Int) := by
      have : (n : Int) - (i : Int) = k := by omega
      rw [this]
      exact IntWalk.i64_in _ (by omega)
    have hin : i ≤ n := by omega
    have hin' : (i : Int) ≤ (n : Int) := by omega
    have hns : n ≤ s.size := by omega
    have hns' : (n : Int) ≤ (s.size : Int) := by omega
    have hi0 : (0 : Int) ≤ (i : Int) := by omega
    have HRR := hid HR
    have HKK := hid HK
    have HALL := hid hall
    have HN := hid hn
    clear HR HK hall
    by_cases h1 : n < s.size
    · have h1' : (n : Int) < (s.size : Int) := by omega
      by_cases h2 : k < most
      · have h2' : (k : Int) < (most : Int) := by omega
        have hn0 : (0 : Int) ≤ (n : Int) := by omega
        clear hn
        have hget : s.data.toList[n]? = some s[n] := by
          rw [Array.getElem?_toList]
          exact Array.getElem?_eq_getElem (by simpa using h1)
        cases hp : inRow row s[n]
        · have hp' : decide (0 ≤ Lib.indexByte row.data.toList s[n]) = false := hp
          have HG := hid hget
          have HP := hid hp
          clear hget hp
          go_wp2_with fail
          go_quiet ((go_at_call 101; exact Calls.quiet_of_same (Tryz.strings_IndexByte _ _ _)))
          go_wp2_with fail
          go_quiet (fail)
          go_wp2_with fail
          go_ret
          have hl := run_len s.data.toList (inRow row) most i k HALL.out (by omega) (Or.inr (Or.inr ⟨_, by rw [← HN.out]; exact HG.out, HP.out⟩))
          rw [hl, ← HN.out]
          exact ⟨rfl, HRR.out, (HKK.out.drewN _).drewN _⟩
        · have hp' : decide (0 ≤ Lib.indexByte row.data.toList s[n]) = true := hp
          have HG := hid hget
          have HP := hid hp
          clear hget hp
          go_wp2_with fail
          go_quiet ((go_at_call 101; exact Calls.quiet_of_same (Tryz.strings_IndexByte _ _ _)))
          go_wp2_with fail
          have hn := HN.out
          have R1 : Rd ((wr.drewN nq).setCell ⟨rb, 1, none⟩ (.int .i64 (n + 1))) rb s (n + 1) a := (HRR.out.drewN nq).move (n + 1)
          have e1 := cell_of_block R1 1
          have e2 := cell_of_block HRR.out 1
          simp only [List.getElem?_toArray, List.getElem?_cons_succ, List.getElem?_cons_zero] at e1 e2
          refine ⟨⟨k + 1, by omega, by omega, ?_, (HKK.out.drewN nq).set (Or.inl (by simp)) _ _, ?_⟩, ?_⟩
          · rw [show i + (k + 1) = n + 1 by omega]; exact R1
          · intro j hj
            by_cases hjk : j < k
            · exact HALL.out j hjk
            · obtain rfl : j = k := by omega
              rw [← hn]
              exact ⟨_, HG.out, HP.out⟩
          · rw [e1, e2]
            simp only [intOf]
            omega
      · have h2' : ¬ (k : Int) < (most : Int) := by omega
        have h2'' : decide ((k : Int) < (most : Int)) = false := by simpa using h2'
        obtain rfl : k = most := by omega
        clear hn
        go_wp2_with fail
        go_quiet (fail)
        go_wp2_with fail
        go_quiet (fail)
        go_wp2_with fail
        go_ret
        have hl := run_len s.data.toList (inRow row) k i k HALL.out (by omega) (Or.inl rfl)
        rw [hl, ← HN.out]
        exact ⟨rfl, HRR.out, (HKK.out.drewN _).drewN _⟩
    · have h1' : ¬ (n : Int) < (s.size : Int) := by omega
      have h1'' : decide (n < s.size) = false := by simpa using h1
      clear hn
      go_wp2_with fail
      go_quiet (fail)
      go_wp2_with fail
      go_quiet (fail)
      go_wp2_with fail
      go_ret
      have hl := run_len s.data.toList (inRow row) most i k HALL.out (by omega) (Or.inr (Or.inl (by rw [← HN.out]; apply List.getElem?_eq_none; simpa using h1)))
      rw [hl, ← HN.out]
      exact ⟨rfl, HRR.out, (HKK.out.drewN _).drewN _⟩
end Go.Proofs.YtnagagcgmfkjjaaGreatDoor
