/- Things that are the same as themselves, of the document's answer. -/
import Derived.Test.YtnagagcgmfkjjaaGreatDoorAD
import Derived.Test.YtnagagcgmfkjjaaGreatDoorO
import Derived.Test.YtnagagcgmfkjjaaGreatDoorP
import Derived.Deep.QuietTactic
import Derived.BigQuiet
import Derived.Deep.RegionHeld3
set_option linter.unusedSimpArgs false
set_option linter.unusedVariables false
namespace Go.Proofs.YtnagagcgmfkjjaaGreatDoor
open Go.RowKit

theorem sameF_self (a : Nat) : sameF a a = true := by
  unfold sameF
  cases isNan a <;> simp
theorem sameC_self (a b : Nat) : sameC a b a b = true := by
  unfold sameC; rw [sameF_self, sameF_self]; rfl
theorem same51_self (a : Nat) (w : World) : Calls Tryz.prog 51 #[.float .f64 a, .float .f64 a] w fun e w' => e = .returned (.bool true) ∧ w' = w := by
  have h := same51 a a w
  rw [sameF_self] at h
  exact h.mono fun _ _ ⟨h1, h2⟩ => ⟨h1, h2.symm⟩
theorem same18_self (a b : Nat) (w : World) : Calls Tryz.prog 18 #[.complex .f64 a b, .complex .f64 a b] w fun e w' => e = .returned (.bool true) ∧ w' = w := by
  have h := same18 a b a b w
  rw [sameC_self] at h
  exact h.mono fun _ _ ⟨h1, h2⟩ => ⟨h1, h2.symm⟩
theorem same_again {P : Program} {f : FuncId} {args : Array Value} {w : World} {a n : Nat} {v : Value} (h : Calls P f args (w.drewN (a + n)) fun e w' => e = .returned v ∧ w' = w.drewN (a + n)) :
    Calls P f args (w.drewN (a + n)) fun e w' => e = .returned v ∧ ∃ m, w' = w.drewN (a + m) := h.mono fun _ _ q => ⟨q.1, n, q.2⟩
theorem Below.many {B : Nat} {w w' : World} (h : Below B w w') (m : Nat) : Below B w (w'.drewN m) := (Keeps.drewN (S := []) (Keeps.of_below h) m).below
/-- What a row holds at one of its things. -/
theorem own_at {α : Type} (cells : α → List Value) (size : Nat) (hc : ∀ x, (cells x).length = size) {l : List α} {w wr : World} {g k : Nat} {x : α} (hce : ∀ i, i < (l.flatMap cells).length → w.cell? ⟨g, i, none⟩ = (l.flatMap cells)[i]?) (hx : l[k]? = some x) (hb : Below w.heap.size w wr) (j : Nat) (hj : j < size) :
    wr.cell? ⟨g, k * size + j, none⟩ = (cells x)[j]? := by
  have hk : k < l.length := by
    rcases Nat.lt_or_ge k l.length with h | h
    · exact h
    · rw [List.getElem?_eq_none h] at hx; cases hx
  have hlen : (l.flatMap cells).length = l.length * size := by
    rw [List.length_flatMap]
    clear hce hx hk
    induction l with
    | nil => simp
    | cons a l ih => rw [List.map_cons, List.sum_cons, ih, hc, List.length_cons, Nat.add_mul]; omega
  have hlt : k * size + j < (l.flatMap cells).length := by
    rw [hlen]
    have : (k + 1) * size ≤ l.length * size := Nat.mul_le_mul_right _ hk
    rw [Nat.add_mul] at this
    omega
  have h1 := hce (k * size + j) hlt
  rw [flat_at cells size hc l k j x hx hj] at h1
  rw [← h1]
  exact (Keeps.of_below (S := []) hb).cell (q := ⟨g, k * size + j, none⟩) (World.block_lt_of_cell? _ _ (h1.trans (List.getElem?_eq_getElem (by rw [hc]; exact hj)))) (by simp)
set_option maxHeartbeats 4000000 in
theorem same50_self (x : El) (w : World) : Calls Tryz.prog 50 #[.agg #[.int .u8 x.1, .complex .f64 x.2.1.1 x.2.1.2, .complex .f64 x.2.2.1.1 x.2.2.1.2, .float .f64 x.2.2.2], .agg #[.int .u8 x.1, .complex .f64 x.2.1.1 x.2.1.2, .complex .f64 x.2.2.1.1 x.2.2.1.2, .float .f64 x.2.2.2]] w fun e w' => e = .returned (.bool true) ∧ w' = (w.alloc (.cells #[.int .u8 x.1, .complex .f64 x.2.1.1 x.2.1.2, .complex .f64 x.2.2.1.1 x.2.2.1.2, .float .f64 x.2.2.2] 56)).alloc (.cells #[.int .u8 x.1, .complex .f64 x.2.1.1 x.2.1.2, .complex .f64 x.2.2.1.1 x.2.2.1.2, .float .f64 x.2.2.2] 56) := by
  go_enter Tryz.func50, Tryz.ntmps50
  go_wp2_with (first | (go_at_call 18; ((with_reducible refine (same18_self _ _ _).mono ?_); rintro e w' ⟨rfl, rfl⟩)) | (go_at_call 51; ((with_reducible refine (same51_self _ _).mono ?_); rintro e w' ⟨rfl, rfl⟩)))
  go_ret
  exact ⟨by simp, rfl⟩
set_option maxRecDepth 100000 in
set_option maxHeartbeats 8000000 in
theorem same15_self (l : List El) (hn : l.length ≤ 70000) (B1 B2 : Nat) (sv1 sv2 : Value) (w : World) (h1 : w.ownsRow B1 56 4 sv1 l.length (l.flatMap elCells)) (h2 : w.ownsRow B2 56 4 sv2 l.length (l.flatMap elCells)) :
    Calls Tryz.prog 15 #[.agg #[sv1], .agg #[sv2]] w fun e w' => e = .returned (.bool true) ∧ Below w.heap.size w w' := by
  obtain ⟨a1, p1, rfl, hc1⟩ := own_form h1
  obtain ⟨a2, p2, rfl, hc2⟩ := own_form h2
  have C1 := hid hc1
  have C2 := hid hc2
  clear h1 h2 hc1 hc2
  go_enter Tryz.func15, Tryz.ntmps15
  go_wp2_with fail
  go_loopw [5] (fun t wr => ∃ k : Nat, t = .int .i64 k ∧ k ≤ l.length ∧ Below w.heap.size w wr ∧ Hid (wr.heap[w.heap.size]? = some (.cells #[.slice a1 l.length p1] 25 (0, 0))) ∧ Hid (wr.heap[w.heap.size + 1]? = some (.cells #[.slice a2 l.length p2] 25 (0, 0)))) (fun t _ => l.length - (intOf t).toNat)
  case atStart => exact ⟨0, rfl, Nat.zero_le _, Below.alloc (Below.alloc (Below.refl _ _) (Nat.le_refl _) _) (by simp) _, hid (by simp only [block_alloc', block_at]), hid (by simp only [block_at])⟩
  case round =>
    obtain ⟨k, rfl, hk, hb, hb1, hb2⟩ := hrel
    have z1 := cell_of_block hb1.out 0
    have z2 := cell_of_block hb2.out 0
    simp at z1 z2
    haveI : Has wr w.heap.size := ⟨lt_of_block hb1.out⟩
    haveI : Has wr (w.heap.size + 1) := ⟨lt_of_block hb2.out⟩
    have HB := hid hb
    by_cases hkn : k < l.length
    · obtain ⟨g1, rfl, hce1⟩ := C1.out (by omega)
      obtain ⟨g2, rfl, hce2⟩ := C2.out (by omega)
      have hk' : (k : Int) < (l.length : Int) := by omega
      have hk0 : (0 : Int) ≤ (k : Int) := by omega
      have hx : l[k]? = some l[k] := List.getElem?_eq_getElem hkn
      obtain ⟨x, hxx⟩ : ∃ x, x = l[k] := ⟨_, rfl⟩
      rw [← hxx] at hx
      have c0 : wr.cell? ⟨g1, k * 4, none⟩ = some (Value.int .u8 x.1) := own_at elCells 4 (fun _ => rfl) hce1 hx hb 0 (by omega)
      have c1 : wr.cell? ⟨g1, k * 4 + 1, none⟩ = some (Value.complex .f64 x.2.1.1 x.2.1.2) := own_at elCells 4 (fun _ => rfl) hce1 hx hb 1 (by omega)
      have c2 : wr.cell? ⟨g1, k * 4 + 2, none⟩ = some (Value.complex .f64 x.2.2.1.1 x.2.2.1.2) := own_at elCells 4 (fun _ => rfl) hce1 hx hb 2 (by omega)
      have c3 : wr.cell? ⟨g1, k * 4 + 3, none⟩ = some (Value.float .f64 x.2.2.2) := own_at elCells 4 (fun _ => rfl) hce1 hx hb 3 (by omega)
      have d0 : wr.cell? ⟨g2, k * 4, none⟩ = some (Value.int .u8 x.1) := own_at elCells 4 (fun _ => rfl) hce2 hx hb 0 (by omega)
      have d1 : wr.cell? ⟨g2, k * 4 + 1, none⟩ = some (Value.complex .f64 x.2.1.1 x.2.1.2) := own_at elCells 4 (fun _ => rfl) hce2 hx hb 1 (by omega)
      have d2 : wr.cell? ⟨g2, k * 4 + 2, none⟩ = some (Value.complex .f64 x.2.2.1.1 x.2.2.1.2) := own_at elCells 4 (fun _ => rfl) hce2 hx hb 2 (by omega)
      have d3 : wr.cell? ⟨g2, k * 4 + 3, none⟩ = some (Value.float .f64 x.2.2.2) := own_at elCells 4 (fun _ => rfl) hce2 hx hb 3 (by omega)
      haveI : Has wr g1 := ⟨World.block_lt_of_cell? _ _ c0⟩
      haveI : Has wr g2 := ⟨World.block_lt_of_cell? _ _ d0⟩
      have hsz := hb.size
      clear hce1 hce2 hxx hx hb
      go_wp2_with fail
      go_region_held3 (fun W => W.cell? ⟨w.heap.size, 0, none⟩ = some (Value.slice (some ⟨g1, 0, none⟩) l.length p1) ∧ W.cell? ⟨w.heap.size + 1, 0, none⟩ = some (Value.slice (some ⟨g2, 0, none⟩) l.length p2) ∧ W.cell? ⟨g1, k * 4, none⟩ = some (Value.int .u8 x.1) ∧ W.cell? ⟨g1, k * 4 + 1, none⟩ = some (Value.complex .f64 x.2.1.1 x.2.1.2) ∧ W.cell? ⟨g1, k * 4 + 2, none⟩ = some (Value.complex .f64 x.2.2.1.1 x.2.2.1.2) ∧ W.cell? ⟨g1, k * 4 + 3, none⟩ = some (Value.float .f64 x.2.2.2) ∧ W.cell? ⟨g2, k * 4, none⟩ = some (Value.int .u8 x.1) ∧ W.cell? ⟨g2, k * 4 + 1, none⟩ = some (Value.complex .f64 x.2.1.1 x.2.1.2) ∧ W.cell? ⟨g2, k * 4 + 2, none⟩ = some (Value.complex .f64 x.2.2.1.1 x.2.2.1.2) ∧ W.cell? ⟨g2, k * 4 + 3, none⟩ = some (Value.float .f64 x.2.2.2)) (refine ⟨?_, ?_, ?_, ?_, ?_, ?_, ?_, ?_, ?_, ?_⟩ <;> (simp [go_sem, z1, z2, c0, c1, c2, c3, d0, d1, d2, d3]; done)) (first | (go_at_call 50; refine (same50_self x _).mono ?_; rintro e w' ⟨rfl, rfl⟩))
      all_goals
        go_wp2_with fail
        go_roundw
        case rel => exact ⟨k + 1, by rfl, by omega, HB.out.trans (by refine Below.mono ?_ hsz; repeat' (first | exact Below.refl _ _ | (refine Below.alloc ?_ ?_ _) | (refine Below.drew ?_) | (simp; done) | (simp; omega) | omega | assumption)), hid ((show Below wr.heap.size wr _ from (by repeat' (first | exact Below.refl _ _ | (refine Below.alloc ?_ ?_ _) | (refine Below.drew ?_) | (simp; done) | (simp; omega) | omega | assumption))).block _ (lt_of_block hb1.out) |>.trans hb1.out), hid ((show Below wr.heap.size wr _ from (by repeat' (first | exact Below.refl _ _ | (refine Below.alloc ?_ ?_ _) | (refine Below.drew ?_) | (simp; done) | (simp; omega) | omega | assumption))).block _ (lt_of_block hb2.out) |>.trans hb2.out)⟩
        case measure => simp [intOf]; omega
    · obtain rfl : k = l.length := by omega
      go_wp2_with fail
      go_ret
      exact ⟨rfl, HB.out⟩
set_option maxRecDepth 100000 in
set_option maxHeartbeats 8000000 in
theorem same16_self (l : List Tr) (hn : l.length ≤ 70000) (B1 B2 : Nat) (sv1 sv2 : Value) (w : World) (h1 : w.ownsRow B1 58 3 sv1 l.length (l.flatMap trCells)) (h2 : w.ownsRow B2 58 3 sv2 l.length (l.flatMap trCells)) :
    Calls Tryz.prog 16 #[sv1, sv2] w fun e w' => e = .returned (.bool true) ∧ Below w.heap.size w w' := by
  obtain ⟨a1, p1, rfl, hc1⟩ := own_form h1
  obtain ⟨a2, p2, rfl, hc2⟩ := own_form h2
  have C1 := hid hc1
  have C2 := hid hc2
  clear h1 h2 hc1 hc2
  go_enter Tryz.func16, Tryz.ntmps16
  go_wp2_with fail
  go_loopw [5] (fun t wr => ∃ k : Nat, t = .int .i64 k ∧ k ≤ l.length ∧ Below w.heap.size w wr) (fun t _ => l.length - (intOf t).toNat)
  case atStart => exact ⟨0, rfl, Nat.zero_le _, Below.refl _ _⟩
  case round =>
    obtain ⟨k, rfl, hk, hb⟩ := hrel
    have HB := hid hb
    by_cases hkn : k < l.length
    · obtain ⟨g1, rfl, hce1⟩ := C1.out (by omega)
      obtain ⟨g2, rfl, hce2⟩ := C2.out (by omega)
      have hk' : (k : Int) < (l.length : Int) := by omega
      have hk0 : (0 : Int) ≤ (k : Int) := by omega
      have hx : l[k]? = some l[k] := List.getElem?_eq_getElem hkn
      obtain ⟨x, hxx⟩ : ∃ x, x = l[k] := ⟨_, rfl⟩
      rw [← hxx] at hx
      have c0 : wr.cell? ⟨g1, k * 3, none⟩ = some (Value.complex .f64 x.1.1 x.1.2) := own_at trCells 3 (fun _ => rfl) hce1 hx hb 0 (by omega)
      have c1 : wr.cell? ⟨g1, k * 3 + 1, none⟩ = some (Value.float .f64 x.2.1) := own_at trCells 3 (fun _ => rfl) hce1 hx hb 1 (by omega)
      have c2 : wr.cell? ⟨g1, k * 3 + 2, none⟩ = some (Value.int .u8 x.2.2) := own_at trCells 3 (fun _ => rfl) hce1 hx hb 2 (by omega)
      have d0 : wr.cell? ⟨g2, k * 3, none⟩ = some (Value.complex .f64 x.1.1 x.1.2) := own_at trCells 3 (fun _ => rfl) hce2 hx hb 0 (by omega)
      have d1 : wr.cell? ⟨g2, k * 3 + 1, none⟩ = some (Value.float .f64 x.2.1) := own_at trCells 3 (fun _ => rfl) hce2 hx hb 1 (by omega)
      have d2 : wr.cell? ⟨g2, k * 3 + 2, none⟩ = some (Value.int .u8 x.2.2) := own_at trCells 3 (fun _ => rfl) hce2 hx hb 2 (by omega)
      haveI : Has wr g1 := ⟨World.block_lt_of_cell? _ _ c0⟩
      haveI : Has wr g2 := ⟨World.block_lt_of_cell? _ _ d0⟩
      have hsz := hb.size
      clear hce1 hce2 hxx hx hb
      go_wp2_with fail
      go_quiet ((go_at_call 18; exact Calls.quiet_of_same (same18_self _ _ _)))
      go_wp2_with fail
      go_quiet ((go_at_call 51; exact same_again (same51_self _ _)))
      go_wp2_with fail
      go_quiet (fail)
      go_wp2_with fail
      go_roundw
      case rel => exact ⟨k + 1, by rfl, by omega, HB.out.trans (by refine Below.mono ?_ hsz; repeat' (first | exact Below.refl _ _ | (refine Below.many ?_ _) | (refine Below.drew ?_)))⟩
      case measure => simp [intOf]; omega
    · obtain rfl : k = l.length := by omega
      go_wp2_with fail
      go_ret
      exact ⟨rfl, HB.out⟩
set_option maxRecDepth 100000 in
set_option maxHeartbeats 8000000 in
theorem same17_self (l : List Wh) (hn : l.length ≤ 70000) (B1 B2 : Nat) (sv1 sv2 : Value) (w : World) (h1 : w.ownsRow B1 60 2 sv1 l.length (l.flatMap whCells)) (h2 : w.ownsRow B2 60 2 sv2 l.length (l.flatMap whCells)) :
    Calls Tryz.prog 17 #[sv1, sv2] w fun e w' => e = .returned (.bool true) ∧ Below w.heap.size w w' := by
  obtain ⟨a1, p1, rfl, hc1⟩ := own_form h1
  obtain ⟨a2, p2, rfl, hc2⟩ := own_form h2
  have C1 := hid hc1
  have C2 := hid hc2
  clear h1 h2 hc1 hc2
  go_enter Tryz.func17, Tryz.ntmps17
  go_wp2_with fail
  go_loopw [5] (fun t wr => ∃ k : Nat, t = .int .i64 k ∧ k ≤ l.length ∧ Below w.heap.size w wr) (fun t _ => l.length - (intOf t).toNat)
  case atStart => exact ⟨0, rfl, Nat.zero_le _, Below.refl _ _⟩
  case round =>
    obtain ⟨k, rfl, hk, hb⟩ := hrel
    have HB := hid hb
    by_cases hkn : k < l.length
    · obtain ⟨g1, rfl, hce1⟩ := C1.out (by omega)
      obtain ⟨g2, rfl, hce2⟩ := C2.out (by omega)
      have hk' : (k : Int) < (l.length : Int) := by omega
      have hk0 : (0 : Int) ≤ (k : Int) := by omega
      have hx : l[k]? = some l[k] := List.getElem?_eq_getElem hkn
      obtain ⟨x, hxx⟩ : ∃ x, x = l[k] := ⟨_, rfl⟩
      rw [← hxx] at hx
      have c0 : wr.cell? ⟨g1, k * 2, none⟩ = some (Value.complex .f64 x.1.1 x.1.2) := own_at whCells 2 (fun _ => rfl) hce1 hx hb 0 (by omega)
      have c1 : wr.cell? ⟨g1, k * 2 + 1, none⟩ = some (Value.float .f64 x.2) := own_at whCells 2 (fun _ => rfl) hce1 hx hb 1 (by omega)
      have d0 : wr.cell? ⟨g2, k * 2, none⟩ = some (Value.complex .f64 x.1.1 x.1.2) := own_at whCells 2 (fun _ => rfl) hce2 hx hb 0 (by omega)
      have d1 : wr.cell? ⟨g2, k * 2 + 1, none⟩ = some (Value.float .f64 x.2) := own_at whCells 2 (fun _ => rfl) hce2 hx hb 1 (by omega)
      haveI : Has wr g1 := ⟨World.block_lt_of_cell? _ _ c0⟩
      haveI : Has wr g2 := ⟨World.block_lt_of_cell? _ _ d0⟩
      have hsz := hb.size
      clear hce1 hce2 hxx hx hb
      go_wp2_with fail
      go_quiet ((first | (go_at_call 18; exact Calls.quiet_of_same (same18_self _ _ _)) | (go_at_call 51; exact Calls.quiet_of_same (same51_self _ _))))
      go_wp2_with fail
      go_roundw
      case rel => exact ⟨k + 1, by rfl, by omega, HB.out.trans (by refine Below.mono ?_ hsz; repeat' (first | exact Below.refl _ _ | (refine Below.many ?_ _) | (refine Below.drew ?_)))⟩
      case measure => simp [intOf]; omega
    · obtain rfl : k = l.length := by omega
      go_wp2_with fail
      go_ret
      exact ⟨rfl, HB.out⟩
end Go.Proofs.YtnagagcgmfkjjaaGreatDoor
