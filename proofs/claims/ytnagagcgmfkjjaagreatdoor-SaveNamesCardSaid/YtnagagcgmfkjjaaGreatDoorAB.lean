/- What an error says, of the given statements. -/
import Derived.Test.YtnagagcgmfkjjaaGreatDoorAA
set_option linter.unusedSimpArgs false
set_option linter.unusedVariables false
namespace Go.Proofs.YtnagagcgmfkjjaaGreatDoor
open Go.RowKit

set_option maxRecDepth 100000 in
set_option maxHeartbeats 4000000 in
theorem fault_nil (w : World) : Calls Tryz.prog 52 #[.nilIface] w fun e w' => e = .returned (.tuple #[.agg #[.int .i64 0, .int .i64 0], .bool true]) ∧ Below w.heap.size w w' := by
  go_enter Tryz.func52, Tryz.ntmps52
  go_wp2
  refine bodyPost_ret (v := .tuple #[.agg #[.int .i64 0, .int .i64 0], .bool true]) (by simp [results, Tryz.results52, go_sem]) rfl ⟨rfl, Below.alloc (Below.refl _ _) (Nat.le_refl _) _⟩
set_option maxRecDepth 100000 in
set_option maxHeartbeats 4000000 in
theorem fault_hit (g : Nat) (c p : Int) (hc : c ≠ 0) (w : World) (V : Vars w) (h40 : 8 ≤ w.heap.size) (hb : w.heap[g]? = some (.cells #[.int .i64 c, .int .i64 p] 41 (0, 0))) :
    Calls Tryz.prog 52 #[.iface 121 (.pointer (some ⟨g, 0, none⟩))] w fun e w' => e = .returned (.tuple #[.agg #[.int .i64 c, .int .i64 p], .bool true]) ∧ Below w.heap.size w w' := by
  have hg := lt_of_block hb
  haveI : Has w g := ⟨hg⟩
  haveI : Has w 1 := ⟨by omega⟩
  have hV1 : ((w.alloc (.cells #[.int .i64 0, .int .i64 0] 41)).alloc (.cells #[.pointer none] 121)).cell? ⟨1, 0, none⟩ = some (.iface 160 (.agg #[.pointer (some ⟨8, 27, none⟩)])) := by
    rw [cell_alloc', cell_alloc']; exact V.typ
  have has := as_hit ⟨g, 0, none⟩ ⟨w.heap.size + 1, 0, none⟩ (.pointer none) ((w.alloc (.cells #[.int .i64 0, .int .i64 0] 41)).alloc (.cells #[.pointer none] 121)) hV1 (by simp [go_sem]) (by simp [go_sem])
  have HAS := hid has
  have g0 := cell_of_block hb 0
  have g1 := cell_of_block hb 1
  simp at g0 g1
  have hc' : (c == 0) = false := by simpa using hc
  clear has V hV1 hb
  go_enter Tryz.func52, Tryz.ntmps52
  go_wp2_with fail
  refine HAS.out.mono ?_
  rintro e w1 ⟨rfl, rfl⟩
  clear HAS
  go_wp2_with fail
  refine bodyPost_ret (v := .tuple #[.agg #[.int .i64 c, .int .i64 p], .bool true]) (by simp [results, Tryz.results52, go_sem]) rfl ⟨rfl, ?_⟩
  (repeat' (first | exact Below.refl _ _ | (refine Below.alloc ?_ ?_ _) | (refine Below.drew ?_) | (refine Below.setCell ?_ ?_ _) | (simp; done) | (simp; omega) | assumption))
/-- What an error says that tells a fault: its code and place. -/
def Says (v : Value) (c p : Int) (w : World) : Prop := (c = 0 ∧ p = 0 ∧ v = .nilIface) ∨ (c ≠ 0 ∧ ∃ g, v = .iface 121 (.pointer (some ⟨g, 0, none⟩)) ∧ w.heap[g]? = some (.cells #[.int .i64 c, .int .i64 p] 41 (0, 0)))
theorem fault52 (v : Value) (c p : Int) (w : World) (V : Vars w) (h8 : 8 ≤ w.heap.size) (h : Says v c p w) :
    Calls Tryz.prog 52 #[v] w fun e w' => e = .returned (.tuple #[.agg #[.int .i64 c, .int .i64 p], .bool true]) ∧ Below w.heap.size w w' := by
  rcases h with ⟨rfl, rfl, rfl⟩ | ⟨hc, g, rfl, hb⟩
  · exact fault_nil w
  · exact fault_hit g c p hc w V h8 hb
set_option maxRecDepth 100000 in
set_option maxHeartbeats 4000000 in
theorem says_any (v : Value) (c p c' p' : Int) (w : World) (V : Vars w) (h8 : 8 ≤ w.heap.size) (h : Says v c p w) :
    Calls Tryz.prog 19 #[v, .agg #[.int .i64 c', .int .i64 p']] w fun e w' => e = .returned (.bool (decide (c = c' ∧ p = p'))) ∧ Below w.heap.size w w' := by
  have hV : Vars (w.alloc (.cells #[.int .i64 c', .int .i64 p'] 41)) := V.keep (Keeps.alloc (Keeps.refl w.heap.size [] w) (Nat.le_refl _) _) h8 (by simp)
  have hS : Says v c p (w.alloc (.cells #[.int .i64 c', .int .i64 p'] 41)) := by
    rcases h with h | ⟨hc, g, h1, h2⟩
    · exact .inl h
    · exact .inr ⟨hc, g, h1, (Below.heap_alloc w _ g (lt_of_block h2)).trans h2⟩
  have hf := fault52 v c p _ hV (by simp; omega) hS
  have HF := hid hf
  clear hf hS hV h V
  go_enter Tryz.func19, Tryz.ntmps19
  go_wp2_with fail
  refine HF.out.mono ?_
  rintro e w1 ⟨rfl, hb⟩
  have hsz := hb.size
  simp at hsz
  have b3 : w1.heap[w.heap.size]? = some (.cells #[.int .i64 c', .int .i64 p'] 41 (0, 0)) := (hb.block w.heap.size (by simp)).trans (by simp only [block_at])
  have q0 := cell_of_block b3 0
  have q1 := cell_of_block b3 1
  simp at q0 q1
  haveI : Has w1 w.heap.size := ⟨lt_of_block b3⟩
  have HB := hid hb
  clear hb b3 HF
  go_wp2_with fail
  all_goals
    go_ret
    refine ⟨by simp [*], ((Below.alloc (Below.refl _ _) (Nat.le_refl _) _).trans (HB.out.mono (by simp))).alloc (by omega) _⟩
end Go.Proofs.YtnagagcgmfkjjaaGreatDoor
