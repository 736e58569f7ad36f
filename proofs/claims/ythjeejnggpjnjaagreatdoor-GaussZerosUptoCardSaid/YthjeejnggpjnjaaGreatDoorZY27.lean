/- A part: ED. -/
import Derived.Test.YthjeejnggpjnjaaGreatDoorZY25
import Derived.Test.YthjeejnggpjnjaaGreatDoorZY26
import Derived.ReadAgain
import Derived.Deep.Slices
import Derived.RowKit3
set_option linter.unusedSimpArgs false
set_option linter.unusedVariables false
set_option maxRecDepth 100000
set_option maxHeartbeats 16000000
set_option synthInstance.maxHeartbeats 2000000
set_option synthInstance.maxSize 100000
namespace Go.Proofs.YthjeejnggpjnjaaGreatDoor
open Go.RowKit
theorem bulk_one {H : Type} (d : DataW H) : 1 ≤ Rows.uptoBulk d := by
 cases d with
 | lit l => cases l <;> simp [Rows.uptoBulk]
 | nil => simp [Rows.uptoBulk]
 | ptr d => simp [Rows.uptoBulk]
 | slice elems spare => simp [Rows.uptoBulk]
 | agg parts => simp [Rows.uptoBulk]
 | iface _ d => simp [Rows.uptoBulk]
 | map entries => simp [Rows.uptoBulk]
 | held _ => simp [Rows.uptoBulk]
theorem bulk_len {H : Type} (l : List (DataW H)) : l.length ≤ Rows.uptoBulkAll l := by
 induction l with
 | nil => simp [Rows.uptoBulkAll]
 | cons x r ih => have := bulk_one x; simp only [Rows.uptoBulkAll, List.length_cons]; omega
theorem bulk_slice {H : Type} (e s : List (DataW H)) : e.length + s.length + 1 ≤ Rows.uptoBulk (.slice e s) := by
 have h1 := bulk_len e; have h2 := bulk_len s; simp only [Rows.uptoBulk]; omega
open Go.ChangeShapes Go.WideShapes Go.RowKit
set_option maxRecDepth 100000
theorem kids : Kids Tryz.prog (· < Tryz.prog.types.size) := kids_rows (by kernel_rfl) (by kernel_rfl)
theorem full : ∀ t e, t < Tryz.prog.types.size → Tryz.prog.underlying t = some (.slice e) → 0 < Tryz.prog.cellsOf e := slices_full_of Tryz.prog (by kernel_rfl)
section
variable {H : Type} {enc : TypeId × Value → H} {w : World} {base : Nat} {sp : Nat → Bool} {held : Bool}
theorem cells_place {a : Addr} {m n : Nat} (h : w.cells? base a 2 = some [.int .u64 (m : Int), .int .u64 (n : Int)]) : a.spot = none ∧ w.cell? ⟨a.block, a.off, none⟩ = some (.int .u64 (m : Int)) ∧ w.cell? ⟨a.block, a.off + 1, none⟩ = some (.int .u64 (n : Int)) ∧ a.block < w.heap.size := by
 obtain ⟨-, -, hc⟩ := World.cells?_some h; have h0 := hc 0 (by decide)
 have h1 := hc 1 (by decide)
 obtain ⟨b, off, spot⟩ := a
 have hs : spot = none := by
  have := World.cell?_spot (v := .int .u64 (m : Int)) (a := (⟨b, off, spot⟩ : Addr).add 0) (by simpa using h0)
  simpa [Addr.add] using this
 subst hs; rw [Go.WideShapes.add_plain] at h0 h1; have h0' : w.cell? ⟨b, off, none⟩ = some (.int .u64 (m : Int)) := by simpa using h0
 refine ⟨rfl, h0', by simpa using h1, ?_⟩
 by_cases hlt : b < w.heap.size
 · exact hlt
 · exfalso
   simp [World.cell?, Array.getElem?_eq_none (Nat.le_of_not_lt hlt)] at h0'
theorem open_places {r : Reach} {b0 : Nat} {v : Value} {d : DataW H} {ps : List MemPlace} (hval : Value.okWide Tryz.prog w r b0 22 v) (h : DataW.Trod enc Tryz.prog w base sp held 22 v d ps) :
 ∃ (a : Option Addr) (cap : Nat) (l : List (Nat × Nat)), v = .slice a l.length cap ∧ okB l ∧ Pl w a l ∧ l.length ≤ Rows.uptoBulk d := by
 obtain ⟨a0, len0, cap0, rfl⟩ := okWide_slice Tryz.underlying22 hval; obtain ⟨fuel, hf⟩ := h; rcases Go.Deep.open_slice Tryz.underlying22 hf with ⟨hcs, -⟩ | ⟨a, len, cap, m, n, D, PP, hcs, -, hlc, -, hm, hx, hel⟩
 · simp [Value.cells] at hcs
   obtain ⟨rfl, rfl, rfl⟩ := hcs; exact ⟨none, 0, [], rfl, by simp [okB], by simp [Pl], Nat.zero_le _⟩
 · simp [Value.cells] at hcs
   obtain ⟨rfl, rfl, rfl⟩ := hcs; simp only [Prod.mk.injEq] at hx; obtain ⟨rfl, -⟩ := hx; have hle : len0 ≤ m := by rw [hm]; split <;> omega
   have H1 : ∀ i, ∃ p : Nat × Nat, i < len0 → (p.1 < 18446744073709551616 ∧ p.2 < 18446744073709551616) ∧ w.cells? base (a.add (i * 2)) 2 = some [.int .u64 (p.1 : Int), .int .u64 (p.2 : Int)] := by
    intro i; by_cases hi : i < len0
    · obtain ⟨cs', h1, h2⟩ := hel i (by omega)
      obtain ⟨x, y, rfl, -, bx, by'⟩ := trod_p h2
      rw [c_25] at h1; exact ⟨(x, y), fun _ => ⟨⟨bx, by'⟩, h1⟩⟩
    · exact ⟨(0, 0), fun h => absurd h hi⟩
   obtain ⟨f, hf2⟩ := Classical.axiomOfChoice H1; have hlen : ((List.range len0).map f).length = len0 := by rw [List.length_map, List.length_range]
   refine ⟨some a, cap0, (List.range len0).map f, by rw [hlen], fun x hx => ?_, fun i x hx => ?_, ?_⟩
   · obtain ⟨i, hi, rfl⟩ := List.mem_map.1 hx; exact (hf2 i (List.mem_range.1 hi)).1
   · obtain ⟨hi, -⟩ := List.getElem?_eq_some_iff.1 hx; rw [hlen] at hi; rw [List.getElem?_map, List.getElem?_range hi] at hx; obtain rfl : f i = x := Option.some.inj hx; obtain ⟨h1, h2, h3, h4⟩ := cells_place (hf2 i hi).2; obtain ⟨b, off, spot⟩ := a
     obtain rfl : spot = none := by
      cases spot
      · rfl
      · have h0 := (cells_place (hf2 0 (by omega)).2).1
        simp [Addr.add] at h0
     rw [Go.WideShapes.add_plain] at h1 h2 h3 h4; exact ⟨b, off, rfl, h4, h2, h3⟩
   · rw [hlen]; have := bulk_slice (H := H) ((List.range len0).map D) ((List.range (m - len0)).map fun j => D (len0 + j))
     rw [List.length_map, List.length_range] at this; omega
end
end Go.Proofs.YthjeejnggpjnjaaGreatDoor
