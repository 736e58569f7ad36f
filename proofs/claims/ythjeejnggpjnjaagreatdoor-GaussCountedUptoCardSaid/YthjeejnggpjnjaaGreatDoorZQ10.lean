/- A part: FR. -/
import Derived.Test.YthjeejnggpjnjaaGreatDoorZQ02
import Derived.Test.YthjeejnggpjnjaaGreatDoorZQ07
import Derived.Test.YthjeejnggpjnjaaGreatDoorZQ08
import Derived.ChangeShapes
set_option linter.unusedSimpArgs false
set_option linter.unusedVariables false
set_option maxRecDepth 100000
set_option maxHeartbeats 16000000
set_option synthInstance.maxHeartbeats 2000000
set_option synthInstance.maxSize 100000
namespace Go.Proofs.YthjeejnggpjnjaaGreatDoor
open Go.RowKit
open Go.ChangeShapes Go.WideShapes Go.RowKit
set_option maxRecDepth 100000
theorem c_53 : Tryz.prog.cellsOf 53 = 1 := by kernel_rfl
theorem c_55 : Tryz.prog.cellsOf 55 = 2 := by kernel_rfl
theorem bounds_i16 {n : Int} (h : (Lit.int .i16 n).wf = true) : -32768 ≤ n ∧ n ≤ 32767 := by
 simp [Lit.wf, IntKind.min, IntKind.max, IntKind.signed, IntKind.bits] at h
 omega
theorem wf_i16 {n : Int} (h : -32768 ≤ n ∧ n ≤ 32767) : (Lit.int .i16 n).wf = true := by
 simp [Lit.wf, IntKind.min, IntKind.max, IntKind.signed, IntKind.bits]
 omega
section
variable {H : Type} {enc : TypeId × Value → H} {w : World} {base : Nat} {sp : Nat → Bool} {held : Bool}
def dG (x y : Int) : DataW H := .agg [.lit (.int .i16 x), .lit (.int .i16 y)]
theorem trod_g {fuel : Nat} {cs : List Value} {x : DataW H × List MemPlace} (h : DataW.trod enc Tryz.prog w base sp held fuel 55 cs = some x) : ∃ m n : Int, cs = [.int .i16 m, .int .i16 n] ∧ x = (dG m n, []) ∧ (-32768 ≤ m ∧ m ≤ 32767) ∧ (-32768 ≤ n ∧ n ≤ 32767) := by
 obtain ⟨y0, y1, k, rfl, hl, h0, h1⟩ := Go.ChangeShapes.trod_struct2 Tryz.underlying55 h; obtain ⟨m, e0, rfl, b0⟩ := DataW.trod_int Tryz.underlying53 h0; obtain ⟨n, e1, rfl, b1⟩ := DataW.trod_int Tryz.underlying53 h1; rw [c_55] at hl; rw [c_53] at e0 e1; exact ⟨m, n, take2 hl e0 e1, rfl, bounds_i16 b0, bounds_i16 b1⟩
theorem open_gauss {r : Reach} {b0 : Nat} {v : Value} {d : DataW H} {ps : List MemPlace} (hval : Value.okWide Tryz.prog w r b0 55 v) (h : DataW.Trod enc Tryz.prog w base sp held 55 v d ps) : ∃ m n : Int, v = .agg #[.int .i16 m, .int .i16 n] ∧ d = dG m n ∧ ps = [] ∧ (-32768 ≤ m ∧ m ≤ 32767) ∧ (-32768 ≤ n ∧ n ≤ 32767) := by
 obtain ⟨cs, rfl, hs⟩ := Go.WideShapes.okWide_struct Tryz.underlying55 hval; obtain ⟨fuel, hf⟩ := h; obtain ⟨m, n, e, ex, b⟩ := trod_g hf; simp only [Prod.mk.injEq] at ex; exact ⟨m, n, congrArg Value.agg (Array.toList_inj.1 (show cs.toList = _ from e)), ex.1, ex.2, b⟩
theorem shut_gauss {m n : Int} (hm : -32768 ≤ m ∧ m ≤ 32767) (hn : -32768 ≤ n ∧ n ≤ 32767) : DataW.Trod enc Tryz.prog w base sp held 55 (.agg #[.int .i16 m, .int .i16 n]) (dG m n) [] := by
 have hl : ([.int .i16 m, .int .i16 n] : List Value).length = Tryz.prog.cellsOf 55 := c_55.symm
 have h0 : DataW.trod enc Tryz.prog w base sp held 1 53 ((([.int .i16 m, .int .i16 n] : List Value).drop 0).take (Tryz.prog.cellsOf 53)) = some (.lit (.int .i16 m), []) := by
  rw [c_53]; exact Go.ChangeShapes.trod_int_mk 0 Tryz.underlying53 (wf_i16 hm)
 have h1 : DataW.trod enc Tryz.prog w base sp held 1 53 ((([.int .i16 m, .int .i16 n] : List Value).drop 1).take (Tryz.prog.cellsOf 53)) = some (.lit (.int .i16 n), []) := by
  rw [c_53]; exact Go.ChangeShapes.trod_int_mk 0 Tryz.underlying53 (wf_i16 hn)
 exact ⟨2, Go.ChangeShapes.trod_struct2_mk Tryz.underlying55 hl h0 h1⟩
end
section
variable {H : Type} {enc : TypeId × Value → H} {w : World} {base : Nat} {sp : Nat → Bool} {held : Bool}
theorem cells_gauss {a : Addr} {m n : Int} (h : w.cells? base a 2 = some [.int .i16 m, .int .i16 n]) : a.spot = none ∧ w.cell? ⟨a.block, a.off, none⟩ = some (.int .i16 m) ∧ w.cell? ⟨a.block, a.off + 1, none⟩ = some (.int .i16 n) ∧ a.block < w.heap.size := by
 obtain ⟨-, -, hc⟩ := World.cells?_some h; have h0 := hc 0 (by decide)
 have h1 := hc 1 (by decide)
 obtain ⟨b, off, spot⟩ := a
 have hs : spot = none := by
  have := World.cell?_spot (v := .int .i16 m) (a := (⟨b, off, spot⟩ : Addr).add 0) (by simpa using h0)
  simpa [Addr.add] using this
 subst hs; rw [Go.WideShapes.add_plain] at h0 h1; have h0' : w.cell? ⟨b, off, none⟩ = some (.int .i16 m) := by simpa using h0
 refine ⟨rfl, h0', by simpa using h1, ?_⟩
 by_cases hlt : b < w.heap.size
 · exact hlt
 · exfalso
   simp [World.cell?, Array.getElem?_eq_none (Nat.le_of_not_lt hlt)] at h0'
theorem open_gausses {r : Reach} {b0 : Nat} {v : Value} {d : DataW H} {ps : List MemPlace} (hval : Value.okWide Tryz.prog w r b0 48 v) (h : DataW.Trod enc Tryz.prog w base sp held 48 v d ps) :
 ∃ (a : Option Addr) (cap : Nat) (l : List (Int × Int)), v = .slice a l.length cap ∧ ok16 l ∧ Gl w a l ∧ l.length ≤ Rows.uptoBulk d := by
 obtain ⟨a0, len0, cap0, rfl⟩ := okWide_slice Tryz.underlying48 hval; obtain ⟨fuel, hf⟩ := h; rcases Go.Deep.open_slice Tryz.underlying48 hf with ⟨hcs, -⟩ | ⟨a, len, cap, m, n, D, PP, hcs, -, hlc, -, hm, hx, hel⟩
 · simp [Value.cells] at hcs
   obtain ⟨rfl, rfl, rfl⟩ := hcs; exact ⟨none, 0, [], rfl, by simp [ok16], by simp [Gl], Nat.zero_le _⟩
 · simp [Value.cells] at hcs
   obtain ⟨rfl, rfl, rfl⟩ := hcs; simp only [Prod.mk.injEq] at hx; obtain ⟨rfl, -⟩ := hx; have hle : len0 ≤ m := by rw [hm]; split <;> omega
   have H1 : ∀ i, ∃ p : Int × Int, i < len0 → ((-32768 ≤ p.1 ∧ p.1 ≤ 32767) ∧ (-32768 ≤ p.2 ∧ p.2 ≤ 32767)) ∧ w.cells? base (a.add (i * 2)) 2 = some [.int .i16 p.1, .int .i16 p.2] := by
    intro i; by_cases hi : i < len0
    · obtain ⟨cs', h1, h2⟩ := hel i (by omega)
      obtain ⟨x, y, rfl, -, bx, by'⟩ := trod_g h2
      rw [c_55] at h1; exact ⟨(x, y), fun _ => ⟨⟨bx, by'⟩, h1⟩⟩
    · exact ⟨(0, 0), fun h => absurd h hi⟩
   obtain ⟨f, hf2⟩ := Classical.axiomOfChoice H1; have hlen : ((List.range len0).map f).length = len0 := by rw [List.length_map, List.length_range]
   refine ⟨some a, cap0, (List.range len0).map f, by rw [hlen], fun x hx => ?_, fun i x hx => ?_, ?_⟩
   · obtain ⟨i, hi, rfl⟩ := List.mem_map.1 hx; exact (hf2 i (List.mem_range.1 hi)).1
   · obtain ⟨hi, -⟩ := List.getElem?_eq_some_iff.1 hx; rw [hlen] at hi; rw [List.getElem?_map, List.getElem?_range hi] at hx; obtain rfl : f i = x := Option.some.inj hx; obtain ⟨h1, h2, h3, h4⟩ := cells_gauss (hf2 i hi).2; obtain ⟨b, off, spot⟩ := a
     obtain rfl : spot = none := by
      cases spot
      · rfl
      · have h0 := (cells_gauss (hf2 0 (by omega)).2).1
        simp [Addr.add] at h0
     rw [Go.WideShapes.add_plain] at h1 h2 h3 h4; exact ⟨b, off, rfl, h4, h2, h3⟩
   · rw [hlen]; have := bulk_slice (H := H) ((List.range len0).map D) ((List.range (m - len0)).map fun j => D (len0 + j))
     rw [List.length_map, List.length_range] at this; omega
end
end Go.Proofs.YthjeejnggpjnjaaGreatDoor
