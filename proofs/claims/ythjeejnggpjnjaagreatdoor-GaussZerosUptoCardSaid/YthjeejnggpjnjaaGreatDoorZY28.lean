/- A part: FJ. -/
import Derived.Test.YthjeejnggpjnjaaGreatDoorZY25
import Derived.Test.YthjeejnggpjnjaaGreatDoorZY26
import Derived.ReadAgain
import Derived.Deep.Slices
import Derived.RowKit3
import Derived.ChangeShapes
set_option linter.unusedSimpArgs false
set_option linter.unusedVariables false
set_option maxRecDepth 100000
set_option maxHeartbeats 16000000
set_option synthInstance.maxHeartbeats 2000000
set_option synthInstance.maxSize 100000
namespace Go.Proofs.YthjeejnggpjnjaaGreatDoor
open Go.RowKit
open Go.ChangeShapes Go.WideShapes Go.RowKit
set_option maxRecDepth 100000
theorem c_41 : Tryz.prog.cellsOf 41 = 4 := by kernel_rfl
section
variable {H : Type} {enc : TypeId × Value → H} {P : Program} {w : World} {base : Nat} {sp : Nat → Bool} {held : Bool}
def dC (a b c d : Nat) : DataW H := .agg [dP a b, dP c d]
theorem trod_c {fuel : Nat} {cs : List Value} {x : DataW H × List MemPlace} (h : DataW.trod enc Tryz.prog w base sp held fuel 41 cs = some x) : ∃ a b c d : Nat, cs = [.int .u64 (a : Int), .int .u64 (b : Int), .int .u64 (c : Int), .int .u64 (d : Int)] ∧ x = (dC a b c d, []) ∧ (a < 18446744073709551616 ∧ b < 18446744073709551616) ∧ (c < 18446744073709551616 ∧ d < 18446744073709551616) := by
 obtain ⟨y0, y1, k, rfl, hl, h0, h1⟩ := Go.ChangeShapes.trod_struct2 Tryz.underlying41 h; obtain ⟨a, b, e0, rfl, b0⟩ := trod_p h0; obtain ⟨c, d, e1, rfl, b1⟩ := trod_p h1; rw [c_41] at hl; rw [c_25] at e0 e1; exact ⟨a, b, c, d, take4 hl e0 e1, rfl, b0, b1⟩
theorem open_corners {r : Reach} {b0 : Nat} {v : Value} {d : DataW H} {ps : List MemPlace} (hval : Value.okWide Tryz.prog w r b0 41 v) (h : DataW.Trod enc Tryz.prog w base sp held 41 v d ps) : ∃ a b c e : Nat, v = .agg #[.int .u64 (a : Int), .int .u64 (b : Int), .int .u64 (c : Int), .int .u64 (e : Int)] ∧ d = dC a b c e ∧ ps = [] ∧ (a < 18446744073709551616 ∧ b < 18446744073709551616) ∧ (c < 18446744073709551616 ∧ e < 18446744073709551616) := by
 obtain ⟨cs, rfl, hs⟩ := Go.WideShapes.okWide_struct Tryz.underlying41 hval; obtain ⟨fuel, hf⟩ := h; obtain ⟨a, b, c, e, he, ex, hb⟩ := trod_c hf; simp only [Prod.mk.injEq] at ex; exact ⟨a, b, c, e, congrArg Value.agg (Array.toList_inj.1 (show cs.toList = _ from he)), ex.1, ex.2, hb⟩
theorem trod_p_mk {m n : Nat} (hm : m < 18446744073709551616) (hn : n < 18446744073709551616) : DataW.trod enc Tryz.prog w base sp held 2 25 [.int .u64 (m : Int), .int .u64 (n : Int)] = some (dP m n, []) := by
 have hl : ([.int .u64 (m : Int), .int .u64 (n : Int)] : List Value).length = Tryz.prog.cellsOf 25 := c_25.symm
 have h0 : DataW.trod enc Tryz.prog w base sp held 1 23 ((([.int .u64 (m : Int), .int .u64 (n : Int)] : List Value).drop 0).take (Tryz.prog.cellsOf 23)) = some (dU m, []) := by
  rw [c_23]; exact Go.ChangeShapes.trod_int_mk 0 Tryz.underlying23 (wf_u hm)
 have h1 : DataW.trod enc Tryz.prog w base sp held 1 23 ((([.int .u64 (m : Int), .int .u64 (n : Int)] : List Value).drop 1).take (Tryz.prog.cellsOf 23)) = some (dU n, []) := by
  rw [c_23]; exact Go.ChangeShapes.trod_int_mk 0 Tryz.underlying23 (wf_u hn)
 exact Go.ChangeShapes.trod_struct2_mk Tryz.underlying25 hl h0 h1
theorem shut_corners {a b c d : Nat} (ha : a < 18446744073709551616) (hb : b < 18446744073709551616) (hc : c < 18446744073709551616) (hd : d < 18446744073709551616) : DataW.Trod enc Tryz.prog w base sp held 41 (.agg #[.int .u64 (a : Int), .int .u64 (b : Int), .int .u64 (c : Int), .int .u64 (d : Int)]) (dC a b c d) [] := by
 have hl : ([.int .u64 (a : Int), .int .u64 (b : Int), .int .u64 (c : Int), .int .u64 (d : Int)] : List Value).length = Tryz.prog.cellsOf 41 := c_41.symm
 have h0 : DataW.trod enc Tryz.prog w base sp held 2 25 ((([.int .u64 (a : Int), .int .u64 (b : Int), .int .u64 (c : Int), .int .u64 (d : Int)] : List Value).drop 0).take (Tryz.prog.cellsOf 25)) = some (dP a b, []) := by
  rw [c_25]; exact trod_p_mk ha hb
 have h1 : DataW.trod enc Tryz.prog w base sp held 2 25 ((([.int .u64 (a : Int), .int .u64 (b : Int), .int .u64 (c : Int), .int .u64 (d : Int)] : List Value).drop 2).take (Tryz.prog.cellsOf 25)) = some (dP c d, []) := by
  rw [c_25]; exact trod_p_mk hc hd
 exact ⟨3, Go.ChangeShapes.trod_struct2_mk Tryz.underlying41 hl h0 h1⟩
end
end Go.Proofs.YthjeejnggpjnjaaGreatDoor
