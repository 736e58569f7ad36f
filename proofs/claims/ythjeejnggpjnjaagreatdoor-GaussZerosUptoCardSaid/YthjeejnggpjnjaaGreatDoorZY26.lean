/- A part: DN. -/
import Derived.Test.YthjeejnggpjnjaaGreatDoorZY14
import Derived.Test.YthjeejnggpjnjaaGreatDoorRows
import Derived.ProofKit
import Derived.ChangeSame
import Derived.ChangeVars
import Derived.JoinedOf
import Derived.RowKit
import Derived.RowKitTokens
import Derived.LaidLaws
import Derived.LaidHandle
import Derived.Stop.Joined
import Derived.Lay
import Derived.Lib.LaidTab
import Derived.OpenShut
import Derived.ChangeMaps5
set_option linter.unusedSimpArgs false
set_option linter.unusedVariables false
set_option maxRecDepth 100000
set_option maxHeartbeats 16000000
set_option synthInstance.maxHeartbeats 2000000
set_option synthInstance.maxSize 100000
namespace Go.Proofs.YthjeejnggpjnjaaGreatDoor
open Go.RowKit
open Go.ChangeShapes Go.WideShapes Go.RowKit Go.Stop
set_option maxRecDepth 100000
theorem own : ownKnob Tryz.prog.godebug = none := by kernel_rfl
theorem g_db : Tryz.prog.globalNamed "math/bits.deBruijn32tab" = some 1 := by kernel_rfl
theorem t_db : (Tryz.prog.globals[1]?).map (·.type) = some 243 := by kernel_rfl
theorem c_5 : Tryz.prog.cellsOf 5 = 1 := by kernel_rfl
theorem c_23 : Tryz.prog.cellsOf 23 = 1 := by kernel_rfl
theorem c_25 : Tryz.prog.cellsOf 25 = 2 := by kernel_rfl
theorem c_243 : Tryz.prog.cellsOf 243 = 32 := by kernel_rfl
def allLaid : List (String × DataW Unit) := [("math/bits.deBruijn32tab", Rows.laid_math_bits_deBruijn32tab)]
theorem vr_of_laid {W : World} (h : laidMetH Tryz.prog allLaid W) : Vr W := by
 have h0 : laidMet Tryz.prog allLaid W := h; have e : Rows.laid_math_bits_deBruijn32tab = Lib.tabData (H := Unit) .u8 (Lib.deBruijn32tab.map fun n : Nat => (n : Int)) := by rfl
 have h1 : laidMet Tryz.prog (("math/bits.deBruijn32tab", Lib.tabData .u8 (Lib.deBruijn32tab.map fun n : Nat => (n : Int))) :: []) W := by
  rw [← e]; exact h0
 have ht := Lib.tabIs_of_head g_db t_db Tryz.underlying243 Tryz.underlying5 c_5 c_243 h1
 have hc : ∀ j, j < 32 → W.cell? ⟨1, j, none⟩ = some (.int .u8 (Lib.deBruijn32tab.getD j 0)) := by
  intro j hj; rw [ht.cell g_db j hj]
  congr 2
  rw [List.getD_eq_getElem?_getD, List.getD_eq_getElem?_getD, List.getElem?_map]; rw [List.getElem?_eq_getElem (show j < Lib.deBruijn32tab.length from hj)]
  rfl
 refine ⟨?_, hc⟩
 have := hc 0 (by decide)
 by_cases hlt : 1 < W.heap.size
 · exact hlt
 · exfalso
   simp [World.cell?, Array.getElem?_eq_none (Nat.le_of_not_lt hlt)] at this
noncomputable def laidWorld (os : Os) : World := World.laidAll Tryz.prog os allLaid
theorem laidWorld_met (os : Os) (args : Array Value) : laidMetH Tryz.prog allLaid ((laidWorld os).forCall (fun _ _ => 0) ⟨#[], args, []⟩).memory :=
 laidMetH_of_parts (laidMet_of_run' 8 (by kernel_rfl) (by kernel_rfl)) (by kernel_rfl)
section
variable {H : Type} {enc : TypeId × Value → H} {w : World} {base : Nat} {sp : Nat → Bool} {held : Bool}
def dU (x : Nat) : DataW H := .lit (.int .u64 (x : Int))
def dP (x y : Nat) : DataW H := .agg [dU x, dU y]
theorem trod_u {fuel : Nat} {cs : List Value} {x : DataW H × List MemPlace} (h : DataW.trod enc Tryz.prog w base sp held fuel 23 cs = some x) : ∃ n : Nat, cs = [.int .u64 (n : Int)] ∧ x = (dU n, []) ∧ n < 18446744073709551616 := by
 obtain ⟨n, rfl, rfl, hw⟩ := DataW.trod_int Tryz.underlying23 h; have hb := Go.bounds_u64 hw; obtain ⟨m, rfl⟩ : ∃ m : Nat, n = (m : Int) := ⟨n.toNat, by omega⟩
 exact ⟨m, rfl, rfl, by omega⟩
theorem take2 {cs : List Value} {u v : Value} (h : cs.length = 2) (h0 : (cs.drop 0).take 1 = [u]) (h1 : (cs.drop 1).take 1 = [v]) : cs = [u, v] := by
 match cs, h with
 | [a, b], _ =>
   simp at h0 h1
   rw [h0, h1]
theorem trod_p {fuel : Nat} {cs : List Value} {x : DataW H × List MemPlace} (h : DataW.trod enc Tryz.prog w base sp held fuel 25 cs = some x) : ∃ m n : Nat, cs = [.int .u64 (m : Int), .int .u64 (n : Int)] ∧ x = (dP m n, []) ∧ m < 18446744073709551616 ∧ n < 18446744073709551616 := by
 obtain ⟨y0, y1, k, rfl, hl, h0, h1⟩ := Go.ChangeShapes.trod_struct2 Tryz.underlying25 h; obtain ⟨m, e0, rfl, b0⟩ := trod_u h0; obtain ⟨n, e1, rfl, b1⟩ := trod_u h1; rw [c_25] at hl; rw [c_23] at e0 e1; exact ⟨m, n, take2 hl e0 e1, rfl, b0, b1⟩
theorem take4 {cs : List Value} {a b c d : Value} (h : cs.length = 4) (h0 : (cs.drop 0).take 2 = [a, b]) (h1 : (cs.drop 2).take 2 = [c, d]) : cs = [a, b, c, d] := by
 match cs, h with
 | [p, q, r, s], _ =>
   simp at h0 h1
   rw [h0.1, h0.2, h1.1, h1.2]
theorem wf_u {x : Nat} (h : x < 18446744073709551616) : (Lit.int .u64 (x : Int)).wf = true := by
 simp [Lit.wf, IntKind.min, IntKind.max, IntKind.signed, IntKind.bits]
 omega
end
end Go.Proofs.YthjeejnggpjnjaaGreatDoor
