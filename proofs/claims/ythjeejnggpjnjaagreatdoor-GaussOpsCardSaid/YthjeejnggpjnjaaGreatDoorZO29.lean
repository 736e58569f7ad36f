/- A part: DN. -/
import Derived.Test.YthjeejnggpjnjaaGreatDoorZO19
import Derived.Test.YthjeejnggpjnjaaGreatDoorRows
import Derived.ProofKit
import Derived.ChangeSame
import Derived.ChangeVars
import Derived.JoinedOf
import Derived.RowKit
import Derived.RowKitTokens
import Derived.LaidLaws
import Derived.LaidHandle
import Derived.Stop.Joined
import Derived.Lay
import Derived.Lib.LaidTab
import Derived.OpenShut
import Derived.ChangeMaps5
set_option linter.unusedSimpArgs false
set_option linter.unusedVariables false
set_option maxRecDepth 100000
set_option maxHeartbeats 16000000
namespace Go.Proofs.YthjeejnggpjnjaaGreatDoor
open Go.RowKit
open Go.ChangeShapes Go.WideShapes Go.RowKit Go.Stop
set_option maxRecDepth 100000
theorem own : ownKnob Tryz.prog.godebug = none := by kernel_rfl
theorem g_db : Tryz.prog.globalNamed "math/bits.deBruijn32tab" = some 1 := by kernel_rfl
theorem t_db : (Tryz.prog.globals[1]?).map (·.type) = some 243 := by kernel_rfl
theorem c_5 : Tryz.prog.cellsOf 5 = 1 := by kernel_rfl
theorem c_9 : Tryz.prog.cellsOf 9 = 1 := by kernel_rfl
theorem c_31 : Tryz.prog.cellsOf 31 = 2 := by kernel_rfl
theorem c_33 : Tryz.prog.cellsOf 33 = 4 := by kernel_rfl
theorem c_243 : Tryz.prog.cellsOf 243 = 32 := by kernel_rfl
def allLaid : List (String × DataW Unit) := [("math/bits.deBruijn32tab", Rows.laid_math_bits_deBruijn32tab)]
theorem vr_of_laid {W : World} (h : laidMetH Tryz.prog allLaid W) : Vr W := by
 have h0 : laidMet Tryz.prog allLaid W := h; have e : Rows.laid_math_bits_deBruijn32tab = Lib.tabData (H := Unit) .u8 (Lib.deBruijn32tab.map fun n : Nat => (n : Int)) := by rfl
 have h1 : laidMet Tryz.prog (("math/bits.deBruijn32tab", Lib.tabData .u8 (Lib.deBruijn32tab.map fun n : Nat => (n : Int))) :: []) W := by
  rw [← e]; exact h0
 have ht := Lib.tabIs_of_head g_db t_db Tryz.underlying243 Tryz.underlying5 c_5 c_243 h1
 have hc : ∀ j, j < 32 → W.cell? ⟨1, j, none⟩ = some (.int .u8 (Lib.deBruijn32tab.getD j 0)) := by
  intro j hj; rw [ht.cell g_db j hj]
  congr 2
  rw [List.getD_eq_getElem?_getD, List.getD_eq_getElem?_getD, List.getElem?_map]; rw [List.getElem?_eq_getElem (show j < Lib.deBruijn32tab.length from hj)]
  rfl
 refine ⟨?_, hc⟩
 have := hc 0 (by decide)
 by_cases hlt : 1 < W.heap.size
 · exact hlt
 · exfalso
   simp [World.cell?, Array.getElem?_eq_none (Nat.le_of_not_lt hlt)] at this
noncomputable def laidWorld (os : Os) : World := World.laidAll Tryz.prog os allLaid
theorem laidWorld_met (os : Os) (args : Array Value) : laidMetH Tryz.prog allLaid ((laidWorld os).forCall (fun _ _ => 0) ⟨#[], args, []⟩).memory :=
 laidMetH_of_parts (laidMet_of_run' 8 (by kernel_rfl) (by kernel_rfl)) (by kernel_rfl)
section
variable {H : Type} {enc : TypeId × Value → H} {w : World} {base : Nat} {sp : Nat → Bool} {held : Bool}
def dS (s : ByteArray) : DataW H := .lit (.string s.data.toList)
def dR (s t : ByteArray) : DataW H := .agg [dS s, dS t]
def dE (a b c d : ByteArray) : DataW H := .agg [dR a b, dR c d]
theorem trod_s {fuel : Nat} {cs : List Value} {x : DataW H × List MemPlace} (h : DataW.trod enc Tryz.prog w base sp held fuel 9 cs = some x) : ∃ s : ByteArray, cs = [.string s] ∧ x = (dS s, []) ∧ s.size ≤ maxLen := DataW.trod_string Tryz.underlying9 h
theorem take2 {cs : List Value} {u v : Value} (h : cs.length = 2) (h0 : (cs.drop 0).take 1 = [u]) (h1 : (cs.drop 1).take 1 = [v]) : cs = [u, v] := by
 match cs, h with
 | [a, b], _ =>
   simp at h0 h1
   rw [h0, h1]
theorem trod_r {fuel : Nat} {cs : List Value} {x : DataW H × List MemPlace} (h : DataW.trod enc Tryz.prog w base sp held fuel 31 cs = some x) : ∃ s t : ByteArray, cs = [.string s, .string t] ∧ x = (dR s t, []) ∧ s.size ≤ maxLen ∧ t.size ≤ maxLen := by
 obtain ⟨y0, y1, k, rfl, hl, h0, h1⟩ := Go.ChangeShapes.trod_struct2 Tryz.underlying31 h; obtain ⟨m, e0, rfl, b0⟩ := trod_s h0; obtain ⟨n, e1, rfl, b1⟩ := trod_s h1; rw [c_31] at hl; rw [c_9] at e0 e1; exact ⟨m, n, take2 hl e0 e1, rfl, b0, b1⟩
theorem take4 {cs : List Value} {a b c d : Value} (h : cs.length = 4) (h0 : (cs.drop 0).take 2 = [a, b]) (h1 : (cs.drop 2).take 2 = [c, d]) : cs = [a, b, c, d] := by
 match cs, h with
 | [p, q, r, s], _ =>
   simp at h0 h1
   rw [h0.1, h0.2, h1.1, h1.2]
theorem trod_e {fuel : Nat} {cs : List Value} {x : DataW H × List MemPlace} (h : DataW.trod enc Tryz.prog w base sp held fuel 33 cs = some x) : ∃ a b c d : ByteArray, cs = [.string a, .string b, .string c, .string d] ∧ x = (dE a b c d, []) ∧ (a.size ≤ maxLen ∧ b.size ≤ maxLen) ∧ (c.size ≤ maxLen ∧ d.size ≤ maxLen) := by
 obtain ⟨y0, y1, k, rfl, hl, h0, h1⟩ := Go.ChangeShapes.trod_struct2 Tryz.underlying33 h; obtain ⟨a, b, e0, rfl, b0⟩ := trod_r h0; obtain ⟨c, d, e1, rfl, b1⟩ := trod_r h1; rw [c_33] at hl; rw [c_31] at e0 e1; exact ⟨a, b, c, d, take4 hl e0 e1, rfl, b0, b1⟩
theorem open_exact {r : Reach} {b0 : Nat} {v : Value} {d : DataW H} {ps : List MemPlace} (hval : Value.okWide Tryz.prog w r b0 33 v) (h : DataW.Trod enc Tryz.prog w base sp held 33 v d ps) : ∃ a b c e : ByteArray, v = .agg #[.string a, .string b, .string c, .string e] ∧ d = dE a b c e ∧ ps = [] ∧ (a.size ≤ maxLen ∧ b.size ≤ maxLen) ∧ (c.size ≤ maxLen ∧ e.size ≤ maxLen) := by
 obtain ⟨cs, rfl, hs⟩ := Go.WideShapes.okWide_struct Tryz.underlying33 hval; obtain ⟨fuel, hf⟩ := h; obtain ⟨a, b, c, e, he, ex, hb⟩ := trod_e hf; simp only [Prod.mk.injEq] at ex; exact ⟨a, b, c, e, congrArg Value.agg (Array.toList_inj.1 (show cs.toList = _ from he)), ex.1, ex.2, hb⟩
theorem trod_s_mk {s : ByteArray} (hs : s.size ≤ maxLen) : DataW.trod enc Tryz.prog w base sp held 1 9 [.string s] = some (dS s, []) := by
 simp [DataW.trod, Tryz.underlying9, hs, dS]
theorem trod_r_mk {s t : ByteArray} (hs : s.size ≤ maxLen) (ht : t.size ≤ maxLen) : DataW.trod enc Tryz.prog w base sp held 2 31 [.string s, .string t] = some (dR s t, []) := by
 have hl : ([.string s, .string t] : List Value).length = Tryz.prog.cellsOf 31 := c_31.symm
 have h0 : DataW.trod enc Tryz.prog w base sp held 1 9 ((([.string s, .string t] : List Value).drop 0).take (Tryz.prog.cellsOf 9)) = some (dS s, []) := by
  rw [c_9]; exact trod_s_mk hs
 have h1 : DataW.trod enc Tryz.prog w base sp held 1 9 ((([.string s, .string t] : List Value).drop 1).take (Tryz.prog.cellsOf 9)) = some (dS t, []) := by
  rw [c_9]; exact trod_s_mk ht
 exact Go.ChangeShapes.trod_struct2_mk Tryz.underlying31 hl h0 h1
theorem shut_exact {a b c d : ByteArray} (ha : a.size ≤ maxLen) (hb : b.size ≤ maxLen) (hc : c.size ≤ maxLen) (hd : d.size ≤ maxLen) : DataW.Trod enc Tryz.prog w base sp held 33 (.agg #[.string a, .string b, .string c, .string d]) (dE a b c d) [] := by
 have hl : ([.string a, .string b, .string c, .string d] : List Value).length = Tryz.prog.cellsOf 33 := c_33.symm
 have h0 : DataW.trod enc Tryz.prog w base sp held 2 31 ((([.string a, .string b, .string c, .string d] : List Value).drop 0).take (Tryz.prog.cellsOf 31)) = some (dR a b, []) := by
  rw [c_31]; exact trod_r_mk ha hb
 have h1 : DataW.trod enc Tryz.prog w base sp held 2 31 ((([.string a, .string b, .string c, .string d] : List Value).drop 2).take (Tryz.prog.cellsOf 31)) = some (dR c d, []) := by
  rw [c_31]; exact trod_r_mk hc hd
 exact ⟨3, Go.ChangeShapes.trod_struct2_mk Tryz.underlying33 hl h0 h1⟩
end
end Go.Proofs.YthjeejnggpjnjaaGreatDoor
