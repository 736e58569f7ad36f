/- A part: FJ. -/
import Derived.Test.YthjeejnggpjnjaaGreatDoorZC26
import Derived.Test.YthjeejnggpjnjaaGreatDoorZC28
import Derived.ReadAgain
import Derived.Deep.Slices
import Derived.RowKit3
import Derived.ChangeShapes
set_option linter.unusedSimpArgs false
set_option linter.unusedVariables false
set_option maxRecDepth 100000
set_option maxHeartbeats 16000000
set_option synthInstance.maxHeartbeats 2000000
set_option synthInstance.maxSize 100000
namespace Go.Proofs.YthjeejnggpjnjaaGreatDoor
open Go.RowKit
open Go.ChangeShapes Go.WideShapes Go.RowKit
set_option maxRecDepth 100000
theorem c_41 : Tryz.prog.cellsOf 41 = 4 := by kernel_rfl
section
variable {H : Type} {enc : TypeId × Value → H} {P : Program} {w : World} {base : Nat} {sp : Nat → Bool} {held : Bool}
theorem trodAll_four {t0 t1 t2 t3 : TypeId} {args : Array Value} {ds : List (DataW H)} {ps : List MemPlace} (h : DataW.TrodAll enc P w base sp held [t0, t1, t2, t3] args.toList ds ps) :
 ∃ v0 v1 v2 v3 d0 d1 d2 d3 p0 p1 p2 p3, args = #[v0, v1, v2, v3] ∧ ds = [d0, d1, d2, d3] ∧ ps = p0 ++ p1 ++ p2 ++ p3 ∧ DataW.Trod enc P w base sp held t0 v0 d0 p0 ∧ DataW.Trod enc P w base sp held t1 v1 d1 p1 ∧ DataW.Trod enc P w base sp held t2 v2 d2 p2 ∧ DataW.Trod enc P w base sp held t3 v3 d3 p3 := by
 obtain ⟨v, vs, d, ds', p, q, hargs, rfl, rfl, hd, hrest⟩ := trodAll_cons h; obtain ⟨v', vs', d', ds'', p', q', rfl, rfl, rfl, hd', hrest'⟩ := trodAll_cons hrest; obtain ⟨v'', vs'', d'', dsx, p'', q'', rfl, rfl, rfl, hd'', hrest''⟩ := trodAll_cons hrest'; obtain ⟨v3, vs3, d3, ds3, p3, q3, rfl, rfl, rfl, hd3, hrest3⟩ := trodAll_cons hrest''; obtain ⟨rfl, rfl, rfl⟩ := trodAll_nil hrest3; exact ⟨v, v', v'', v3, d, d', d'', d3, p, p', p'', p3, by cases args; simp_all, rfl, by simp, hd, hd', hd'', hd3⟩
theorem trodAll_mk4 {t t' t'' t3 : TypeId} {v v' v'' v3 : Value} {d d' d'' d3 : DataW H} {p p' p'' p3 : List MemPlace} (h : DataW.Trod enc P w base sp held t v d p) (h' : DataW.Trod enc P w base sp held t' v' d' p')
 (h'' : DataW.Trod enc P w base sp held t'' v'' d'' p'') (h3 : DataW.Trod enc P w base sp held t3 v3 d3 p3) : DataW.TrodAll enc P w base sp held [t, t', t'', t3] [v, v', v'', v3] [d, d', d'', d3] (p ++ (p' ++ (p'' ++ p3))) := ⟨p, p' ++ (p'' ++ p3), h, trodAll_mk3 h' h'' h3, rfl⟩
def dC (a b c d : Nat) : DataW H := .agg [dP a b, dP c d]
theorem trod_c {fuel : Nat} {cs : List Value} {x : DataW H × List MemPlace} (h : DataW.trod enc Tryz.prog w base sp held fuel 41 cs = some x) : ∃ a b c d : Nat, cs = [.int .u64 (a : Int), .int .u64 (b : Int), .int .u64 (c : Int), .int .u64 (d : Int)] ∧ x = (dC a b c d, []) ∧ (a < 18446744073709551616 ∧ b < 18446744073709551616) ∧ (c < 18446744073709551616 ∧ d < 18446744073709551616) := by
 obtain ⟨y0, y1, k, rfl, hl, h0, h1⟩ := Go.ChangeShapes.trod_struct2 Tryz.underlying41 h; obtain ⟨a, b, e0, rfl, b0⟩ := trod_p h0; obtain ⟨c, d, e1, rfl, b1⟩ := trod_p h1; rw [c_41] at hl; rw [c_25] at e0 e1; exact ⟨a, b, c, d, take4 hl e0 e1, rfl, b0, b1⟩
theorem open_corners {r : Reach} {b0 : Nat} {v : Value} {d : DataW H} {ps : List MemPlace} (hval : Value.okWide Tryz.prog w r b0 41 v) (h : DataW.Trod enc Tryz.prog w base sp held 41 v d ps) : ∃ a b c e : Nat, v = .agg #[.int .u64 (a : Int), .int .u64 (b : Int), .int .u64 (c : Int), .int .u64 (e : Int)] ∧ d = dC a b c e ∧ ps = [] ∧ (a < 18446744073709551616 ∧ b < 18446744073709551616) ∧ (c < 18446744073709551616 ∧ e < 18446744073709551616) := by
 obtain ⟨cs, rfl, hs⟩ := Go.WideShapes.okWide_struct Tryz.underlying41 hval; obtain ⟨fuel, hf⟩ := h; obtain ⟨a, b, c, e, he, ex, hb⟩ := trod_c hf; simp only [Prod.mk.injEq] at ex; exact ⟨a, b, c, e, congrArg Value.agg (Array.toList_inj.1 (show cs.toList = _ from he)), ex.1, ex.2, hb⟩
theorem trod_p_mk {m n : Nat} (hm : m < 18446744073709551616) (hn : n < 18446744073709551616) : DataW.trod enc Tryz.prog w base sp held 2 25 [.int .u64 (m : Int), .int .u64 (n : Int)] = some (dP m n, []) := by
 have hl : ([.int .u64 (m : Int), .int .u64 (n : Int)] : List Value).length = Tryz.prog.cellsOf 25 := c_25.symm
 have h0 : DataW.trod enc Tryz.prog w base sp held 1 23 ((([.int .u64 (m : Int), .int .u64 (n : Int)] : List Value).drop 0).take (Tryz.prog.cellsOf 23)) = some (dU m, []) := by
  rw [c_23]; exact Go.ChangeShapes.trod_int_mk 0 Tryz.underlying23 (wf_u hm)
 have h1 : DataW.trod enc Tryz.prog w base sp held 1 23 ((([.int .u64 (m : Int), .int .u64 (n : Int)] : List Value).drop 1).take (Tryz.prog.cellsOf 23)) = some (dU n, []) := by
  rw [c_23]; exact Go.ChangeShapes.trod_int_mk 0 Tryz.underlying23 (wf_u hn)
 exact Go.ChangeShapes.trod_struct2_mk Tryz.underlying25 hl h0 h1
theorem shut_corners {a b c d : Nat} (ha : a < 18446744073709551616) (hb : b < 18446744073709551616) (hc : c < 18446744073709551616) (hd : d < 18446744073709551616) : DataW.Trod enc Tryz.prog w base sp held 41 (.agg #[.int .u64 (a : Int), .int .u64 (b : Int), .int .u64 (c : Int), .int .u64 (d : Int)]) (dC a b c d) [] := by
 have hl : ([.int .u64 (a : Int), .int .u64 (b : Int), .int .u64 (c : Int), .int .u64 (d : Int)] : List Value).length = Tryz.prog.cellsOf 41 := c_41.symm
 have h0 : DataW.trod enc Tryz.prog w base sp held 2 25 ((([.int .u64 (a : Int), .int .u64 (b : Int), .int .u64 (c : Int), .int .u64 (d : Int)] : List Value).drop 0).take (Tryz.prog.cellsOf 25)) = some (dP a b, []) := by
  rw [c_25]; exact trod_p_mk ha hb
 have h1 : DataW.trod enc Tryz.prog w base sp held 2 25 ((([.int .u64 (a : Int), .int .u64 (b : Int), .int .u64 (c : Int), .int .u64 (d : Int)] : List Value).drop 2).take (Tryz.prog.cellsOf 25)) = some (dP c d, []) := by
  rw [c_25]; exact trod_p_mk hc hd
 exact ⟨3, Go.ChangeShapes.trod_struct2_mk Tryz.underlying41 hl h0 h1⟩
theorem open_u64 {r : Reach} {b0 : Nat} {v : Value} {d : DataW H} {ps : List MemPlace} (hval : Value.okWide Tryz.prog w r b0 23 v) (h : DataW.Trod enc Tryz.prog w base sp held 23 v d ps) : ∃ n : Nat, v = .int .u64 (n : Int) ∧ d = dU n ∧ ps = [] ∧ n < 18446744073709551616 := by
 obtain ⟨n, rfl, rfl, rfl, wf⟩ := Go.ChangeShapes.open_int Tryz.underlying23 hval h; have hb := Go.bounds_u64 wf; obtain ⟨m, rfl⟩ : ∃ m : Nat, n = (m : Int) := ⟨n.toNat, by omega⟩
 exact ⟨m, rfl, rfl, rfl, by omega⟩
theorem shut_u64 {n : Nat} (h : n < 18446744073709551616) : DataW.Trod enc Tryz.prog w base sp held 23 (.int .u64 (n : Int)) (dU n) [] := Go.ChangeShapes.shut_int Tryz.underlying23 (wf_u h)
end
end Go.Proofs.YthjeejnggpjnjaaGreatDoor
