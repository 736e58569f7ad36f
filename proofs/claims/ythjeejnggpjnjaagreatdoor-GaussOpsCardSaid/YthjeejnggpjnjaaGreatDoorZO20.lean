/- A part: BM, BN, BE, BD, BF, BK, BL, BG, BH, BI. -/
import Derived.Test.YthjeejnggpjnjaaGreatDoorZO19
set_option linter.unusedSimpArgs false
set_option linter.unusedVariables false
set_option maxRecDepth 100000
set_option maxHeartbeats 16000000
set_option synthInstance.maxHeartbeats 2000000
set_option synthInstance.maxSize 100000
namespace Go.Proofs.YthjeejnggpjnjaaGreatDoor
open Go.RowKit
class SzC (s : ByteArray) : Prop where
 out : s.size ≤ maxLen
section
variable {P : Program} {fn : Func} {R : Ending → World → Prop} {a : Act} {w : World} {p q u : Tmp} {ty : TypeId} {g k : Nat} {L M : List Value} {T T' : Nat} {d : TypeDesc}
theorem ret_cell2_tmp (h : fn.results = #[.cell p ty, .cell q ty, .tmp u]) (hd0 : a.defers = []) (hp : a.tmps.getD p undef = .pointer (some ⟨g, 0, none⟩)) (hq : a.tmps.getD q undef = .pointer (some ⟨k, 0, none⟩)) [hb : BkC w g L T] [hc : BkC w k M T'] (hu : P.underlying ty = some d) (hd : (match d with | .struct _ | .array _ _ => true | _ => false) = true) (hi : (P.info? ty).map (·.size) = some L.toArray.size) (hi' : (P.info? ty).map (·.size) = some M.toArray.size)
 (hR : R (.returned (.tuple #[.agg L.toArray, .agg M.toArray, a.tmps.getD u undef])) w) : bodyPost P fn R .ret a w :=
 bodyPost_ret (results_row2_tmp h _ _ g k T T' L.toArray M.toArray (0, 0) (0, 0) d hp hb.out.1 hq hc.out.1 hu hd hi hi') hd0 hR
end
def twoC (a b c d a' b' c' d' : ByteArray) : Int := if checkE a b c d ≠ 0 then checkE a b c d else checkE a' b' c' d'
theorem smC_rval {a b c d : ByteArray} (h : checkE a b c d = 0) : SmC (rval a b) 16384 ∧ SmC (rval c d) 16384 := by
 obtain ⟨h1, h2⟩ := check_okT h; exact ⟨⟨rval_small h1⟩, ⟨rval_small h2⟩⟩
theorem gaOneBad {a b c d : ByteArray} {E : Int} {w : World} [sa : SzC a] [sb : SzC b] [sc : SzC c] [sd : SzC d] [hv : VrC w] (h : checkE a b c d = E) (h0 : E ≠ 0) :
 Calls Tryz.prog 75 #[.agg #[.string a, .string b, .string c, .string d]] w fun e w' => e = .returned (.tuple #[.agg #[.pointer none, .pointer none], .int .i64 E]) ∧ Kp0 w w' := by
 refine (boneX a b c d w sa.out sb.out sc.out sd.out hv.out).mono ?_
 rintro e w' ⟨hb, v, rfl, h1, -⟩; rw [h] at h1; rw [h1 h0, h]; exact ⟨rfl, ⟨hb⟩⟩
theorem gaOneOk {a b c d : ByteArray} {w : World} [sa : SzC a] [sb : SzC b] [sc : SzC c] [sd : SzC d] [hv : VrC w] (h : checkE a b c d = 0) :
 Calls Tryz.prog 75 #[.agg #[.string a, .string b, .string c, .string d]] w fun e w' => ∃ i j, e = .returned (.tuple #[.agg #[.pointer (some ⟨i, 0, none⟩), .pointer (some ⟨j, 0, none⟩)], .int .i64 0]) ∧ RaC 88 w' i (rval a b) ∧ RaC 88 w' j (rval c d) ∧ Kp0 w w' := by
 refine (boneX a b c d w sa.out sb.out sc.out sd.out hv.out).mono ?_
 rintro e w' ⟨hb, v, rfl, -, h2⟩; obtain ⟨i, j, rfl, -, -, hx, hy⟩ := h2 h; rw [h]; exact ⟨i, j, rfl, ⟨hx⟩, ⟨hy⟩, ⟨hb⟩⟩
theorem gaTwoOkB {a b c d a' b' c' d' : ByteArray} {w : World} [sa : SzC a] [sb : SzC b] [sc : SzC c] [sd : SzC d] [sa' : SzC a'] [sb' : SzC b'] [sc' : SzC c'] [sd' : SzC d'] [hv : VrB w] (h1 : checkE a b c d = 0) (h2 : checkE a' b' c' d' = 0) :
 Calls Tryz.prog 83 #[.agg #[.string a, .string b, .string c, .string d], .agg #[.string a', .string b', .string c', .string d']] w fun e w' => ∃ i j i' j', e = .returned (.tuple #[.agg #[.pointer (some ⟨i, 0, none⟩), .pointer (some ⟨j, 0, none⟩)], .agg #[.pointer (some ⟨i', 0, none⟩), .pointer (some ⟨j', 0, none⟩)], .int .i64 0]) ∧ RaC 88 w' i (rval a b) ∧ RaC 88 w' j (rval c d) ∧ RaC 88 w' i' (rval a' b') ∧ RaC 88 w' j' (rval c' d') ∧ Kp0 w w' := by
 go_enter Tryz.func83, Tryz.ntmps83; go_wp2_with (first | (go_at_call 75; (with_reducible refine Calls.mono (gaOneOk (a := a) (b := b) (c := c) (d := d) h1) ?_); rintro e wc ⟨i, j, rfl, _, _, _⟩) | (go_at_call 75; (with_reducible refine Calls.mono (gaOneOk (a := a') (b := b') (c := c') (d := d') h2) ?_); rintro e wc ⟨i', j', rfl, _, _, _⟩))
 go_region_held3 (fun W => W.cell? ⟨w.heap.size + 1 + 1, 0, none⟩ = some (.pointer (some ⟨i, 0, none⟩)) ∧ W.cell? ⟨w.heap.size + 1 + 1, 1, none⟩ = some (.pointer (some ⟨j, 0, none⟩)) ∧ W.cell? ⟨w.heap.size + 1 + 1 + 1, 0, none⟩ = some (.pointer (some ⟨i', 0, none⟩)) ∧ W.cell? ⟨w.heap.size + 1 + 1 + 1, 1, none⟩ = some (.pointer (some ⟨j', 0, none⟩))) (refine ⟨?_, ?_, ?_, ?_⟩ <;> (first | exact Bk.cell BkC.out rfl | (simp [go_sem]; done))) (fail)
 all_goals (go_wp2_with fail)
 all_goals (refine ret_cell2_tmp rfl rfl rfl rfl (by rfl) (by rfl) (by rfl) (by rfl) ?_; exact ⟨_, _, _, _, rfl, inferInstance, inferInstance, inferInstance, inferInstance, ⟨Gr.out⟩⟩)
theorem gaTwoBad1 {a b c d a' b' c' d' : ByteArray} {w : World} [sa : SzC a] [sb : SzC b] [sc : SzC c] [sd : SzC d] [sa' : SzC a'] [sb' : SzC b'] [sc' : SzC c'] [sd' : SzC d'] [hv : VrB w] {E : Int} (h1 : checkE a b c d = E) (n1 : E ≠ 0) :
 Calls Tryz.prog 83 #[.agg #[.string a, .string b, .string c, .string d], .agg #[.string a', .string b', .string c', .string d']] w fun e w' => ∃ p q p' q', e = .returned (.tuple #[.agg #[.pointer p, .pointer q], .agg #[.pointer p', .pointer q'], .int .i64 E]) ∧ Kp0 w w' := by
 have b1 : (E == 0) = false := beq_eq_false_iff_ne.2 n1; go_enter Tryz.func83, Tryz.ntmps83; go_wp2_with (first | (go_at_call 75; (with_reducible refine Calls.mono (gaOneBad (a := a) (b := b) (c := c) (d := d) h1 n1) ?_); rintro e wc ⟨rfl, _⟩))
 go_region_held3 (fun W => W.cell? ⟨w.heap.size + 1 + 1, 0, none⟩ = some (.pointer none) ∧ W.cell? ⟨w.heap.size + 1 + 1, 1, none⟩ = some (.pointer none) ∧ W.cell? ⟨w.heap.size + 1 + 1 + 1, 0, none⟩ = some (.pointer none) ∧ W.cell? ⟨w.heap.size + 1 + 1 + 1, 1, none⟩ = some (.pointer none)) (refine ⟨?_, ?_, ?_, ?_⟩ <;> (first | exact Bk.cell BkC.out rfl | (simp [go_sem]; done))) (fail)
 all_goals (go_wp2_with fail)
 all_goals (refine ret_cell2_tmp rfl rfl rfl rfl (by rfl) (by rfl) (by rfl) (by rfl) ?_; exact ⟨_, _, _, _, rfl, ⟨Gr.out⟩⟩)
theorem gaTwoBad2 {a b c d a' b' c' d' : ByteArray} {w : World} [sa : SzC a] [sb : SzC b] [sc : SzC c] [sd : SzC d] [sa' : SzC a'] [sb' : SzC b'] [sc' : SzC c'] [sd' : SzC d'] [hv : VrB w] {E : Int} (h1 : checkE a b c d = 0) (h2 : checkE a' b' c' d' = E) (n2 : E ≠ 0) :
 Calls Tryz.prog 83 #[.agg #[.string a, .string b, .string c, .string d], .agg #[.string a', .string b', .string c', .string d']] w fun e w' => ∃ p q p' q', e = .returned (.tuple #[.agg #[.pointer p, .pointer q], .agg #[.pointer p', .pointer q'], .int .i64 E]) ∧ Kp0 w w' := by
 have b1 : (E == 0) = false := beq_eq_false_iff_ne.2 n2; go_enter Tryz.func83, Tryz.ntmps83; go_wp2_with (first | (go_at_call 75; (with_reducible refine Calls.mono (gaOneOk (a := a) (b := b) (c := c) (d := d) h1) ?_); rintro e wc ⟨i, j, rfl, _, _, _⟩) | (go_at_call 75; (with_reducible refine Calls.mono (gaOneBad (a := a') (b := b') (c := c') (d := d') h2 n2) ?_); rintro e wc ⟨rfl, _⟩))
 go_region_held3 (fun W => W.cell? ⟨w.heap.size + 1 + 1, 0, none⟩ = some (.pointer (some ⟨i, 0, none⟩)) ∧ W.cell? ⟨w.heap.size + 1 + 1, 1, none⟩ = some (.pointer (some ⟨j, 0, none⟩)) ∧ W.cell? ⟨w.heap.size + 1 + 1 + 1, 0, none⟩ = some (.pointer none) ∧ W.cell? ⟨w.heap.size + 1 + 1 + 1, 1, none⟩ = some (.pointer none)) (refine ⟨?_, ?_, ?_, ?_⟩ <;> (first | exact Bk.cell BkC.out rfl | (simp [go_sem]; done))) (fail)
 all_goals (go_wp2_with fail)
 all_goals (refine ret_cell2_tmp rfl rfl rfl rfl (by rfl) (by rfl) (by rfl) (by rfl) ?_; exact ⟨_, _, _, _, rfl, ⟨Gr.out⟩⟩)
theorem gaTwoBad {a b c d a' b' c' d' : ByteArray} {E : Int} {w : World} [sa : SzC a] [sb : SzC b] [sc : SzC c] [sd : SzC d] [sa' : SzC a'] [sb' : SzC b'] [sc' : SzC c'] [sd' : SzC d'] [hv : VrC w] (h : twoC a b c d a' b' c' d' = E) (h0 : E ≠ 0) :
 Calls Tryz.prog 83 #[.agg #[.string a, .string b, .string c, .string d], .agg #[.string a', .string b', .string c', .string d']] w fun e w' => ∃ p q p' q', e = .returned (.tuple #[.agg #[.pointer p, .pointer q], .agg #[.pointer p', .pointer q'], .int .i64 E]) ∧ Kp0 w w' := by
 unfold twoC at h; by_cases h1 : checkE a b c d = 0
 · rw [if_neg (by omega)] at h
   exact gaTwoBad2 (hv := ⟨hv.out⟩) h1 h h0
 · rw [if_pos h1] at h; exact gaTwoBad1 (hv := ⟨hv.out⟩) h h0
theorem gaTwoOk {a b c d a' b' c' d' : ByteArray} {w : World} [sa : SzC a] [sb : SzC b] [sc : SzC c] [sd : SzC d] [sa' : SzC a'] [sb' : SzC b'] [sc' : SzC c'] [sd' : SzC d'] [hv : VrC w] (h1 : checkE a b c d = 0) (h2 : checkE a' b' c' d' = 0) :
 Calls Tryz.prog 83 #[.agg #[.string a, .string b, .string c, .string d], .agg #[.string a', .string b', .string c', .string d']] w fun e w' => ∃ i j i' j', e = .returned (.tuple #[.agg #[.pointer (some ⟨i, 0, none⟩), .pointer (some ⟨j, 0, none⟩)], .agg #[.pointer (some ⟨i', 0, none⟩), .pointer (some ⟨j', 0, none⟩)], .int .i64 0]) ∧ RaC 88 w' i (rval a b) ∧ RaC 88 w' j (rval c d) ∧ RaC 88 w' i' (rval a' b') ∧ RaC 88 w' j' (rval c' d') ∧ Kp0 w w' := gaTwoOkB (hv := ⟨hv.out⟩) h1 h2
theorem twoC_zero {a b c d a' b' c' d' : ByteArray} (h : twoC a b c d a' b' c' d' = 0) : checkE a b c d = 0 ∧ checkE a' b' c' d' = 0 := by
 unfold twoC at h; by_cases h1 : checkE a b c d = 0
 · rw [if_neg (by omega)] at h
   exact ⟨h1, h⟩
 · rw [if_pos h1] at h; exact absurd h h1
theorem reCheckC {a b c d : ByteArray} {w : World} [sa : SzC a] [sb : SzC b] [sc : SzC c] [sd : SzC d] :
 Calls Tryz.prog 51 #[.agg #[.string a, .string b, .string c, .string d]] w fun e w' => e = .returned (.int .i64 (checkE a b c d)) ∧ Kp0 w w' := by
 refine (eCheck a b c d w sa.out sb.out sc.out sd.out).mono ?_
 rintro e w' ⟨rfl, hb⟩; exact ⟨rfl, ⟨hb⟩⟩
theorem reRat {n d : ByteArray} {w : World} (hok : okT n d) :
 Calls Tryz.prog 103 #[.agg #[.string n, .string d]] w fun e w' => ∃ i, e = .returned (.pointer (some ⟨i, 0, none⟩)) ∧ RaC 125 w' i (rval n d) ∧ Kp0 w w' ∧ UpW w i := by
 refine (efraction n d w hok).mono ?_
 rintro e w' ⟨g, rfl, hu, hx, hb⟩; exact ⟨g, rfl, ⟨hx⟩, ⟨hb⟩, ⟨hu⟩⟩
theorem reNumber {a b c d : ByteArray} {w : World} (h1 : okT a b) (h2 : okT c d) :
 Calls Tryz.prog 78 #[.agg #[.string a, .string b, .string c, .string d]] w fun e w' => ∃ i j, e = .returned (.agg #[.pointer (some ⟨i, 0, none⟩), .pointer (some ⟨j, 0, none⟩)]) ∧ RaC 125 w' i (rval a b) ∧ RaC 125 w' j (rval c d) ∧ Kp0 w w' ∧ UpW w i ∧ UpW w j ∧ NeN i j := by
 go_enter Tryz.func78, Tryz.ntmps78; go_wp2_with fail
 go_region_held3 (fun W => W.cell? ⟨w.heap.size, 0, none⟩ = some (.string a) ∧ W.cell? ⟨w.heap.size, 1, none⟩ = some (.string b) ∧ W.cell? ⟨w.heap.size, 2, none⟩ = some (.string c) ∧ W.cell? ⟨w.heap.size, 3, none⟩ = some (.string d)) (refine ⟨?_, ?_, ?_, ?_⟩ <;> (first | exact Bk.cell BkC.out rfl | (simp [go_sem]; done))) (first | (go_at_call 103; (with_reducible refine Calls.mono (reRat h1) ?_); rintro e wc ⟨_, rfl, _, _, _⟩) | (go_at_call 103; (with_reducible refine Calls.mono (reRat h2) ?_); rintro e wc ⟨_, rfl, _, _, _⟩))
 all_goals (go_wp2_with fail; refine ret_cell rfl rfl rfl (by rfl) (by rfl) (by rfl) ?_; exact ⟨_, _, rfl, inferInstance, inferInstance, ⟨Gr.out⟩, ⟨Up.out⟩, ⟨Up.out⟩, inferInstance⟩)
theorem reTwoB {a b c d a' b' c' d' : ByteArray} {E E' : Int} {w : World} [sa : SzC a] [sb : SzC b] [sc : SzC c] [sd : SzC d] [sa' : SzC a'] [sb' : SzC b'] [sc' : SzC c'] [sd' : SzC d'] (h1 : checkE a b c d = E) (h2 : checkE a' b' c' d' = E') :
 Calls Tryz.prog 93 #[.agg #[.string a, .string b, .string c, .string d], .agg #[.string a', .string b', .string c', .string d']] w fun e w' => e = .returned (.int .i64 (twoC a b c d a' b' c' d')) ∧ Kp0 w w' := by
 have T1 := hid (fun v : World => h1 ▸ reCheckC (a := a) (b := b) (c := c) (d := d) (w := v))
 have T2 := hid (fun v : World => h2 ▸ reCheckC (a := a') (b := b') (c := c') (d := d') (w := v))
 have HT : Hid (twoC a b c d a' b' c' d' = if E ≠ 0 then E else E') := hid (by unfold twoC; rw [h1, h2])
 clear h1 h2; by_cases n1 : E = 0
 · have b1 : (E != 0) = false := by rw [n1]; rfl
   have HE := hid n1; clear n1; go_enter Tryz.func93, Tryz.ntmps93; go_wp2_with (first | (go_at_call 51; (with_reducible refine (T1.out _).mono ?_); rintro e w1 ⟨rfl, _⟩) | (go_at_call 51; (with_reducible refine (T2.out _).mono ?_); rintro e w2 ⟨rfl, _⟩))
   go_ret
   exact ⟨by rw [HT.out, if_neg (fun h => h HE.out)]; rfl, ⟨Gr.out⟩⟩
 · have b1 : (E != 0) = true := bne_iff_ne.2 n1; have HE := hid n1; clear n1; go_enter Tryz.func93, Tryz.ntmps93; go_wp2_with (first | (go_at_call 51; (with_reducible refine (T1.out _).mono ?_); rintro e w1 ⟨rfl, _⟩) | (go_at_call 51; (with_reducible refine (T2.out _).mono ?_); rintro e w2 ⟨rfl, _⟩))
   go_ret
   exact ⟨by rw [HT.out, if_pos HE.out]; rfl, ⟨Gr.out⟩⟩
theorem reTwoC {a b c d a' b' c' d' : ByteArray} {w : World} [sa : SzC a] [sb : SzC b] [sc : SzC c] [sd : SzC d] [sa' : SzC a'] [sb' : SzC b'] [sc' : SzC c'] [sd' : SzC d'] :
 Calls Tryz.prog 93 #[.agg #[.string a, .string b, .string c, .string d], .agg #[.string a', .string b', .string c', .string d']] w fun e w' => e = .returned (.int .i64 (twoC a b c d a' b' c' d')) ∧ Kp0 w w' := reTwoB rfl rfl
theorem gaBothA {w : World} {g k g' k' : Nat} {x y x' y' : _root_.Rat} [hx : RaC 88 w g x] [hy : RaC 88 w k y] [hx' : RaC 88 w g' x'] [hy' : RaC 88 w k' y'] [sx : SmC x 4294967296] [sy : SmC y 4294967296] [sx' : SmC x' 4294967296] [sy' : SmC y' 4294967296] [hvr : VrB w] :
 Calls Tryz.prog 109 #[.func (.func 108) #[] #[], .agg #[.pointer (some ⟨g, 0, none⟩), .pointer (some ⟨k, 0, none⟩)], .agg #[.pointer (some ⟨g', 0, none⟩), .pointer (some ⟨k', 0, none⟩)]] w fun e w' => ∃ i j, e = .returned (.agg #[.pointer (some ⟨i, 0, none⟩), .pointer (some ⟨j, 0, none⟩)]) ∧ RaC 88 w' i (x + x') ∧ RaC 88 w' j (y + y') ∧ Kp0 w w' := by
 go_enter Tryz.func109, Tryz.ntmps109; go_wp2_with fail
 go_region_held3 (fun W => W.cell? ⟨w.heap.size, 0, none⟩ = some (.pointer (some ⟨g, 0, none⟩)) ∧ W.cell? ⟨w.heap.size, 1, none⟩ = some (.pointer (some ⟨k, 0, none⟩)) ∧ W.cell? ⟨w.heap.size + 1, 0, none⟩ = some (.pointer (some ⟨g', 0, none⟩)) ∧ W.cell? ⟨w.heap.size + 1, 1, none⟩ = some (.pointer (some ⟨k', 0, none⟩))) (refine ⟨?_, ?_, ?_, ?_⟩ <;> (first | exact Bk.cell BkC.out rfl | (simp [go_sem]; done))) (first | (go_at_call 106; (with_reducible refine Calls.mono (brMulC (by decide) (by decide)) ?_); rintro e wc ⟨rfl, _, _⟩) | (go_at_call 107; (with_reducible refine Calls.mono (brSubC (by decide) (by decide)) ?_); rintro e wc ⟨rfl, _, _⟩) | (go_at_call 108; (with_reducible refine Calls.mono (brAddC (by decide) (by decide)) ?_); rintro e wc ⟨rfl, _, _⟩))
 all_goals (go_wp2_with fail; refine ret_cell rfl rfl rfl (by rfl) (by rfl) (by rfl) ?_; exact ⟨_, _, rfl, inferInstance, inferInstance, ⟨Gr.out⟩⟩)
theorem gaBothAC {w : World} {g k g' k' : Nat} {x y x' y' : _root_.Rat} {L M L' M' : Nat} [hx : RaC 88 w g x] [hy : RaC 88 w k y] [hx' : RaC 88 w g' x'] [hy' : RaC 88 w k' y'] [sx : SmC x L] [sy : SmC y M] [sx' : SmC x' L'] [sy' : SmC y' M'] [hvr : VrC w] (h1 : L ≤ 4294967296) (h2 : M ≤ 4294967296) (h3 : L' ≤ 4294967296) (h4 : M' ≤ 4294967296) :
 Calls Tryz.prog 109 #[.func (.func 108) #[] #[], .agg #[.pointer (some ⟨g, 0, none⟩), .pointer (some ⟨k, 0, none⟩)], .agg #[.pointer (some ⟨g', 0, none⟩), .pointer (some ⟨k', 0, none⟩)]] w fun e w' => ∃ i j, e = .returned (.agg #[.pointer (some ⟨i, 0, none⟩), .pointer (some ⟨j, 0, none⟩)]) ∧ RaC 88 w' i (x + x') ∧ RaC 88 w' j (y + y') ∧ Kp0 w w' := gaBothA (sx := ⟨sx.out.mono h1⟩) (sy := ⟨sy.out.mono h2⟩) (sx' := ⟨sx'.out.mono h3⟩) (sy' := ⟨sy'.out.mono h4⟩) (hvr := ⟨hvr.out⟩)
theorem gaBothS {w : World} {g k g' k' : Nat} {x y x' y' : _root_.Rat} [hx : RaC 88 w g x] [hy : RaC 88 w k y] [hx' : RaC 88 w g' x'] [hy' : RaC 88 w k' y'] [sx : SmC x 4294967296] [sy : SmC y 4294967296] [sx' : SmC x' 4294967296] [sy' : SmC y' 4294967296] [hvr : VrB w] :
 Calls Tryz.prog 109 #[.func (.func 107) #[] #[], .agg #[.pointer (some ⟨g, 0, none⟩), .pointer (some ⟨k, 0, none⟩)], .agg #[.pointer (some ⟨g', 0, none⟩), .pointer (some ⟨k', 0, none⟩)]] w fun e w' => ∃ i j, e = .returned (.agg #[.pointer (some ⟨i, 0, none⟩), .pointer (some ⟨j, 0, none⟩)]) ∧ RaC 88 w' i (x - x') ∧ RaC 88 w' j (y - y') ∧ Kp0 w w' := by
 go_enter Tryz.func109, Tryz.ntmps109; go_wp2_with fail
 go_region_held3 (fun W => W.cell? ⟨w.heap.size, 0, none⟩ = some (.pointer (some ⟨g, 0, none⟩)) ∧ W.cell? ⟨w.heap.size, 1, none⟩ = some (.pointer (some ⟨k, 0, none⟩)) ∧ W.cell? ⟨w.heap.size + 1, 0, none⟩ = some (.pointer (some ⟨g', 0, none⟩)) ∧ W.cell? ⟨w.heap.size + 1, 1, none⟩ = some (.pointer (some ⟨k', 0, none⟩))) (refine ⟨?_, ?_, ?_, ?_⟩ <;> (first | exact Bk.cell BkC.out rfl | (simp [go_sem]; done))) (first | (go_at_call 106; (with_reducible refine Calls.mono (brMulC (by decide) (by decide)) ?_); rintro e wc ⟨rfl, _, _⟩) | (go_at_call 107; (with_reducible refine Calls.mono (brSubC (by decide) (by decide)) ?_); rintro e wc ⟨rfl, _, _⟩) | (go_at_call 108; (with_reducible refine Calls.mono (brAddC (by decide) (by decide)) ?_); rintro e wc ⟨rfl, _, _⟩))
 all_goals (go_wp2_with fail; refine ret_cell rfl rfl rfl (by rfl) (by rfl) (by rfl) ?_; exact ⟨_, _, rfl, inferInstance, inferInstance, ⟨Gr.out⟩⟩)
theorem gaBothSC {w : World} {g k g' k' : Nat} {x y x' y' : _root_.Rat} {L M L' M' : Nat} [hx : RaC 88 w g x] [hy : RaC 88 w k y] [hx' : RaC 88 w g' x'] [hy' : RaC 88 w k' y'] [sx : SmC x L] [sy : SmC y M] [sx' : SmC x' L'] [sy' : SmC y' M'] [hvr : VrC w] (h1 : L ≤ 4294967296) (h2 : M ≤ 4294967296) (h3 : L' ≤ 4294967296) (h4 : M' ≤ 4294967296) :
 Calls Tryz.prog 109 #[.func (.func 107) #[] #[], .agg #[.pointer (some ⟨g, 0, none⟩), .pointer (some ⟨k, 0, none⟩)], .agg #[.pointer (some ⟨g', 0, none⟩), .pointer (some ⟨k', 0, none⟩)]] w fun e w' => ∃ i j, e = .returned (.agg #[.pointer (some ⟨i, 0, none⟩), .pointer (some ⟨j, 0, none⟩)]) ∧ RaC 88 w' i (x - x') ∧ RaC 88 w' j (y - y') ∧ Kp0 w w' := gaBothS (sx := ⟨sx.out.mono h1⟩) (sy := ⟨sy.out.mono h2⟩) (sx' := ⟨sx'.out.mono h3⟩) (sy' := ⟨sy'.out.mono h4⟩) (hvr := ⟨hvr.out⟩)
theorem gaAdd {w : World} {g k g' k' : Nat} {x y x' y' : _root_.Rat} [hx : RaC 88 w g x] [hy : RaC 88 w k y] [hx' : RaC 88 w g' x'] [hy' : RaC 88 w k' y'] [sx : SmC x 4294967296] [sy : SmC y 4294967296] [sx' : SmC x' 4294967296] [sy' : SmC y' 4294967296] [hvr : VrB w] :
 Calls Tryz.prog 56 #[.agg #[.pointer (some ⟨g, 0, none⟩), .pointer (some ⟨k, 0, none⟩)], .agg #[.pointer (some ⟨g', 0, none⟩), .pointer (some ⟨k', 0, none⟩)]] w fun e w' => ∃ i j, e = .returned (.agg #[.pointer (some ⟨i, 0, none⟩), .pointer (some ⟨j, 0, none⟩)]) ∧ RaC 88 w' i (x + x') ∧ RaC 88 w' j (y + y') ∧ Kp0 w w' := by
 go_enter Tryz.func56, Tryz.ntmps56; go_wp2_with (first | (go_at_call 109; (with_reducible refine Calls.mono (gaBothAC (by decide) (by decide) (by decide) (by decide)) ?_); rintro e wc ⟨_, _, rfl, _, _, _⟩))
 refine ret_cell rfl rfl rfl (by rfl) (by rfl) (by rfl) ?_
 exact ⟨_, _, rfl, inferInstance, inferInstance, ⟨Gr.out⟩⟩
theorem gaAddC {w : World} {g k g' k' : Nat} {x y x' y' : _root_.Rat} {L M L' M' : Nat} [hx : RaC 88 w g x] [hy : RaC 88 w k y] [hx' : RaC 88 w g' x'] [hy' : RaC 88 w k' y'] [sx : SmC x L] [sy : SmC y M] [sx' : SmC x' L'] [sy' : SmC y' M'] [hvr : VrC w] (h1 : L ≤ 4294967296) (h2 : M ≤ 4294967296) (h3 : L' ≤ 4294967296) (h4 : M' ≤ 4294967296) :
 Calls Tryz.prog 56 #[.agg #[.pointer (some ⟨g, 0, none⟩), .pointer (some ⟨k, 0, none⟩)], .agg #[.pointer (some ⟨g', 0, none⟩), .pointer (some ⟨k', 0, none⟩)]] w fun e w' => ∃ i j, e = .returned (.agg #[.pointer (some ⟨i, 0, none⟩), .pointer (some ⟨j, 0, none⟩)]) ∧ RaC 88 w' i (x + x') ∧ RaC 88 w' j (y + y') ∧ Kp0 w w' := gaAdd (sx := ⟨sx.out.mono h1⟩) (sy := ⟨sy.out.mono h2⟩) (sx' := ⟨sx'.out.mono h3⟩) (sy' := ⟨sy'.out.mono h4⟩) (hvr := ⟨hvr.out⟩)
theorem gaSub {w : World} {g k g' k' : Nat} {x y x' y' : _root_.Rat} [hx : RaC 88 w g x] [hy : RaC 88 w k y] [hx' : RaC 88 w g' x'] [hy' : RaC 88 w k' y'] [sx : SmC x 4294967296] [sy : SmC y 4294967296] [sx' : SmC x' 4294967296] [sy' : SmC y' 4294967296] [hvr : VrB w] :
 Calls Tryz.prog 65 #[.agg #[.pointer (some ⟨g, 0, none⟩), .pointer (some ⟨k, 0, none⟩)], .agg #[.pointer (some ⟨g', 0, none⟩), .pointer (some ⟨k', 0, none⟩)]] w fun e w' => ∃ i j, e = .returned (.agg #[.pointer (some ⟨i, 0, none⟩), .pointer (some ⟨j, 0, none⟩)]) ∧ RaC 88 w' i (x - x') ∧ RaC 88 w' j (y - y') ∧ Kp0 w w' := by
 go_enter Tryz.func65, Tryz.ntmps65; go_wp2_with (first | (go_at_call 109; (with_reducible refine Calls.mono (gaBothSC (by decide) (by decide) (by decide) (by decide)) ?_); rintro e wc ⟨_, _, rfl, _, _, _⟩))
 refine ret_cell rfl rfl rfl (by rfl) (by rfl) (by rfl) ?_
 exact ⟨_, _, rfl, inferInstance, inferInstance, ⟨Gr.out⟩⟩
theorem gaSubC {w : World} {g k g' k' : Nat} {x y x' y' : _root_.Rat} {L M L' M' : Nat} [hx : RaC 88 w g x] [hy : RaC 88 w k y] [hx' : RaC 88 w g' x'] [hy' : RaC 88 w k' y'] [sx : SmC x L] [sy : SmC y M] [sx' : SmC x' L'] [sy' : SmC y' M'] [hvr : VrC w] (h1 : L ≤ 4294967296) (h2 : M ≤ 4294967296) (h3 : L' ≤ 4294967296) (h4 : M' ≤ 4294967296) :
 Calls Tryz.prog 65 #[.agg #[.pointer (some ⟨g, 0, none⟩), .pointer (some ⟨k, 0, none⟩)], .agg #[.pointer (some ⟨g', 0, none⟩), .pointer (some ⟨k', 0, none⟩)]] w fun e w' => ∃ i j, e = .returned (.agg #[.pointer (some ⟨i, 0, none⟩), .pointer (some ⟨j, 0, none⟩)]) ∧ RaC 88 w' i (x - x') ∧ RaC 88 w' j (y - y') ∧ Kp0 w w' := gaSub (sx := ⟨sx.out.mono h1⟩) (sy := ⟨sy.out.mono h2⟩) (sx' := ⟨sx'.out.mono h3⟩) (sy' := ⟨sy'.out.mono h4⟩) (hvr := ⟨hvr.out⟩)
theorem gaMul {w : World} {g k g' k' : Nat} {x y x' y' : _root_.Rat} [hx : RaC 88 w g x] [hy : RaC 88 w k y] [hx' : RaC 88 w g' x'] [hy' : RaC 88 w k' y'] [sx : SmC x 4294967296] [sy : SmC y 4294967296] [sx' : SmC x' 4294967296] [sy' : SmC y' 4294967296] [hvr : VrB w] :
 Calls Tryz.prog 55 #[.agg #[.pointer (some ⟨g, 0, none⟩), .pointer (some ⟨k, 0, none⟩)], .agg #[.pointer (some ⟨g', 0, none⟩), .pointer (some ⟨k', 0, none⟩)]] w fun e w' => ∃ i j, e = .returned (.agg #[.pointer (some ⟨i, 0, none⟩), .pointer (some ⟨j, 0, none⟩)]) ∧ RaC 88 w' i (x * x' - y * y') ∧ RaC 88 w' j (x * y' + y * x') ∧ Kp0 w w' := by
 go_enter Tryz.func55, Tryz.ntmps55; go_wp2_with (first | (go_at_call 106; (with_reducible refine Calls.mono (brMulC (by decide) (by decide)) ?_); rintro e wc ⟨rfl, _, _⟩) | (go_at_call 107; (with_reducible refine Calls.mono (brSubC (by decide) (by decide)) ?_); rintro e wc ⟨rfl, _, _⟩) | (go_at_call 108; (with_reducible refine Calls.mono (brAddC (by decide) (by decide)) ?_); rintro e wc ⟨rfl, _, _⟩))
 refine ret_cell rfl rfl rfl (by rfl) (by rfl) (by rfl) ?_
 exact ⟨_, _, rfl, inferInstance, inferInstance, ⟨Gr.out⟩⟩
theorem gaMulC {w : World} {g k g' k' : Nat} {x y x' y' : _root_.Rat} {L M L' M' : Nat} [hx : RaC 88 w g x] [hy : RaC 88 w k y] [hx' : RaC 88 w g' x'] [hy' : RaC 88 w k' y'] [sx : SmC x L] [sy : SmC y M] [sx' : SmC x' L'] [sy' : SmC y' M'] [hvr : VrC w] (h1 : L ≤ 4294967296) (h2 : M ≤ 4294967296) (h3 : L' ≤ 4294967296) (h4 : M' ≤ 4294967296) :
 Calls Tryz.prog 55 #[.agg #[.pointer (some ⟨g, 0, none⟩), .pointer (some ⟨k, 0, none⟩)], .agg #[.pointer (some ⟨g', 0, none⟩), .pointer (some ⟨k', 0, none⟩)]] w fun e w' => ∃ i j, e = .returned (.agg #[.pointer (some ⟨i, 0, none⟩), .pointer (some ⟨j, 0, none⟩)]) ∧ RaC 88 w' i (x * x' - y * y') ∧ RaC 88 w' j (x * y' + y * x') ∧ Kp0 w w' := gaMul (sx := ⟨sx.out.mono h1⟩) (sy := ⟨sy.out.mono h2⟩) (sx' := ⟨sx'.out.mono h3⟩) (sy' := ⟨sy'.out.mono h4⟩) (hvr := ⟨hvr.out⟩)
@[go_sem] theorem run_field82_0 (i j : Nat) (w : World) : (Instr.field 82 (.agg #[.pointer (some ⟨i, 0, none⟩), .pointer (some ⟨j, 0, none⟩)]) 0).run Tryz.prog w = .ok (.pointer (some ⟨i, 0, none⟩)) w := by kernel_rfl
@[go_sem] theorem run_field82_1 (i j : Nat) (w : World) : (Instr.field 82 (.agg #[.pointer (some ⟨i, 0, none⟩), .pointer (some ⟨j, 0, none⟩)]) 1).run Tryz.prog w = .ok (.pointer (some ⟨j, 0, none⟩)) w := by kernel_rfl
theorem gaConj {w : World} {g k : Nat} {x y : _root_.Rat} [hx : RaC 88 w g x] [hy : RaC 88 w k y] [sx : SmC x 4294967296] [sy : SmC y 4294967296] [hvr : VrB w] :
 Calls Tryz.prog 88 #[.agg #[.pointer (some ⟨g, 0, none⟩), .pointer (some ⟨k, 0, none⟩)]] w fun e w' => ∃ i j, e = .returned (.agg #[.pointer (some ⟨i, 0, none⟩), .pointer (some ⟨j, 0, none⟩)]) ∧ RaC 88 w' i (x) ∧ RaC 88 w' j (-y) ∧ Kp0 w w' := by
 go_enter Tryz.func88, Tryz.ntmps88; go_wp2_with fail
 go_region_held3 (fun W => W.cell? ⟨w.heap.size, 0, none⟩ = some (.pointer (some ⟨g, 0, none⟩)) ∧ W.cell? ⟨w.heap.size, 1, none⟩ = some (.pointer (some ⟨k, 0, none⟩))) (refine ⟨?_, ?_⟩ <;> (first | exact Bk.cell BkC.out rfl | (simp [go_sem]; done))) (first | (go_at_call 134; (with_reducible refine Calls.mono (brNegC (by decide)) ?_); rintro e wc ⟨rfl, _, _⟩))
 all_goals (go_wp2_with fail; refine ret_cell rfl rfl rfl (by rfl) (by rfl) (by rfl) ?_; exact ⟨_, _, rfl, inferInstance, inferInstance, ⟨Gr.out⟩⟩)
theorem gaConjC {w : World} {g k : Nat} {x y : _root_.Rat} {L M : Nat} [hx : RaC 88 w g x] [hy : RaC 88 w k y] [sx : SmC x L] [sy : SmC y M] [hvr : VrC w] (h1 : L ≤ 4294967296) (h2 : M ≤ 4294967296) :
 Calls Tryz.prog 88 #[.agg #[.pointer (some ⟨g, 0, none⟩), .pointer (some ⟨k, 0, none⟩)]] w fun e w' => ∃ i j, e = .returned (.agg #[.pointer (some ⟨i, 0, none⟩), .pointer (some ⟨j, 0, none⟩)]) ∧ RaC 88 w' i (x) ∧ RaC 88 w' j (-y) ∧ Kp0 w w' := gaConj (sx := ⟨sx.out.mono h1⟩) (sy := ⟨sy.out.mono h2⟩) (hvr := ⟨hvr.out⟩)
theorem gaNorm {w : World} {g k : Nat} {x y : _root_.Rat} [hx : RaC 88 w g x] [hy : RaC 88 w k y] [sx : SmC x 4294967296] [sy : SmC y 4294967296] [hvr : VrB w] :
 Calls Tryz.prog 84 #[.agg #[.pointer (some ⟨g, 0, none⟩), .pointer (some ⟨k, 0, none⟩)]] w fun e w' => ∃ i, e = .returned (.pointer (some ⟨i, 0, none⟩)) ∧ RaC 88 w' i (x * x - y * -y) ∧ Kp0 w w' := by
 go_enter Tryz.func84, Tryz.ntmps84; go_wp2_with fail
 go_region_held3 (fun W => W.cell? ⟨w.heap.size, 0, none⟩ = some (.pointer (some ⟨g, 0, none⟩)) ∧ W.cell? ⟨w.heap.size, 1, none⟩ = some (.pointer (some ⟨k, 0, none⟩))) (refine ⟨?_, ?_⟩ <;> (first | exact Bk.cell BkC.out rfl | (simp [go_sem]; done))) (first | (go_at_call 88; (with_reducible refine Calls.mono (gaConjC (by decide) (by decide)) ?_); rintro e wc ⟨_, _, rfl, _, _, _⟩) | (go_at_call 55; (with_reducible refine Calls.mono (gaMulC (by decide) (by decide) (by decide) (by decide)) ?_); rintro e wc ⟨_, _, rfl, _, _, _⟩))
 all_goals (go_wp2_with fail; go_ret; exact ⟨_, rfl, inferInstance, ⟨Gr.out⟩⟩)
theorem gaNormC {w : World} {g k : Nat} {x y : _root_.Rat} {L M : Nat} [hx : RaC 88 w g x] [hy : RaC 88 w k y] [sx : SmC x L] [sy : SmC y M] [hvr : VrC w] (h1 : L ≤ 4294967296) (h2 : M ≤ 4294967296) :
 Calls Tryz.prog 84 #[.agg #[.pointer (some ⟨g, 0, none⟩), .pointer (some ⟨k, 0, none⟩)]] w fun e w' => ∃ i, e = .returned (.pointer (some ⟨i, 0, none⟩)) ∧ RaC 88 w' i (x * x - y * -y) ∧ Kp0 w w' := gaNorm (sx := ⟨sx.out.mono h1⟩) (sy := ⟨sy.out.mono h2⟩) (hvr := ⟨hvr.out⟩)
theorem gaExact {w : World} {a b : Nat} [hvr : VrB w] (ha : a < 18446744073709551616) (hb : b < 18446744073709551616) (fa : fexp a ≠ 2047) (fb : fexp b ≠ 2047) :
 Calls Tryz.prog 54 #[.complex .f64 a b] w fun e w' => ∃ i j, e = .returned (.agg #[.pointer (some ⟨i, 0, none⟩), .pointer (some ⟨j, 0, none⟩)]) ∧ RaC 88 w' i (frat a) ∧ RaC 88 w' j (frat b) ∧ Kp0 w w' := by
 go_enter Tryz.func54, Tryz.ntmps54; go_wp2_with (first | (go_at_call 105; (with_reducible refine Calls.mono (bFloatC ha fa) ?_); rintro e wc ⟨rfl, _, _⟩) | (go_at_call 105; (with_reducible refine Calls.mono (bFloatC hb fb) ?_); rintro e wc ⟨rfl, _, _⟩))
 refine ret_cell rfl rfl rfl (by rfl) (by rfl) (by rfl) ?_
 exact ⟨_, _, rfl, inferInstance, inferInstance, ⟨Gr.out⟩⟩
@[go_sem] theorem run_index153_0 (a b c d : ByteArray) (w : World) : (Instr.index 153 (.agg #[.string a, .string b, .string c, .string d]) (.int .i64 0)).run Tryz.prog w = .ok (.string a) w := by kernel_rfl
@[go_sem] theorem run_index153_1 (a b c d : ByteArray) (w : World) : (Instr.index 153 (.agg #[.string a, .string b, .string c, .string d]) (.int .i64 1)).run Tryz.prog w = .ok (.string b) w := by kernel_rfl
@[go_sem] theorem run_index153_2 (a b c d : ByteArray) (w : World) : (Instr.index 153 (.agg #[.string a, .string b, .string c, .string d]) (.int .i64 2)).run Tryz.prog w = .ok (.string c) w := by kernel_rfl
@[go_sem] theorem run_index153_3 (a b c d : ByteArray) (w : World) : (Instr.index 153 (.agg #[.string a, .string b, .string c, .string d]) (.int .i64 3)).run Tryz.prog w = .ok (.string d) w := by kernel_rfl
theorem gaTold {w : World} {g k : Nat} {x y : _root_.Rat} [hx : RaC 88 w g x] [hy : RaC 88 w k y] [sx : SmC x 67108864] [sy : SmC y 67108864] :
 Calls Tryz.prog 57 #[.agg #[.pointer (some ⟨g, 0, none⟩), .pointer (some ⟨k, 0, none⟩)]] w fun e w' => e = .returned (.tuple #[.agg #[.string (tS x y (strN x.num)), .string (tS x y (strN x.den)), .string (tS x y (strN y.num)), .string (tS x y (strN y.den))], .int .i64 (toldE x y)]) ∧ Kp0 w w' := by
 have LG0 := hid (fun v : World => blong (strN x.num) (strN_size sx.out.1 (Nat.le_refl _)) v)
 have LG1 := hid (fun v : World => blong (strN x.den) (strN_size sx.out.2 (Nat.le_refl _)) v)
 have LG2 := hid (fun v : World => blong (strN y.num) (strN_size sy.out.1 (Nat.le_refl _)) v)
 have LG3 := hid (fun v : World => blong (strN y.den) (strN_size sy.out.2 (Nat.le_refl _)) v)
 obtain ⟨E, hE⟩ : ∃ E, E = toldE x y := ⟨_, rfl⟩; have T4 := hid (fun h => hE.trans (toldE_4 (x := x) (y := y) h))
 have T0 := hid (fun h1 h2 h3 h4 => hE.trans (toldE_0 (x := x) (y := y) h1 h2 h3 h4))
 have HE := hid hE; clear hE; go_enter Tryz.func57, Tryz.ntmps57; go_upto_region 1 with fail
 go_cut [4] from 7 to 13 (fun s wx => ∃ a, s = .pointer (some ⟨a, 0, none⟩) ∧ BkC wx a [.string (strN x.num), .string (strN x.den), .string (strN y.num), .string (strN y.den)] 33 ∧ Kp0 ((w.alloc (.cells #[.pointer (some ⟨g, 0, none⟩), .pointer (some ⟨k, 0, none⟩)] 82)).alloc (.cells #[.string ⟨#[]⟩, .string ⟨#[]⟩, .string ⟨#[]⟩, .string ⟨#[]⟩] 33)) wx)
 case first =>
  go_region_held3 (fun W => W.cell? ⟨w.heap.size, 0, none⟩ = some (.pointer (some ⟨g, 0, none⟩)) ∧ W.cell? ⟨w.heap.size, 1, none⟩ = some (.pointer (some ⟨k, 0, none⟩))) (refine ⟨?_, ?_⟩ <;> (first | exact Bk.cell BkC.out rfl | (simp [go_sem]; done))) (first | (go_at_call 89; (with_reducible refine Calls.mono (btellC (by decide)) ?_); rintro e wc ⟨rfl, _⟩))
  all_goals (go_wp2_with fail; go_meet; exact ⟨_, rfl, inferInstance, ⟨Gr.out⟩⟩)
 case rest =>
  obtain ⟨a, rfl, i1, k1⟩ := hcut; have HX := hid hx; have c0 := i1.out.cell (i := 0) rfl; have c1 := i1.out.cell (i := 1) rfl; have c2 := i1.out.cell (i := 2) rfl; have c3 := i1.out.cell (i := 3) rfl; generalize (afterS (strN x.num)).size = z0 at *; generalize (afterS (strN x.den)).size = z1 at *; generalize (afterS (strN y.num)).size = z2 at *; generalize (afterS (strN y.den)).size = z3 at *; go_wp2_with fail
  go_loop [27] (fun s27 => ∃ j : Nat, s27 = .int .i64 j ∧ j ≤ 4 ∧ Hid (1 ≤ j → ¬ 16384 < z0) ∧ Hid (2 ≤ j → ¬ 16384 < z1) ∧ Hid (3 ≤ j → ¬ 16384 < z2) ∧ Hid (4 ≤ j → ¬ 16384 < z3)) (fun s27 => 4 - (intOf s27).toNat)
  case atStart => exact ⟨0, rfl, by omega, hid (fun h => absurd h (by decide)), hid (fun h => absurd h (by decide)), hid (fun h => absurd h (by decide)), hid (fun h => absurd h (by decide))⟩
  case round =>
   obtain ⟨j, rfl, hj, H0, H1, H2, H3⟩ := hrel; by_cases j0 : j = 0
   · subst j0; by_cases hz : 16384 < z0
     · have hi : (16384 : Int) < (z0 : Int) := by omega
       have HL := hid hz; clear hz; go_wp2_with (go_at_call 90; (with_reducible refine (LG0.out _).mono ?_); rintro e w' ⟨rfl, hw⟩; obtain rfl := hw.symm)
       refine ret_cell_tmp rfl rfl rfl (by rfl) (by rfl) (by rfl) ?_
       have e1 := HL; have hE1 : E = 4 := T4.out (by have := HL.out; omega)
       refine ⟨?_, ⟨Gr.out⟩⟩
       have hf : ∀ s, tS x y s = ⟨#[]⟩ := fun s => by
        unfold tS; rw [← HE.out, hE1]; rfl
       rw [← HE.out, hf, hf, hf, hf, hE1]; rfl
     · have hi : ¬ (16384 : Int) < (z0 : Int) := by omega
       have HN := hid hz; clear hz; go_wp2_with (go_at_call 90; (with_reducible refine (LG0.out _).mono ?_); rintro e w' ⟨rfl, hw⟩; obtain rfl := hw.symm)
       go_round
       case rel => exact ⟨1, by go_num, by omega, hid (fun _ => HN.out), hid (fun h => absurd h (by decide)), hid (fun h => absurd h (by decide)), hid (fun h => absurd h (by decide))⟩
       case measure => simp [intOf]
   by_cases j1 : j = 1
   · subst j1; by_cases hz : 16384 < z1
     · have hi : (16384 : Int) < (z1 : Int) := by omega
       have HL := hid hz; clear hz; go_wp2_with (go_at_call 90; (with_reducible refine (LG1.out _).mono ?_); rintro e w' ⟨rfl, hw⟩; obtain rfl := hw.symm)
       refine ret_cell_tmp rfl rfl rfl (by rfl) (by rfl) (by rfl) ?_
       have e1 := HL; have hE1 : E = 4 := T4.out (by have := HL.out; omega)
       refine ⟨?_, ⟨Gr.out⟩⟩
       have hf : ∀ s, tS x y s = ⟨#[]⟩ := fun s => by
        unfold tS; rw [← HE.out, hE1]; rfl
       rw [← HE.out, hf, hf, hf, hf, hE1]; rfl
     · have hi : ¬ (16384 : Int) < (z1 : Int) := by omega
       have HN := hid hz; clear hz; go_wp2_with (go_at_call 90; (with_reducible refine (LG1.out _).mono ?_); rintro e w' ⟨rfl, hw⟩; obtain rfl := hw.symm)
       go_round
       case rel => exact ⟨2, by go_num, by omega, hid (fun _ => by have := H0.out (by decide); omega), hid (fun _ => HN.out), hid (fun h => absurd h (by decide)), hid (fun h => absurd h (by decide))⟩
       case measure => simp [intOf]
   by_cases j2 : j = 2
   · subst j2; by_cases hz : 16384 < z2
     · have hi : (16384 : Int) < (z2 : Int) := by omega
       have HL := hid hz; clear hz; go_wp2_with (go_at_call 90; (with_reducible refine (LG2.out _).mono ?_); rintro e w' ⟨rfl, hw⟩; obtain rfl := hw.symm)
       refine ret_cell_tmp rfl rfl rfl (by rfl) (by rfl) (by rfl) ?_
       have e1 := HL; have hE1 : E = 4 := T4.out (by have := HL.out; omega)
       refine ⟨?_, ⟨Gr.out⟩⟩
       have hf : ∀ s, tS x y s = ⟨#[]⟩ := fun s => by
        unfold tS; rw [← HE.out, hE1]; rfl
       rw [← HE.out, hf, hf, hf, hf, hE1]; rfl
     · have hi : ¬ (16384 : Int) < (z2 : Int) := by omega
       have HN := hid hz; clear hz; go_wp2_with (go_at_call 90; (with_reducible refine (LG2.out _).mono ?_); rintro e w' ⟨rfl, hw⟩; obtain rfl := hw.symm)
       go_round
       case rel => exact ⟨3, by go_num, by omega, hid (fun _ => by have := H0.out (by decide); omega), hid (fun _ => by have := H1.out (by decide); omega), hid (fun _ => HN.out), hid (fun h => absurd h (by decide))⟩
       case measure => simp [intOf]
   by_cases j3 : j = 3
   · subst j3; by_cases hz : 16384 < z3
     · have hi : (16384 : Int) < (z3 : Int) := by omega
       have HL := hid hz; clear hz; go_wp2_with (go_at_call 90; (with_reducible refine (LG3.out _).mono ?_); rintro e w' ⟨rfl, hw⟩; obtain rfl := hw.symm)
       refine ret_cell_tmp rfl rfl rfl (by rfl) (by rfl) (by rfl) ?_
       have e1 := HL; have hE1 : E = 4 := T4.out (by have := HL.out; omega)
       refine ⟨?_, ⟨Gr.out⟩⟩
       have hf : ∀ s, tS x y s = ⟨#[]⟩ := fun s => by
        unfold tS; rw [← HE.out, hE1]; rfl
       rw [← HE.out, hf, hf, hf, hf, hE1]; rfl
     · have hi : ¬ (16384 : Int) < (z3 : Int) := by omega
       have HN := hid hz; clear hz; go_wp2_with (go_at_call 90; (with_reducible refine (LG3.out _).mono ?_); rintro e w' ⟨rfl, hw⟩; obtain rfl := hw.symm)
       go_round
       case rel => exact ⟨4, by go_num, by omega, hid (fun _ => by have := H0.out (by decide); omega), hid (fun _ => by have := H1.out (by decide); omega), hid (fun _ => by have := H2.out (by decide); omega), hid (fun _ => HN.out)⟩
       case measure => simp [intOf]
   obtain rfl : j = 4 := by omega
   have HL := hid hj; clear j0 j1 j2 j3; go_wp2_with fail
   refine ret_cell_tmp rfl rfl rfl (by rfl) (by rfl) (by rfl) ?_
   have e1 := HL; have hE1 : E = 0 := T0.out (H0.out (by decide)) (H1.out (by decide)) (H2.out (by decide)) (H3.out (by decide))
   refine ⟨?_, ⟨Gr.out⟩⟩
   have hf : ∀ s, tS x y s = s := fun s => by
    unfold tS; rw [← HE.out, hE1]; rfl
   rw [← HE.out, hf, hf, hf, hf, hE1]; rfl
theorem gaToldC {w : World} {g k : Nat} {x y : _root_.Rat} {L M : Nat} [hx : RaC 88 w g x] [hy : RaC 88 w k y] [sx : SmC x L] [sy : SmC y M] (h1 : L ≤ 67108864) (h2 : M ≤ 67108864) :
 Calls Tryz.prog 57 #[.agg #[.pointer (some ⟨g, 0, none⟩), .pointer (some ⟨k, 0, none⟩)]] w fun e w' => e = .returned (.tuple #[.agg #[.string (tS x y (strN x.num)), .string (tS x y (strN x.den)), .string (tS x y (strN y.num)), .string (tS x y (strN y.den))], .int .i64 (toldE x y)]) ∧ Kp0 w w' := gaTold (sx := ⟨sx.out.mono h1⟩) (sy := ⟨sy.out.mono h2⟩)
theorem reTold {w : World} {g k : Nat} {x y : _root_.Rat} [hx : RaC 125 w g x] [hy : RaC 125 w k y] [sx : SmC x 67108864] [sy : SmC y 67108864] :
 Calls Tryz.prog 59 #[.agg #[.pointer (some ⟨g, 0, none⟩), .pointer (some ⟨k, 0, none⟩)]] w fun e w' => e = .returned (.tuple #[.agg #[.string (tS x y (strN x.num)), .string (tS x y (strN x.den)), .string (tS x y (strN y.num)), .string (tS x y (strN y.den))], .int .i64 (toldE x y)]) ∧ Kp0 w w' := by
 have LG0 := hid (fun v : World => elong (strN x.num) (strN_size sx.out.1 (Nat.le_refl _)) v)
 have LG1 := hid (fun v : World => elong (strN x.den) (strN_size sx.out.2 (Nat.le_refl _)) v)
 have LG2 := hid (fun v : World => elong (strN y.num) (strN_size sy.out.1 (Nat.le_refl _)) v)
 have LG3 := hid (fun v : World => elong (strN y.den) (strN_size sy.out.2 (Nat.le_refl _)) v)
 obtain ⟨E, hE⟩ : ∃ E, E = toldE x y := ⟨_, rfl⟩; have T4 := hid (fun h => hE.trans (toldE_4 (x := x) (y := y) h))
 have T0 := hid (fun h1 h2 h3 h4 => hE.trans (toldE_0 (x := x) (y := y) h1 h2 h3 h4))
 have HE := hid hE; clear hE; go_enter Tryz.func59, Tryz.ntmps59; go_upto_region 1 with fail
 go_cut [4] from 5 to 11 (fun s wx => ∃ a, s = .pointer (some ⟨a, 0, none⟩) ∧ BkC wx a [.string (strN x.num), .string (strN x.den), .string (strN y.num), .string (strN y.den)] 33 ∧ Kp0 ((w.alloc (.cells #[.pointer (some ⟨g, 0, none⟩), .pointer (some ⟨k, 0, none⟩)] 94)).alloc (.cells #[.string ⟨#[]⟩, .string ⟨#[]⟩, .string ⟨#[]⟩, .string ⟨#[]⟩] 33)) wx)
 case first =>
  go_region_held3 (fun W => W.cell? ⟨w.heap.size, 0, none⟩ = some (.pointer (some ⟨g, 0, none⟩)) ∧ W.cell? ⟨w.heap.size, 1, none⟩ = some (.pointer (some ⟨k, 0, none⟩))) (refine ⟨?_, ?_⟩ <;> (first | exact Bk.cell BkC.out rfl | (simp [go_sem]; done))) (first | (go_at_call 100; (with_reducible refine Calls.mono (etellC (by decide)) ?_); rintro e wc ⟨rfl, _⟩))
  all_goals (go_wp2_with fail; go_meet; exact ⟨_, rfl, inferInstance, ⟨Gr.out⟩⟩)
 case rest =>
  obtain ⟨a, rfl, i1, k1⟩ := hcut; have HX := hid hx; have c0 := i1.out.cell (i := 0) rfl; have c1 := i1.out.cell (i := 1) rfl; have c2 := i1.out.cell (i := 2) rfl; have c3 := i1.out.cell (i := 3) rfl; generalize (afterS (strN x.num)).size = z0 at *; generalize (afterS (strN x.den)).size = z1 at *; generalize (afterS (strN y.num)).size = z2 at *; generalize (afterS (strN y.den)).size = z3 at *; by_cases hz0 : 16384 < z0
  · have hi0 : (16384 : Int) < (z0 : Int) := by omega
    have HL := hid hz0; clear hz0; go_wp2_with (first | (go_at_call 101; (with_reducible refine (LG0.out _).mono ?_); rintro e w' ⟨rfl, hw⟩; obtain rfl := hw.symm) | (go_at_call 101; (with_reducible refine (LG1.out _).mono ?_); rintro e w' ⟨rfl, hw⟩; obtain rfl := hw.symm) | (go_at_call 101; (with_reducible refine (LG2.out _).mono ?_); rintro e w' ⟨rfl, hw⟩; obtain rfl := hw.symm) | (go_at_call 101; (with_reducible refine (LG3.out _).mono ?_); rintro e w' ⟨rfl, hw⟩; obtain rfl := hw.symm))
    refine ret_cell_tmp rfl rfl rfl (by rfl) (by rfl) (by rfl) ?_
    have e1 := HL; have hE1 : E = 4 := T4.out (by have := HL.out; omega)
    refine ⟨?_, ⟨Gr.out⟩⟩
    have hf : ∀ s, tS x y s = ⟨#[]⟩ := fun s => by
     unfold tS; rw [← HE.out, hE1]; rfl
    rw [← HE.out, hf, hf, hf, hf, hE1]; rfl
  · have hi0 : ¬ (16384 : Int) < (z0 : Int) := by omega
    have HN0 := hid hz0; clear hz0; by_cases hz1 : 16384 < z1
    · have hi1 : (16384 : Int) < (z1 : Int) := by omega
      have HL := hid hz1; clear hz1; go_wp2_with (first | (go_at_call 101; (with_reducible refine (LG0.out _).mono ?_); rintro e w' ⟨rfl, hw⟩; obtain rfl := hw.symm) | (go_at_call 101; (with_reducible refine (LG1.out _).mono ?_); rintro e w' ⟨rfl, hw⟩; obtain rfl := hw.symm) | (go_at_call 101; (with_reducible refine (LG2.out _).mono ?_); rintro e w' ⟨rfl, hw⟩; obtain rfl := hw.symm) | (go_at_call 101; (with_reducible refine (LG3.out _).mono ?_); rintro e w' ⟨rfl, hw⟩; obtain rfl := hw.symm))
      refine ret_cell_tmp rfl rfl rfl (by rfl) (by rfl) (by rfl) ?_
      have e1 := HL; have hE1 : E = 4 := T4.out (by have := HL.out; omega)
      refine ⟨?_, ⟨Gr.out⟩⟩
      have hf : ∀ s, tS x y s = ⟨#[]⟩ := fun s => by
       unfold tS; rw [← HE.out, hE1]; rfl
      rw [← HE.out, hf, hf, hf, hf, hE1]; rfl
    · have hi1 : ¬ (16384 : Int) < (z1 : Int) := by omega
      have HN1 := hid hz1; clear hz1; by_cases hz2 : 16384 < z2
      · have hi2 : (16384 : Int) < (z2 : Int) := by omega
        have HL := hid hz2; clear hz2; go_wp2_with (first | (go_at_call 101; (with_reducible refine (LG0.out _).mono ?_); rintro e w' ⟨rfl, hw⟩; obtain rfl := hw.symm) | (go_at_call 101; (with_reducible refine (LG1.out _).mono ?_); rintro e w' ⟨rfl, hw⟩; obtain rfl := hw.symm) | (go_at_call 101; (with_reducible refine (LG2.out _).mono ?_); rintro e w' ⟨rfl, hw⟩; obtain rfl := hw.symm) | (go_at_call 101; (with_reducible refine (LG3.out _).mono ?_); rintro e w' ⟨rfl, hw⟩; obtain rfl := hw.symm))
        refine ret_cell_tmp rfl rfl rfl (by rfl) (by rfl) (by rfl) ?_
        have e1 := HL; have hE1 : E = 4 := T4.out (by have := HL.out; omega)
        refine ⟨?_, ⟨Gr.out⟩⟩
        have hf : ∀ s, tS x y s = ⟨#[]⟩ := fun s => by
         unfold tS; rw [← HE.out, hE1]; rfl
        rw [← HE.out, hf, hf, hf, hf, hE1]; rfl
      · have hi2 : ¬ (16384 : Int) < (z2 : Int) := by omega
        have HN2 := hid hz2; clear hz2; by_cases hz3 : 16384 < z3
        · have hi3 : (16384 : Int) < (z3 : Int) := by omega
          have HL := hid hz3; clear hz3; go_wp2_with (first | (go_at_call 101; (with_reducible refine (LG0.out _).mono ?_); rintro e w' ⟨rfl, hw⟩; obtain rfl := hw.symm) | (go_at_call 101; (with_reducible refine (LG1.out _).mono ?_); rintro e w' ⟨rfl, hw⟩; obtain rfl := hw.symm) | (go_at_call 101; (with_reducible refine (LG2.out _).mono ?_); rintro e w' ⟨rfl, hw⟩; obtain rfl := hw.symm) | (go_at_call 101; (with_reducible refine (LG3.out _).mono ?_); rintro e w' ⟨rfl, hw⟩; obtain rfl := hw.symm))
          refine ret_cell_tmp rfl rfl rfl (by rfl) (by rfl) (by rfl) ?_
          have e1 := HL; have hE1 : E = 4 := T4.out (by have := HL.out; omega)
          refine ⟨?_, ⟨Gr.out⟩⟩
          have hf : ∀ s, tS x y s = ⟨#[]⟩ := fun s => by
           unfold tS; rw [← HE.out, hE1]; rfl
          rw [← HE.out, hf, hf, hf, hf, hE1]; rfl
        · have hi3 : ¬ (16384 : Int) < (z3 : Int) := by omega
          have HN3 := hid hz3; clear hz3; have HL := HN0; go_wp2_with (first | (go_at_call 101; (with_reducible refine (LG0.out _).mono ?_); rintro e w' ⟨rfl, hw⟩; obtain rfl := hw.symm) | (go_at_call 101; (with_reducible refine (LG1.out _).mono ?_); rintro e w' ⟨rfl, hw⟩; obtain rfl := hw.symm) | (go_at_call 101; (with_reducible refine (LG2.out _).mono ?_); rintro e w' ⟨rfl, hw⟩; obtain rfl := hw.symm) | (go_at_call 101; (with_reducible refine (LG3.out _).mono ?_); rintro e w' ⟨rfl, hw⟩; obtain rfl := hw.symm))
          refine ret_cell_tmp rfl rfl rfl (by rfl) (by rfl) (by rfl) ?_
          have e1 := HL; have hE1 : E = 0 := T0.out HN0.out HN1.out HN2.out HN3.out; refine ⟨?_, ⟨Gr.out⟩⟩
          have hf : ∀ s, tS x y s = s := fun s => by
           unfold tS; rw [← HE.out, hE1]; rfl
          rw [← HE.out, hf, hf, hf, hf, hE1]; rfl
theorem reToldC {w : World} {g k : Nat} {x y : _root_.Rat} {L M : Nat} [hx : RaC 125 w g x] [hy : RaC 125 w k y] [sx : SmC x L] [sy : SmC y M] (h1 : L ≤ 67108864) (h2 : M ≤ 67108864) :
 Calls Tryz.prog 59 #[.agg #[.pointer (some ⟨g, 0, none⟩), .pointer (some ⟨k, 0, none⟩)]] w fun e w' => e = .returned (.tuple #[.agg #[.string (tS x y (strN x.num)), .string (tS x y (strN x.den)), .string (tS x y (strN y.num)), .string (tS x y (strN y.den))], .int .i64 (toldE x y)]) ∧ Kp0 w w' := reTold (sx := ⟨sx.out.mono h1⟩) (sy := ⟨sy.out.mono h2⟩)
theorem rePlus {w : World} {g k g' k' : Nat} {x y x' y' : _root_.Rat} [hx : RaC 125 w g x] [hy : RaC 125 w k y] [hx' : RaC 125 w g' x'] [hy' : RaC 125 w k' y'] [sx : SmC x 4294967296] [sy : SmC y 4294967296] [sx' : SmC x' 4294967296] [sy' : SmC y' 4294967296] :
 Calls Tryz.prog 94 #[.agg #[.pointer (some ⟨g, 0, none⟩), .pointer (some ⟨k, 0, none⟩)], .agg #[.pointer (some ⟨g', 0, none⟩), .pointer (some ⟨k', 0, none⟩)]] w fun e w' => ∃ i j, e = .returned (.agg #[.pointer (some ⟨i, 0, none⟩), .pointer (some ⟨j, 0, none⟩)]) ∧ RaC 125 w' i (x + x') ∧ RaC 125 w' j (y + y') ∧ Kp0 w w' := by
 go_enter Tryz.func94, Tryz.ntmps94; go_wp2_with fail
 go_region_held3 (fun W => W.cell? ⟨w.heap.size, 0, none⟩ = some (.pointer (some ⟨g, 0, none⟩)) ∧ W.cell? ⟨w.heap.size, 1, none⟩ = some (.pointer (some ⟨k, 0, none⟩)) ∧ W.cell? ⟨w.heap.size + 1, 0, none⟩ = some (.pointer (some ⟨g', 0, none⟩)) ∧ W.cell? ⟨w.heap.size + 1, 1, none⟩ = some (.pointer (some ⟨k', 0, none⟩))) (refine ⟨?_, ?_, ?_, ?_⟩ <;> (first | exact Bk.cell BkC.out rfl | (simp [go_sem]; done))) (first | (go_at_call 124; (with_reducible refine Calls.mono (erMulC (by decide) (by decide)) ?_); rintro e wc ⟨rfl, _, _⟩) | (go_at_call 119; (with_reducible refine Calls.mono (erSubC (by decide) (by decide)) ?_); rintro e wc ⟨rfl, _, _⟩) | (go_at_call 143; (with_reducible refine Calls.mono (erAddC (by decide) (by decide)) ?_); rintro e wc ⟨rfl, _, _⟩))
 all_goals (go_wp2_with fail; refine ret_cell rfl rfl rfl (by rfl) (by rfl) (by rfl) ?_; exact ⟨_, _, rfl, inferInstance, inferInstance, ⟨Gr.out⟩⟩)
theorem rePlusC {w : World} {g k g' k' : Nat} {x y x' y' : _root_.Rat} {L M L' M' : Nat} [hx : RaC 125 w g x] [hy : RaC 125 w k y] [hx' : RaC 125 w g' x'] [hy' : RaC 125 w k' y'] [sx : SmC x L] [sy : SmC y M] [sx' : SmC x' L'] [sy' : SmC y' M'] (h1 : L ≤ 4294967296) (h2 : M ≤ 4294967296) (h3 : L' ≤ 4294967296) (h4 : M' ≤ 4294967296) :
 Calls Tryz.prog 94 #[.agg #[.pointer (some ⟨g, 0, none⟩), .pointer (some ⟨k, 0, none⟩)], .agg #[.pointer (some ⟨g', 0, none⟩), .pointer (some ⟨k', 0, none⟩)]] w fun e w' => ∃ i j, e = .returned (.agg #[.pointer (some ⟨i, 0, none⟩), .pointer (some ⟨j, 0, none⟩)]) ∧ RaC 125 w' i (x + x') ∧ RaC 125 w' j (y + y') ∧ Kp0 w w' := rePlus (sx := ⟨sx.out.mono h1⟩) (sy := ⟨sy.out.mono h2⟩) (sx' := ⟨sx'.out.mono h3⟩) (sy' := ⟨sy'.out.mono h4⟩)
theorem reLess {w : World} {g k g' k' : Nat} {x y x' y' : _root_.Rat} [hx : RaC 125 w g x] [hy : RaC 125 w k y] [hx' : RaC 125 w g' x'] [hy' : RaC 125 w k' y'] [sx : SmC x 4294967296] [sy : SmC y 4294967296] [sx' : SmC x' 4294967296] [sy' : SmC y' 4294967296] :
 Calls Tryz.prog 71 #[.agg #[.pointer (some ⟨g, 0, none⟩), .pointer (some ⟨k, 0, none⟩)], .agg #[.pointer (some ⟨g', 0, none⟩), .pointer (some ⟨k', 0, none⟩)]] w fun e w' => ∃ i j, e = .returned (.agg #[.pointer (some ⟨i, 0, none⟩), .pointer (some ⟨j, 0, none⟩)]) ∧ RaC 125 w' i (x - x') ∧ RaC 125 w' j (y - y') ∧ Kp0 w w' := by
 go_enter Tryz.func71, Tryz.ntmps71; go_wp2_with fail
 go_region_held3 (fun W => W.cell? ⟨w.heap.size, 0, none⟩ = some (.pointer (some ⟨g, 0, none⟩)) ∧ W.cell? ⟨w.heap.size, 1, none⟩ = some (.pointer (some ⟨k, 0, none⟩)) ∧ W.cell? ⟨w.heap.size + 1, 0, none⟩ = some (.pointer (some ⟨g', 0, none⟩)) ∧ W.cell? ⟨w.heap.size + 1, 1, none⟩ = some (.pointer (some ⟨k', 0, none⟩))) (refine ⟨?_, ?_, ?_, ?_⟩ <;> (first | exact Bk.cell BkC.out rfl | (simp [go_sem]; done))) (first | (go_at_call 124; (with_reducible refine Calls.mono (erMulC (by decide) (by decide)) ?_); rintro e wc ⟨rfl, _, _⟩) | (go_at_call 119; (with_reducible refine Calls.mono (erSubC (by decide) (by decide)) ?_); rintro e wc ⟨rfl, _, _⟩) | (go_at_call 143; (with_reducible refine Calls.mono (erAddC (by decide) (by decide)) ?_); rintro e wc ⟨rfl, _, _⟩))
 all_goals (go_wp2_with fail; refine ret_cell rfl rfl rfl (by rfl) (by rfl) (by rfl) ?_; exact ⟨_, _, rfl, inferInstance, inferInstance, ⟨Gr.out⟩⟩)
theorem reLessC {w : World} {g k g' k' : Nat} {x y x' y' : _root_.Rat} {L M L' M' : Nat} [hx : RaC 125 w g x] [hy : RaC 125 w k y] [hx' : RaC 125 w g' x'] [hy' : RaC 125 w k' y'] [sx : SmC x L] [sy : SmC y M] [sx' : SmC x' L'] [sy' : SmC y' M'] (h1 : L ≤ 4294967296) (h2 : M ≤ 4294967296) (h3 : L' ≤ 4294967296) (h4 : M' ≤ 4294967296) :
 Calls Tryz.prog 71 #[.agg #[.pointer (some ⟨g, 0, none⟩), .pointer (some ⟨k, 0, none⟩)], .agg #[.pointer (some ⟨g', 0, none⟩), .pointer (some ⟨k', 0, none⟩)]] w fun e w' => ∃ i j, e = .returned (.agg #[.pointer (some ⟨i, 0, none⟩), .pointer (some ⟨j, 0, none⟩)]) ∧ RaC 125 w' i (x - x') ∧ RaC 125 w' j (y - y') ∧ Kp0 w w' := reLess (sx := ⟨sx.out.mono h1⟩) (sy := ⟨sy.out.mono h2⟩) (sx' := ⟨sx'.out.mono h3⟩) (sy' := ⟨sy'.out.mono h4⟩)
theorem reTimes {w : World} {g k g' k' : Nat} {x y x' y' : _root_.Rat} [hx : RaC 125 w g x] [hy : RaC 125 w k y] [hx' : RaC 125 w g' x'] [hy' : RaC 125 w k' y'] [sx : SmC x 4294967296] [sy : SmC y 4294967296] [sx' : SmC x' 4294967296] [sy' : SmC y' 4294967296] :
 Calls Tryz.prog 95 #[.agg #[.pointer (some ⟨g, 0, none⟩), .pointer (some ⟨k, 0, none⟩)], .agg #[.pointer (some ⟨g', 0, none⟩), .pointer (some ⟨k', 0, none⟩)]] w fun e w' => ∃ i j, e = .returned (.agg #[.pointer (some ⟨i, 0, none⟩), .pointer (some ⟨j, 0, none⟩)]) ∧ RaC 125 w' i (x * x' - y * y') ∧ RaC 125 w' j (x * y' + y * x') ∧ Kp0 w w' ∧ UpW w i ∧ UpW w j ∧ NeN i j := by
 go_enter Tryz.func95, Tryz.ntmps95; go_upto_region 1 with fail
 go_cut [5] from 7 to 20 (fun s wx => ∃ i, s = .pointer (some ⟨i, 0, none⟩) ∧ RaC 125 wx i (x * x' - y * y') ∧ Kp0 (((w.alloc (.cells #[.pointer (some ⟨g, 0, none⟩), .pointer (some ⟨k, 0, none⟩)] 94)).alloc (.cells #[.pointer (some ⟨g', 0, none⟩), .pointer (some ⟨k', 0, none⟩)] 94)).alloc (.cells #[.pointer none, .pointer none] 94)) wx ∧ UpW w i)
 case first =>
  go_region_held3 (fun W => W.cell? ⟨w.heap.size, 0, none⟩ = some (.pointer (some ⟨g, 0, none⟩)) ∧ W.cell? ⟨w.heap.size, 1, none⟩ = some (.pointer (some ⟨k, 0, none⟩)) ∧ W.cell? ⟨w.heap.size + 1, 0, none⟩ = some (.pointer (some ⟨g', 0, none⟩)) ∧ W.cell? ⟨w.heap.size + 1, 1, none⟩ = some (.pointer (some ⟨k', 0, none⟩))) (refine ⟨?_, ?_, ?_, ?_⟩ <;> (first | exact Bk.cell BkC.out rfl | (simp [go_sem]; done))) (first | (go_at_call 124; (with_reducible refine Calls.mono (erMulC (by decide) (by decide)) ?_); rintro e wc ⟨rfl, _, _⟩) | (go_at_call 119; (with_reducible refine Calls.mono (erSubC (by decide) (by decide)) ?_); rintro e wc ⟨rfl, _, _⟩) | (go_at_call 143; (with_reducible refine Calls.mono (erAddC (by decide) (by decide)) ?_); rintro e wc ⟨rfl, _, _⟩))
  all_goals (go_wp2_with fail; go_meet; exact ⟨_, rfl, inferInstance, ⟨Gr.out⟩, ⟨LeN.le⟩⟩)
 case rest =>
  obtain ⟨i, rfl, i1, k1, u1⟩ := hcut; go_upto_region 2 with fail
  go_cut [6] from 21 to 34 (fun s wx => ∃ j, s = .pointer (some ⟨j, 0, none⟩) ∧ RaC 125 wx j (x * y' + y * x') ∧ Kp0 wc wx ∧ UpW wc j)
  case first =>
   go_region_held3 (fun W => W.cell? ⟨w.heap.size, 0, none⟩ = some (.pointer (some ⟨g, 0, none⟩)) ∧ W.cell? ⟨w.heap.size, 1, none⟩ = some (.pointer (some ⟨k, 0, none⟩)) ∧ W.cell? ⟨w.heap.size + 1, 0, none⟩ = some (.pointer (some ⟨g', 0, none⟩)) ∧ W.cell? ⟨w.heap.size + 1, 1, none⟩ = some (.pointer (some ⟨k', 0, none⟩))) (refine ⟨?_, ?_, ?_, ?_⟩ <;> (first | exact Bk.cell BkC.out rfl | (simp [go_sem]; done))) (first | (go_at_call 124; (with_reducible refine Calls.mono (erMulC (by decide) (by decide)) ?_); rintro e wc ⟨rfl, _, _⟩) | (go_at_call 119; (with_reducible refine Calls.mono (erSubC (by decide) (by decide)) ?_); rintro e wc ⟨rfl, _, _⟩) | (go_at_call 143; (with_reducible refine Calls.mono (erAddC (by decide) (by decide)) ?_); rintro e wc ⟨rfl, _, _⟩))
   all_goals (go_wp2_with fail; go_meet; exact ⟨_, rfl, inferInstance, ⟨Gr.out⟩, ⟨LeN.le⟩⟩)
  case rest =>
   obtain ⟨j, rfl, i2, k2, u2⟩ := hcut; go_wp2_with fail
   refine ret_cell rfl rfl rfl (by rfl) (by rfl) (by rfl) ?_
   exact ⟨_, _, rfl, inferInstance, inferInstance, ⟨Gr.out⟩, u1, ⟨Up.out⟩, inferInstance⟩
theorem reTimesC {w : World} {g k g' k' : Nat} {x y x' y' : _root_.Rat} {L M L' M' : Nat} [hx : RaC 125 w g x] [hy : RaC 125 w k y] [hx' : RaC 125 w g' x'] [hy' : RaC 125 w k' y'] [sx : SmC x L] [sy : SmC y M] [sx' : SmC x' L'] [sy' : SmC y' M'] (h1 : L ≤ 4294967296) (h2 : M ≤ 4294967296) (h3 : L' ≤ 4294967296) (h4 : M' ≤ 4294967296) :
 Calls Tryz.prog 95 #[.agg #[.pointer (some ⟨g, 0, none⟩), .pointer (some ⟨k, 0, none⟩)], .agg #[.pointer (some ⟨g', 0, none⟩), .pointer (some ⟨k', 0, none⟩)]] w fun e w' => ∃ i j, e = .returned (.agg #[.pointer (some ⟨i, 0, none⟩), .pointer (some ⟨j, 0, none⟩)]) ∧ RaC 125 w' i (x * x' - y * y') ∧ RaC 125 w' j (x * y' + y * x') ∧ Kp0 w w' ∧ UpW w i ∧ UpW w j ∧ NeN i j := reTimes (sx := ⟨sx.out.mono h1⟩) (sy := ⟨sy.out.mono h2⟩) (sx' := ⟨sx'.out.mono h3⟩) (sy' := ⟨sy'.out.mono h4⟩)
theorem reSquare {w : World} {g k : Nat} {x y : _root_.Rat} [hx : RaC 125 w g x] [hy : RaC 125 w k y] [sx : SmC x 4294967296] [sy : SmC y 4294967296] :
 Calls Tryz.prog 96 #[.agg #[.pointer (some ⟨g, 0, none⟩), .pointer (some ⟨k, 0, none⟩)]] w fun e w' => ∃ i, e = .returned (.pointer (some ⟨i, 0, none⟩)) ∧ RaC 125 w' i (x * x + y * y) ∧ Kp0 w w' := by
 go_enter Tryz.func96, Tryz.ntmps96; go_wp2_with fail
 go_region_held3 (fun W => W.cell? ⟨w.heap.size, 0, none⟩ = some (.pointer (some ⟨g, 0, none⟩)) ∧ W.cell? ⟨w.heap.size, 1, none⟩ = some (.pointer (some ⟨k, 0, none⟩))) (refine ⟨?_, ?_⟩ <;> (first | exact Bk.cell BkC.out rfl | (simp [go_sem]; done))) (first | (go_at_call 124; (with_reducible refine Calls.mono (erMulC (by decide) (by decide)) ?_); rintro e wc ⟨rfl, _, _⟩) | (go_at_call 119; (with_reducible refine Calls.mono (erSubC (by decide) (by decide)) ?_); rintro e wc ⟨rfl, _, _⟩) | (go_at_call 143; (with_reducible refine Calls.mono (erAddC (by decide) (by decide)) ?_); rintro e wc ⟨rfl, _, _⟩))
 all_goals (go_wp2_with fail; go_ret; exact ⟨_, rfl, inferInstance, ⟨Gr.out⟩⟩)
theorem reSquareC {w : World} {g k : Nat} {x y : _root_.Rat} {L M : Nat} [hx : RaC 125 w g x] [hy : RaC 125 w k y] [sx : SmC x L] [sy : SmC y M] (h1 : L ≤ 4294967296) (h2 : M ≤ 4294967296) :
 Calls Tryz.prog 96 #[.agg #[.pointer (some ⟨g, 0, none⟩), .pointer (some ⟨k, 0, none⟩)]] w fun e w' => ∃ i, e = .returned (.pointer (some ⟨i, 0, none⟩)) ∧ RaC 125 w' i (x * x + y * y) ∧ Kp0 w w' := reSquare (sx := ⟨sx.out.mono h1⟩) (sy := ⟨sy.out.mono h2⟩)
end Go.Proofs.YthjeejnggpjnjaaGreatDoor
