/- A part: BG, BH, BI, BO, BS, BW, BX, BY, CA. -/
import Derived.Test.YthjeejnggpjnjaaGreatDoorZY14
import Derived.Laws.FloatArith
set_option linter.unusedSimpArgs false
set_option linter.unusedVariables false
set_option maxRecDepth 100000
set_option maxHeartbeats 16000000
set_option synthInstance.maxHeartbeats 2000000
set_option synthInstance.maxSize 100000
namespace Go.Proofs.YthjeejnggpjnjaaGreatDoor
open Go.RowKit
theorem rePlus {w : World} {g k g' k' : Nat} {x y x' y' : _root_.Rat} [hx : RaC 125 w g x] [hy : RaC 125 w k y] [hx' : RaC 125 w g' x'] [hy' : RaC 125 w k' y'] [sx : SmC x 4294967296] [sy : SmC y 4294967296] [sx' : SmC x' 4294967296] [sy' : SmC y' 4294967296] :
 Calls Tryz.prog 94 #[.agg #[.pointer (some ⟨g, 0, none⟩), .pointer (some ⟨k, 0, none⟩)], .agg #[.pointer (some ⟨g', 0, none⟩), .pointer (some ⟨k', 0, none⟩)]] w fun e w' => ∃ i j, e = .returned (.agg #[.pointer (some ⟨i, 0, none⟩), .pointer (some ⟨j, 0, none⟩)]) ∧ RaC 125 w' i (x + x') ∧ RaC 125 w' j (y + y') ∧ Kp0 w w' := by
 go_enter Tryz.func94, Tryz.ntmps94; go_wp2_with fail
 go_region_held3 (fun W => W.cell? ⟨w.heap.size, 0, none⟩ = some (.pointer (some ⟨g, 0, none⟩)) ∧ W.cell? ⟨w.heap.size, 1, none⟩ = some (.pointer (some ⟨k, 0, none⟩)) ∧ W.cell? ⟨w.heap.size + 1, 0, none⟩ = some (.pointer (some ⟨g', 0, none⟩)) ∧ W.cell? ⟨w.heap.size + 1, 1, none⟩ = some (.pointer (some ⟨k', 0, none⟩))) (refine ⟨?_, ?_, ?_, ?_⟩ <;> (first | exact Bk.cell BkC.out rfl | (simp [go_sem]; done))) (first | (go_at_call 124; (with_reducible refine Calls.mono (erMulC (by decide) (by decide)) ?_); rintro e wc ⟨rfl, _, _⟩) | (go_at_call 119; (with_reducible refine Calls.mono (erSubC (by decide) (by decide)) ?_); rintro e wc ⟨rfl, _, _⟩) | (go_at_call 143; (with_reducible refine Calls.mono (erAddC (by decide) (by decide)) ?_); rintro e wc ⟨rfl, _, _⟩))
 all_goals (go_wp2_with fail; refine ret_cell rfl rfl rfl (by rfl) (by rfl) (by rfl) ?_; exact ⟨_, _, rfl, inferInstance, inferInstance, ⟨Gr.out⟩⟩)
theorem rePlusC {w : World} {g k g' k' : Nat} {x y x' y' : _root_.Rat} {L M L' M' : Nat} [hx : RaC 125 w g x] [hy : RaC 125 w k y] [hx' : RaC 125 w g' x'] [hy' : RaC 125 w k' y'] [sx : SmC x L] [sy : SmC y M] [sx' : SmC x' L'] [sy' : SmC y' M'] (h1 : L ≤ 4294967296) (h2 : M ≤ 4294967296) (h3 : L' ≤ 4294967296) (h4 : M' ≤ 4294967296) :
 Calls Tryz.prog 94 #[.agg #[.pointer (some ⟨g, 0, none⟩), .pointer (some ⟨k, 0, none⟩)], .agg #[.pointer (some ⟨g', 0, none⟩), .pointer (some ⟨k', 0, none⟩)]] w fun e w' => ∃ i j, e = .returned (.agg #[.pointer (some ⟨i, 0, none⟩), .pointer (some ⟨j, 0, none⟩)]) ∧ RaC 125 w' i (x + x') ∧ RaC 125 w' j (y + y') ∧ Kp0 w w' := rePlus (sx := ⟨sx.out.mono h1⟩) (sy := ⟨sy.out.mono h2⟩) (sx' := ⟨sx'.out.mono h3⟩) (sy' := ⟨sy'.out.mono h4⟩)
theorem reLess {w : World} {g k g' k' : Nat} {x y x' y' : _root_.Rat} [hx : RaC 125 w g x] [hy : RaC 125 w k y] [hx' : RaC 125 w g' x'] [hy' : RaC 125 w k' y'] [sx : SmC x 4294967296] [sy : SmC y 4294967296] [sx' : SmC x' 4294967296] [sy' : SmC y' 4294967296] :
 Calls Tryz.prog 71 #[.agg #[.pointer (some ⟨g, 0, none⟩), .pointer (some ⟨k, 0, none⟩)], .agg #[.pointer (some ⟨g', 0, none⟩), .pointer (some ⟨k', 0, none⟩)]] w fun e w' => ∃ i j, e = .returned (.agg #[.pointer (some ⟨i, 0, none⟩), .pointer (some ⟨j, 0, none⟩)]) ∧ RaC 125 w' i (x - x') ∧ RaC 125 w' j (y - y') ∧ Kp0 w w' := by
 go_enter Tryz.func71, Tryz.ntmps71; go_wp2_with fail
 go_region_held3 (fun W => W.cell? ⟨w.heap.size, 0, none⟩ = some (.pointer (some ⟨g, 0, none⟩)) ∧ W.cell? ⟨w.heap.size, 1, none⟩ = some (.pointer (some ⟨k, 0, none⟩)) ∧ W.cell? ⟨w.heap.size + 1, 0, none⟩ = some (.pointer (some ⟨g', 0, none⟩)) ∧ W.cell? ⟨w.heap.size + 1, 1, none⟩ = some (.pointer (some ⟨k', 0, none⟩))) (refine ⟨?_, ?_, ?_, ?_⟩ <;> (first | exact Bk.cell BkC.out rfl | (simp [go_sem]; done))) (first | (go_at_call 124; (with_reducible refine Calls.mono (erMulC (by decide) (by decide)) ?_); rintro e wc ⟨rfl, _, _⟩) | (go_at_call 119; (with_reducible refine Calls.mono (erSubC (by decide) (by decide)) ?_); rintro e wc ⟨rfl, _, _⟩) | (go_at_call 143; (with_reducible refine Calls.mono (erAddC (by decide) (by decide)) ?_); rintro e wc ⟨rfl, _, _⟩))
 all_goals (go_wp2_with fail; refine ret_cell rfl rfl rfl (by rfl) (by rfl) (by rfl) ?_; exact ⟨_, _, rfl, inferInstance, inferInstance, ⟨Gr.out⟩⟩)
theorem reLessC {w : World} {g k g' k' : Nat} {x y x' y' : _root_.Rat} {L M L' M' : Nat} [hx : RaC 125 w g x] [hy : RaC 125 w k y] [hx' : RaC 125 w g' x'] [hy' : RaC 125 w k' y'] [sx : SmC x L] [sy : SmC y M] [sx' : SmC x' L'] [sy' : SmC y' M'] (h1 : L ≤ 4294967296) (h2 : M ≤ 4294967296) (h3 : L' ≤ 4294967296) (h4 : M' ≤ 4294967296) :
 Calls Tryz.prog 71 #[.agg #[.pointer (some ⟨g, 0, none⟩), .pointer (some ⟨k, 0, none⟩)], .agg #[.pointer (some ⟨g', 0, none⟩), .pointer (some ⟨k', 0, none⟩)]] w fun e w' => ∃ i j, e = .returned (.agg #[.pointer (some ⟨i, 0, none⟩), .pointer (some ⟨j, 0, none⟩)]) ∧ RaC 125 w' i (x - x') ∧ RaC 125 w' j (y - y') ∧ Kp0 w w' := reLess (sx := ⟨sx.out.mono h1⟩) (sy := ⟨sy.out.mono h2⟩) (sx' := ⟨sx'.out.mono h3⟩) (sy' := ⟨sy'.out.mono h4⟩)
theorem reTimes {w : World} {g k g' k' : Nat} {x y x' y' : _root_.Rat} [hx : RaC 125 w g x] [hy : RaC 125 w k y] [hx' : RaC 125 w g' x'] [hy' : RaC 125 w k' y'] [sx : SmC x 4294967296] [sy : SmC y 4294967296] [sx' : SmC x' 4294967296] [sy' : SmC y' 4294967296] :
 Calls Tryz.prog 95 #[.agg #[.pointer (some ⟨g, 0, none⟩), .pointer (some ⟨k, 0, none⟩)], .agg #[.pointer (some ⟨g', 0, none⟩), .pointer (some ⟨k', 0, none⟩)]] w fun e w' => ∃ i j, e = .returned (.agg #[.pointer (some ⟨i, 0, none⟩), .pointer (some ⟨j, 0, none⟩)]) ∧ RaC 125 w' i (x * x' - y * y') ∧ RaC 125 w' j (x * y' + y * x') ∧ Kp0 w w' ∧ UpW w i ∧ UpW w j ∧ NeN i j := by
 go_enter Tryz.func95, Tryz.ntmps95; go_upto_region 1 with fail
 go_cut [5] from 7 to 20 (fun s wx => ∃ i, s = .pointer (some ⟨i, 0, none⟩) ∧ RaC 125 wx i (x * x' - y * y') ∧ Kp0 (((w.alloc (.cells #[.pointer (some ⟨g, 0, none⟩), .pointer (some ⟨k, 0, none⟩)] 94)).alloc (.cells #[.pointer (some ⟨g', 0, none⟩), .pointer (some ⟨k', 0, none⟩)] 94)).alloc (.cells #[.pointer none, .pointer none] 94)) wx ∧ UpW w i)
 case first =>
  go_region_held3 (fun W => W.cell? ⟨w.heap.size, 0, none⟩ = some (.pointer (some ⟨g, 0, none⟩)) ∧ W.cell? ⟨w.heap.size, 1, none⟩ = some (.pointer (some ⟨k, 0, none⟩)) ∧ W.cell? ⟨w.heap.size + 1, 0, none⟩ = some (.pointer (some ⟨g', 0, none⟩)) ∧ W.cell? ⟨w.heap.size + 1, 1, none⟩ = some (.pointer (some ⟨k', 0, none⟩))) (refine ⟨?_, ?_, ?_, ?_⟩ <;> (first | exact Bk.cell BkC.out rfl | (simp [go_sem]; done))) (first | (go_at_call 124; (with_reducible refine Calls.mono (erMulC (by decide) (by decide)) ?_); rintro e wc ⟨rfl, _, _⟩) | (go_at_call 119; (with_reducible refine Calls.mono (erSubC (by decide) (by decide)) ?_); rintro e wc ⟨rfl, _, _⟩) | (go_at_call 143; (with_reducible refine Calls.mono (erAddC (by decide) (by decide)) ?_); rintro e wc ⟨rfl, _, _⟩))
  all_goals (go_wp2_with fail; go_meet; exact ⟨_, rfl, inferInstance, ⟨Gr.out⟩, ⟨LeN.le⟩⟩)
 case rest =>
  obtain ⟨i, rfl, i1, k1, u1⟩ := hcut; go_upto_region 2 with fail
  go_cut [6] from 21 to 34 (fun s wx => ∃ j, s = .pointer (some ⟨j, 0, none⟩) ∧ RaC 125 wx j (x * y' + y * x') ∧ Kp0 wc wx ∧ UpW wc j)
  case first =>
   go_region_held3 (fun W => W.cell? ⟨w.heap.size, 0, none⟩ = some (.pointer (some ⟨g, 0, none⟩)) ∧ W.cell? ⟨w.heap.size, 1, none⟩ = some (.pointer (some ⟨k, 0, none⟩)) ∧ W.cell? ⟨w.heap.size + 1, 0, none⟩ = some (.pointer (some ⟨g', 0, none⟩)) ∧ W.cell? ⟨w.heap.size + 1, 1, none⟩ = some (.pointer (some ⟨k', 0, none⟩))) (refine ⟨?_, ?_, ?_, ?_⟩ <;> (first | exact Bk.cell BkC.out rfl | (simp [go_sem]; done))) (first | (go_at_call 124; (with_reducible refine Calls.mono (erMulC (by decide) (by decide)) ?_); rintro e wc ⟨rfl, _, _⟩) | (go_at_call 119; (with_reducible refine Calls.mono (erSubC (by decide) (by decide)) ?_); rintro e wc ⟨rfl, _, _⟩) | (go_at_call 143; (with_reducible refine Calls.mono (erAddC (by decide) (by decide)) ?_); rintro e wc ⟨rfl, _, _⟩))
   all_goals (go_wp2_with fail; go_meet; exact ⟨_, rfl, inferInstance, ⟨Gr.out⟩, ⟨LeN.le⟩⟩)
  case rest =>
   obtain ⟨j, rfl, i2, k2, u2⟩ := hcut; go_wp2_with fail
   refine ret_cell rfl rfl rfl (by rfl) (by rfl) (by rfl) ?_
   exact ⟨_, _, rfl, inferInstance, inferInstance, ⟨Gr.out⟩, u1, ⟨Up.out⟩, inferInstance⟩
theorem reTimesC {w : World} {g k g' k' : Nat} {x y x' y' : _root_.Rat} {L M L' M' : Nat} [hx : RaC 125 w g x] [hy : RaC 125 w k y] [hx' : RaC 125 w g' x'] [hy' : RaC 125 w k' y'] [sx : SmC x L] [sy : SmC y M] [sx' : SmC x' L'] [sy' : SmC y' M'] (h1 : L ≤ 4294967296) (h2 : M ≤ 4294967296) (h3 : L' ≤ 4294967296) (h4 : M' ≤ 4294967296) :
 Calls Tryz.prog 95 #[.agg #[.pointer (some ⟨g, 0, none⟩), .pointer (some ⟨k, 0, none⟩)], .agg #[.pointer (some ⟨g', 0, none⟩), .pointer (some ⟨k', 0, none⟩)]] w fun e w' => ∃ i j, e = .returned (.agg #[.pointer (some ⟨i, 0, none⟩), .pointer (some ⟨j, 0, none⟩)]) ∧ RaC 125 w' i (x * x' - y * y') ∧ RaC 125 w' j (x * y' + y * x') ∧ Kp0 w w' ∧ UpW w i ∧ UpW w j ∧ NeN i j := reTimes (sx := ⟨sx.out.mono h1⟩) (sy := ⟨sy.out.mono h2⟩) (sx' := ⟨sx'.out.mono h3⟩) (sy' := ⟨sy'.out.mono h4⟩)
theorem reFloat {w : World} {a : Nat} (ha : a < 18446744073709551616) (fa : fexp a ≠ 2047) :
 Calls Tryz.prog 110 #[.float .f64 a] w fun e w' => ∃ i, e = .returned (.pointer (some ⟨i, 0, none⟩)) ∧ RaC 125 w' i (frat a) ∧ Kp0 w w' := by
 go_enter Tryz.func110, Tryz.ntmps110; go_wp2_with (first | (go_at_call 160; (with_reducible refine Calls.mono (eFloatC ha fa) ?_); rintro e wc ⟨rfl, _, _⟩))
 go_ret
 exact ⟨_, rfl, inferInstance, ⟨Gr.out⟩⟩
theorem reExact {w : World} {a b : Nat} (ha : a < 18446744073709551616) (hb : b < 18446744073709551616) (fa : fexp a ≠ 2047) (fb : fexp b ≠ 2047) :
 Calls Tryz.prog 61 #[.complex .f64 a b] w fun e w' => ∃ i j, e = .returned (.agg #[.pointer (some ⟨i, 0, none⟩), .pointer (some ⟨j, 0, none⟩)]) ∧ RaC 125 w' i (frat a) ∧ RaC 125 w' j (frat b) ∧ Kp0 w w' := by
 go_enter Tryz.func61, Tryz.ntmps61; go_wp2_with (first | (go_at_call 110; (with_reducible refine Calls.mono (reFloat ha fa) ?_); rintro e wc ⟨_, rfl, _, _⟩) | (go_at_call 110; (with_reducible refine Calls.mono (reFloat hb fb) ?_); rintro e wc ⟨_, rfl, _, _⟩))
 refine ret_cell rfl rfl rfl (by rfl) (by rfl) (by rfl) ?_
 exact ⟨_, _, rfl, inferInstance, inferInstance, ⟨Gr.out⟩⟩
section
variable (P : Program) (w : World) (a : Addr) (m : Mode)
@[go_sem] theorem run_store_func (f : Fn) (b c : Array Value) : (store a (.func f b c) m).run P w = stored P w a (.func f b c) m := run_store P w a _ m rfl
@[go_sem] theorem run_store_float (k : FloatKind) (b : Nat) : (store a (.float k b) m).run P w = stored P w a (.float k b) m := run_store P w a _ m rfl
@[go_sem] theorem run_store_complex (k : FloatKind) (b c : Nat) : (store a (.complex k b c) m).run P w = stored P w a (.complex k b c) m := run_store P w a _ m rfl
end
instance neT_31_33 : NeT 31 33 := ⟨by decide⟩
instance neT_31_80 : NeT 31 80 := ⟨by decide⟩
instance neT_31_82 : NeT 31 82 := ⟨by decide⟩
instance neT_31_92 : NeT 31 92 := ⟨by decide⟩
instance neT_31_94 : NeT 31 94 := ⟨by decide⟩
instance neT_31_174 : NeT 31 174 := ⟨by decide⟩
instance neT_33_31 : NeT 33 31 := ⟨by decide⟩
instance neT_33_80 : NeT 33 80 := ⟨by decide⟩
instance neT_33_82 : NeT 33 82 := ⟨by decide⟩
instance neT_33_92 : NeT 33 92 := ⟨by decide⟩
instance neT_33_94 : NeT 33 94 := ⟨by decide⟩
instance neT_33_174 : NeT 33 174 := ⟨by decide⟩
instance neT_80_31 : NeT 80 31 := ⟨by decide⟩
instance neT_80_33 : NeT 80 33 := ⟨by decide⟩
instance neT_80_82 : NeT 80 82 := ⟨by decide⟩
instance neT_80_92 : NeT 80 92 := ⟨by decide⟩
instance neT_80_94 : NeT 80 94 := ⟨by decide⟩
instance neT_80_174 : NeT 80 174 := ⟨by decide⟩
instance neT_82_31 : NeT 82 31 := ⟨by decide⟩
instance neT_82_33 : NeT 82 33 := ⟨by decide⟩
instance neT_82_80 : NeT 82 80 := ⟨by decide⟩
instance neT_82_92 : NeT 82 92 := ⟨by decide⟩
instance neT_82_94 : NeT 82 94 := ⟨by decide⟩
instance neT_82_174 : NeT 82 174 := ⟨by decide⟩
instance neT_92_31 : NeT 92 31 := ⟨by decide⟩
instance neT_92_33 : NeT 92 33 := ⟨by decide⟩
instance neT_92_80 : NeT 92 80 := ⟨by decide⟩
instance neT_92_82 : NeT 92 82 := ⟨by decide⟩
instance neT_92_94 : NeT 92 94 := ⟨by decide⟩
instance neT_92_174 : NeT 92 174 := ⟨by decide⟩
instance neT_94_31 : NeT 94 31 := ⟨by decide⟩
instance neT_94_33 : NeT 94 33 := ⟨by decide⟩
instance neT_94_80 : NeT 94 80 := ⟨by decide⟩
instance neT_94_82 : NeT 94 82 := ⟨by decide⟩
instance neT_94_92 : NeT 94 92 := ⟨by decide⟩
instance neT_94_174 : NeT 94 174 := ⟨by decide⟩
instance neT_174_31 : NeT 174 31 := ⟨by decide⟩
instance neT_174_33 : NeT 174 33 := ⟨by decide⟩
instance neT_174_80 : NeT 174 80 := ⟨by decide⟩
instance neT_174_82 : NeT 174 82 := ⟨by decide⟩
instance neT_174_92 : NeT 174 92 := ⟨by decide⟩
instance neT_174_94 : NeT 174 94 := ⟨by decide⟩
instance (priority := 950) bkC_setT (w : World) (g n i : Nat) (x : Value) (L L' : List Value) (T T' : Nat) [h : BkC w g L T] [k : BkC w n L' T'] [t : NeT T T'] : BkC (w.setCell ⟨n, i, none⟩ x) g L T := ⟨⟨(block_ne _ _ _ _ _ (h.out.ne k.out (Ne.symm t.out))).trans h.out.1, h.out.2⟩⟩
instance (priority := 950) bkC_kpT (W w' : World) (g n : Nat) (L L' : List Value) (T T' : Nat) [k : Kp1 W n w'] [h : BkC W g L T] [b : BkC W n L' T'] [t : NeT T T'] : BkC w' g L T := ⟨h.out.keep k.out (Nat.le_refl _) (by simpa using h.out.ne b.out (Ne.symm t.out))⟩
def divD (x y : _root_.Rat) : _root_.Rat := x * x + y * y
def divX (x y x' y' : _root_.Rat) : _root_.Rat := (x * x' + y * y') / divD x' y'
def divY (x y x' y' : _root_.Rat) : _root_.Rat := (y * x' - x * y') / divD x' y'
theorem div_D (x y : _root_.Rat) : x * x - y * -y = divD x y := by unfold divD; grind
theorem div_X (x y x' y' : _root_.Rat) : x * x' - y * -y' = x * x' + y * y' := by grind
theorem div_Y (x y x' y' : _root_.Rat) : x * -y' + y * x' = y * x' - x * y' := by grind
theorem smC_div {x y : _root_.Rat} {L M : Nat} [h : SmC x L] [k : SmC y M] (h0 : y.num ≠ 0) : SmC (x / y) (L + M) := ⟨h.out.div k.out h0⟩
theorem num_sign {x : _root_.Rat} (h : x.num ≠ 0) : x.num.sign ≠ 0 := by rw [ne_eq, Int.sign_eq_zero_iff_zero]; exact h
theorem gaSignC {w : World} {g : Nat} {x : _root_.Rat} [hx : RaC 88 w g x] : Calls Tryz.prog 85 #[.pointer (some ⟨g, 0, none⟩)] w fun e w' => e = .returned (.int .i64 x.num.sign) ∧ w' = w := brsign g x w hx.out
theorem reSignC {w : World} {g : Nat} {x : _root_.Rat} [hx : RaC 125 w g x] : Calls Tryz.prog 97 #[.pointer (some ⟨g, 0, none⟩)] w fun e w' => e = .returned (.int .i64 x.num.sign) ∧ w' = w := ersign g x w hx.out
theorem gaOver {w : World} {g q k : Nat} {x y : _root_.Rat} {L M : Nat} [hx : RaC 88 w g x] [hq : BkC w q [.pointer (some ⟨k, 0, none⟩)] 80] [hy : RaC 88 w k y] [sx : SmC x L] [sy : SmC y M] [hv : VrB w] (h1 : L ≤ 34359738368) (h2 : M ≤ 34359738368) (h0 : y.num ≠ 0) :
 Calls Tryz.prog 86 #[.pointer (some ⟨g, 0, none⟩), .pointer (some ⟨q, 0, none⟩)] w fun e w' => ∃ i, e = .returned (.pointer (some ⟨i, 0, none⟩)) ∧ RaC 88 w' i (x / y) ∧ Kp0 w w' := by
 have c0 := hq.out.cell (i := 0) rfl; go_enter Tryz.func86, Tryz.ntmps86; go_wp2_with ((go_at_call 87; (with_reducible refine Calls.mono (brQuoC h1 h2 h0) ?_); rintro e wc ⟨rfl, _, _⟩))
 go_ret
 exact ⟨_, rfl, inferInstance, ⟨Gr.out⟩⟩
theorem gaDivZero {a b c d a' b' c' d' : ByteArray} {w : World} [sa : SzC a] [sb : SzC b] [sc : SzC c] [sd : SzC d] [sa' : SzC a'] [sb' : SzC b'] [sc' : SzC c'] [sd' : SzC d'] [hv : VrB w] (h1 : checkE a b c d = 0) (h2 : checkE a' b' c' d' = 0) (h0 : (divD (rval a' b') (rval c' d')).num = 0) :
 Calls Tryz.prog 38 #[.agg #[.string a, .string b, .string c, .string d], .agg #[.string a', .string b', .string c', .string d']] w fun e w' => e = .returned (.tuple #[.agg #[.string ⟨#[]⟩, .string ⟨#[]⟩, .string ⟨#[]⟩, .string ⟨#[]⟩], .int .i64 31]) ∧ Kp0 w w' := by
 obtain ⟨s1, s2⟩ := smC_rval h1; obtain ⟨s3, s4⟩ := smC_rval h2; obtain ⟨D, hD⟩ : ∃ D, D = divD (rval a' b') (rval c' d') := ⟨_, rfl⟩; have HD := hid hD; have SG := hid (fun (v : World) (g : Nat) (h : RaC 88 v g D) => gaSignC (hx := h))
 rw [← hD] at h0; rw [show D.num.sign = 0 by rw [h0]; rfl] at SG
 clear hD; go_enter Tryz.func38, Tryz.ntmps38; go_wp2_with (first | (go_at_call 83; (with_reducible refine Calls.mono (gaTwoOk (a := a) (b := b) (c := c) (d := d) (a' := a') (b' := b') (c' := c') (d' := d') h1 h2) ?_); rintro e wa ⟨i, j, i', j', rfl, _, _, _, _, _⟩) | (go_at_call 84; (with_reducible refine Calls.mono (gaNormC (by decide) (by decide)) ?_); rintro e wb ⟨q, rfl, hq, _⟩; rw [div_D, ← HD.out] at hq; haveI := hq) | (go_at_call 85; (with_reducible refine (SG.out _ _ inferInstance).mono ?_); rintro e w' ⟨rfl, hw⟩; obtain rfl := hw.symm))
 refine ret_cell_tmp rfl rfl rfl (by rfl) (by rfl) (by rfl) ?_
 exact ⟨rfl, ⟨Gr.out⟩⟩
theorem gaDivOk {a b c d a' b' c' d' : ByteArray} {w : World} [sa : SzC a] [sb : SzC b] [sc : SzC c] [sd : SzC d] [sa' : SzC a'] [sb' : SzC b'] [sc' : SzC c'] [sd' : SzC d'] [hv : VrB w] (h1 : checkE a b c d = 0) (h2 : checkE a' b' c' d' = 0) (h0 : (divD (rval a' b') (rval c' d')).num ≠ 0) :
 Calls Tryz.prog 38 #[.agg #[.string a, .string b, .string c, .string d], .agg #[.string a', .string b', .string c', .string d']] w fun e w' => e = .returned (.tuple #[.agg #[.string (tS (divX (rval a b) (rval c d) (rval a' b') (rval c' d')) (divY (rval a b) (rval c d) (rval a' b') (rval c' d')) (strN (divX (rval a b) (rval c d) (rval a' b') (rval c' d')).num)), .string (tS (divX (rval a b) (rval c d) (rval a' b') (rval c' d')) (divY (rval a b) (rval c d) (rval a' b') (rval c' d')) (strN (divX (rval a b) (rval c d) (rval a' b') (rval c' d')).den)), .string (tS (divX (rval a b) (rval c d) (rval a' b') (rval c' d')) (divY (rval a b) (rval c d) (rval a' b') (rval c' d')) (strN (divY (rval a b) (rval c d) (rval a' b') (rval c' d')).num)), .string (tS (divX (rval a b) (rval c d) (rval a' b') (rval c' d')) (divY (rval a b) (rval c d) (rval a' b') (rval c' d')) (strN (divY (rval a b) (rval c d) (rval a' b') (rval c' d')).den))], .int .i64 (toldE (divX (rval a b) (rval c d) (rval a' b') (rval c' d')) (divY (rval a b) (rval c d) (rval a' b') (rval c' d')))]) ∧ Kp0 w w' := by
 obtain ⟨s1, s2⟩ := smC_rval h1; obtain ⟨s3, s4⟩ := smC_rval h2; obtain ⟨D, hD⟩ : ∃ D, D = divD (rval a' b') (rval c' d') := ⟨_, rfl⟩; have HD := hid hD; have SG := hid (fun (v : World) (g : Nat) (h : RaC 88 v g D) => gaSignC (hx := h))
 have sD : ∃ L, L ≤ 1000000 ∧ SmC D L := ⟨2 * ((16384 + 16384) + (16384 + 16384)) + 1, by decide, by rw [hD]; exact ⟨(((s3.out.mul s3.out).add (s4.out.mul s4.out)))⟩⟩
 obtain ⟨LD, hLD, sD⟩ := sD; have hs : ¬ D.num.sign = 0 := by rw [hD]; exact num_sign h0
 have b1 : (D.num.sign == 0) = false := beq_eq_false_iff_ne.2 hs; rw [← hD] at h0; have HX : Hid (divX (rval a b) (rval c d) (rval a' b') (rval c' d') = ((rval a b) * (rval a' b') + (rval c d) * (rval c' d')) / D) := hid (by rw [hD]; rfl)
 have HY : Hid (divY (rval a b) (rval c d) (rval a' b') (rval c' d') = ((rval c d) * (rval a' b') - (rval a b) * (rval c' d')) / D) := hid (by rw [hD]; rfl)
 rw [HX.out, HY.out]; clear hD; haveI q1 := smC_div (x := (rval a b) * (rval a' b') + (rval c d) * (rval c' d')) h0; haveI q2 := smC_div (x := (rval c d) * (rval a' b') - (rval a b) * (rval c' d')) h0; have H0 := hid h0; clear h0 hs; go_enter Tryz.func38, Tryz.ntmps38; go_upto_region 8 with (first | (go_at_call 83; (with_reducible refine Calls.mono (gaTwoOk (a := a) (b := b) (c := c) (d := d) (a' := a') (b' := b') (c' := c') (d' := d') h1 h2) ?_); rintro e wa ⟨i, j, i', j', rfl, _, _, _, _, _⟩) | (go_at_call 84; (with_reducible refine Calls.mono (gaNormC (by decide) (by decide)) ?_); rintro e wb ⟨q, rfl, hq, _⟩; rw [div_D, ← HD.out] at hq; haveI := hq) | (go_at_call 85; (with_reducible refine (SG.out _ _ inferInstance).mono ?_); rintro e w' ⟨rfl, hw⟩; obtain rfl := hw.symm))
 go_cut [11] from 30 to 33 (fun s wx => ∃ m i j, s = .pointer (some ⟨m, 0, none⟩) ∧ BkC wx m [.pointer (some ⟨i, 0, none⟩), .pointer (some ⟨j, 0, none⟩)] 82 ∧ RaC 88 wx i ((rval a b) * (rval a' b') + (rval c d) * (rval c' d')) ∧ RaC 88 wx j ((rval c d) * (rval a' b') - (rval a b) * (rval c' d')) ∧ RaC 88 wx q D ∧ BkC wx wb.heap.size [.pointer (some ⟨q, 0, none⟩)] 80 ∧ BkC wx (w.heap.size + 1 + 1) [.string ⟨#[]⟩, .string ⟨#[]⟩, .string ⟨#[]⟩, .string ⟨#[]⟩] 33 ∧ Gr w wx)
 case first =>
  go_region_held3 (fun W => W.cell? ⟨wa.heap.size, 0, none⟩ = some (.pointer (some ⟨i, 0, none⟩)) ∧ W.cell? ⟨wa.heap.size, 1, none⟩ = some (.pointer (some ⟨j, 0, none⟩)) ∧ W.cell? ⟨wa.heap.size + 1, 0, none⟩ = some (.pointer (some ⟨i', 0, none⟩)) ∧ W.cell? ⟨wa.heap.size + 1, 1, none⟩ = some (.pointer (some ⟨j', 0, none⟩))) (refine ⟨?_, ?_, ?_, ?_⟩ <;> (first | exact Bk.cell BkC.out rfl | (simp [go_sem]; done))) (first | (go_at_call 88; (with_reducible refine Calls.mono (gaConjC (by decide) (by decide)) ?_); rintro e wc ⟨_, _, rfl, _, _, _⟩) | (go_at_call 55; (with_reducible refine Calls.mono (gaMulC (by decide) (by decide) (by decide) (by decide)) ?_); rintro e wc ⟨_, _, rfl, hx5, hy5, _⟩; rw [div_X] at hx5; rw [div_Y] at hy5; haveI := hx5; haveI := hy5))
  all_goals (go_wp2_with fail; go_meet; exact ⟨_, _, _, rfl, inferInstance, inferInstance, inferInstance, inferInstance, inferInstance, inferInstance, inferInstance⟩)
 case rest =>
  obtain ⟨m, i2, j2, rfl, ib, ix, iy, iq, iqb, iz, ig⟩ := hcut; have z0 := iz.out.cell (i := 0) rfl; have f0 := iz.out.free 0; have z1 := iz.out.cell (i := 1) rfl; have f1 := iz.out.free 1; have z2 := iz.out.cell (i := 2) rfl; have f2 := iz.out.free 2; have z3 := iz.out.cell (i := 3) rfl; have f3 := iz.out.free 3; go_wp2_with fail
  go_region_held3 (fun W => W.cell? ⟨m, 0, none⟩ = some (.pointer (some ⟨i2, 0, none⟩)) ∧ W.cell? ⟨m, 1, none⟩ = some (.pointer (some ⟨j2, 0, none⟩))) (refine ⟨?_, ?_⟩ <;> (first | exact Bk.cell BkC.out rfl | (simp [go_sem]; done))) (first | (go_at_call 86; (with_reducible refine Calls.mono (gaOver (hv := ⟨VrC.out⟩) (by decide) (Nat.le_trans hLD (by decide)) H0.out) ?_); rintro e wc ⟨_, rfl, _, _⟩) | (go_at_call 57; (with_reducible refine Calls.mono (gaToldC (Nat.le_trans (Nat.add_le_add_left hLD _) (by decide)) (Nat.le_trans (Nat.add_le_add_left hLD _) (by decide))) ?_); rintro e wc ⟨rfl, _⟩))
  all_goals (go_wp2_with fail)
  all_goals (refine ret_cell_tmp rfl rfl rfl (by rfl) (by rfl) (by rfl) ?_; exact ⟨rfl, ⟨Gr.out⟩⟩)
def srung (x : Nat) : Int := if x < 9223372036854775808 then (x : Int) else -((x - 9223372036854775808 : Nat) : Int)
def finB (x : Nat) : Bool := decide (x % 9223372036854775808 < 9218868437227405312)
theorem fread_any (x : Nat) (hx : x < 18446744073709551616) (h : x % 9223372036854775808 < 9218868437227405312) : ∃ (m : Nat) (p : Int), Ieee.double.read x = .number (decide (9223372036854775808 ≤ x)) m p ∧ Ieee.double.read (x % 9223372036854775808) = .number false m p := by
 have hs : (x / 9223372036854775808 % 2 == 1) = decide (9223372036854775808 ≤ x) := by
  by_cases h1 : 9223372036854775808 ≤ x
  · rw [decide_eq_true h1, show x / 9223372036854775808 = 1 by omega]; rfl
  · rw [decide_eq_false h1, show x / 9223372036854775808 = 0 by omega]; rfl
 have hs2 : (x % 9223372036854775808 / 9223372036854775808 % 2 == 1) = false := by
  rw [show x % 9223372036854775808 / 9223372036854775808 = 0 by omega]; rfl
 unfold Ieee.Format.read; simp only [D_sw, D_bin, D_inf, D_least]; rw [hs, hs2, Nat.mod_mod]; generalize x % 9223372036854775808 = y at *; by_cases h1 : y < 4503599627370496
 · rw [if_pos h1, if_pos h1]; exact ⟨_, _, rfl, rfl⟩
 · rw [if_neg h1, if_neg h1, if_pos h, if_pos h]; exact ⟨_, _, rfl, rfl⟩
def ordI (a b : Int) : Ordering := if a < b then .lt else if b < a then .gt else .eq
theorem int_compare (a b : Int) : compare a b = ordI a b := by
 simp only [compare, compareOfLessAndEq, ordI]; by_cases h : a < b
 · rw [if_pos h, if_pos h]
 · rw [if_neg h, if_neg h]; by_cases h2 : b < a
   · rw [if_neg (by omega), if_pos h2]
   · rw [if_pos (by omega), if_neg h2]
theorem forder2 (x y : Nat) (hx : x < 18446744073709551616) (hy : y < 18446744073709551616) (fx : x % 9223372036854775808 < 9218868437227405312) (fy : y % 9223372036854775808 < 9218868437227405312) : Ieee.double.order x y = some (ordI (srung x) (srung y)) := by
 obtain ⟨m, p, h1, h2⟩ := fread_any x hx fx; obtain ⟨n, q, k1, k2⟩ := fread_any y hy fy; have o := forder _ _ fx fy; have oz := forder _ _ fx (show 0 < 9218868437227405312 by decide)
 have zo := forder _ _ fy (show 0 < 9218868437227405312 by decide)
 rw [show Ieee.double.order (x % 9223372036854775808) 0 = some (compare (Ieee.signed false m (p - min p (-1074)).toNat) (Ieee.signed false 0 (-1074 - min p (-1074)).toNat)) by unfold Ieee.Format.order; rw [h2, fread_sub 0 (by decide)]; rfl] at oz
 rw [show Ieee.double.order (y % 9223372036854775808) 0 = some (compare (Ieee.signed false n (q - min q (-1074)).toNat) (Ieee.signed false 0 (-1074 - min q (-1074)).toNat)) by unfold Ieee.Format.order; rw [k2, fread_sub 0 (by decide)]; rfl] at zo
 unfold Ieee.Format.order at o ⊢; rw [h2, k2] at o; rw [h1, k1]; simp only [Ieee.Datum.order, Ieee.signed, Bool.false_eq_true, if_false, Option.some.injEq, int_compare, Nat.zero_shiftLeft] at o oz zo ⊢
 have hz : ∀ (a : Nat) (k : Nat), a <<< k = 0 ↔ a = 0 := fun a k => by
  rw [Nat.shiftLeft_eq, Nat.mul_eq_zero]; exact ⟨fun h => h.resolve_right (Nat.pos_iff_ne_zero.1 (Nat.pow_pos (by decide))), Or.inl⟩
 have z1 := hz m (p - min p (-1074)).toNat; have z2 := hz m (p - min p q).toNat; have z3 := hz n (q - min q (-1074)).toNat; have z4 := hz n (q - min p q).toNat; generalize m <<< (p - min p q).toNat = A at *; generalize n <<< (q - min p q).toNat = B at *; generalize m <<< (p - min p (-1074)).toNat = A' at *; generalize n <<< (q - min q (-1074)).toNat = B' at *
 have oA : A = 0 ↔ x % 9223372036854775808 = 0 := by
  rw [z2, ← z1]; unfold ordI at oz
  constructor
  · intro h; rw [h, if_neg (by omega), if_neg (by omega)] at oz
    by_cases hh : x % 9223372036854775808 = 0
    · exact hh
    · rw [if_neg (by omega), if_pos (by omega)] at oz; cases oz
  · intro h; rw [h] at oz; simp only [Nat.lt_irrefl, if_false] at oz; by_cases hh : A' = 0
    · exact hh
    · rw [if_neg (by omega), if_pos (by omega)] at oz; cases oz
 have oB : B = 0 ↔ y % 9223372036854775808 = 0 := by
  rw [z4, ← z3]; unfold ordI at zo
  constructor
  · intro h; rw [h, if_neg (by omega), if_neg (by omega)] at zo
    by_cases hh : y % 9223372036854775808 = 0
    · exact hh
    · rw [if_neg (by omega), if_pos (by omega)] at zo; cases zo
  · intro h; rw [h] at zo; simp only [Nat.lt_irrefl, if_false] at zo; by_cases hh : B' = 0
    · exact hh
    · rw [if_neg (by omega), if_pos (by omega)] at zo; cases zo
 have oAB : (A < B ↔ x % 9223372036854775808 < y % 9223372036854775808) ∧ (B < A ↔ y % 9223372036854775808 < x % 9223372036854775808) := by
  unfold ordI at o; rcases Nat.lt_trichotomy A B with h | h | h
  · rw [if_pos (by omega)] at o
    by_cases hh : x % 9223372036854775808 < y % 9223372036854775808
    · omega
    · rw [if_neg hh] at o; split at o <;> cases o
  · rw [if_neg (by omega), if_neg (by omega)] at o
    by_cases hh : x % 9223372036854775808 < y % 9223372036854775808
    · rw [if_pos hh] at o; cases o
    · rw [if_neg hh] at o; by_cases h3 : y % 9223372036854775808 < x % 9223372036854775808
      · rw [if_pos h3] at o; cases o
      · omega
  · rw [if_neg (by omega), if_pos (by omega)] at o
    by_cases hh : x % 9223372036854775808 < y % 9223372036854775808
    · rw [if_pos hh] at o; cases o
    · rw [if_neg hh] at o; by_cases h3 : y % 9223372036854775808 < x % 9223372036854775808
      · omega
      · rw [if_neg h3] at o; cases o
 clear o oz zo z1 z2 z3 z4 hz h1 h2 k1 k2; unfold srung
 have e : ∀ (a b c d : Int), ((a < b) ↔ (c < d)) → ((b < a) ↔ (d < c)) → ordI a b = ordI c d := fun a b c d h1 h2 => by
  unfold ordI; by_cases g : a < b
  · rw [if_pos g, if_pos (h1.1 g)]
  · rw [if_neg g, if_neg (fun h => g (h1.2 h))]
    by_cases g2 : b < a
    · rw [if_pos g2, if_pos (h2.1 g2)]
    · rw [if_neg g2, if_neg (fun h => g2 (h2.2 h))]
 by_cases hx1 : x < 9223372036854775808 <;> by_cases hy1 : y < 9223372036854775808
 · rw [if_pos hx1, if_pos hy1, decide_eq_false (by omega), decide_eq_false (by omega)]
   simp only [Bool.false_eq_true, if_false]; rw [Nat.mod_eq_of_lt hx1, Nat.mod_eq_of_lt hy1] at oAB; exact e _ _ _ _ (by omega) (by omega)
 · rw [if_pos hx1, if_neg hy1, decide_eq_false (by omega), decide_eq_true (by omega)]
   simp only [Bool.false_eq_true, if_false, if_true]; exact e _ _ _ _ (by omega) (by omega)
 · rw [if_neg hx1, if_pos hy1, decide_eq_true (by omega), decide_eq_false (by omega)]
   simp only [Bool.false_eq_true, if_false, if_true]; exact e _ _ _ _ (by omega) (by omega)
 · rw [if_neg hx1, if_neg hy1, decide_eq_true (by omega), decide_eq_true (by omega)]
   simp only [if_true]; exact e _ _ _ _ (by omega) (by omega)
theorem fread_inf (x : Nat) (hx : x < 18446744073709551616) (h : x % 9223372036854775808 = 9218868437227405312) : Ieee.double.read x = .infinity (decide (9223372036854775808 ≤ x)) := by
 have hs : (x / 9223372036854775808 % 2 == 1) = decide (9223372036854775808 ≤ x) := by
  by_cases h1 : 9223372036854775808 ≤ x
  · rw [decide_eq_true h1, show x / 9223372036854775808 = 1 by omega]; rfl
  · rw [decide_eq_false h1, show x / 9223372036854775808 = 0 by omega]; rfl
 unfold Ieee.Format.read; simp only [D_sw, D_bin, D_inf, D_least]; rw [hs, h]; rfl
theorem fread_nan (x : Nat) (h : 9218868437227405312 < x % 9223372036854775808) : ∃ s f, Ieee.double.read x = .nan s f := by
 unfold Ieee.Format.read; simp only [D_sw, D_bin, D_inf, D_least]; rw [if_neg (by omega), if_neg (by omega), if_neg (by omega)]
 exact ⟨_, _, rfl⟩
theorem order_nan {x y : Nat} (h : ∃ s f, Ieee.double.read x = .nan s f) : Ieee.double.order x y = none := by
 obtain ⟨s, f, h⟩ := h; unfold Ieee.Format.order; rw [h]; rfl
theorem order_inf {x y : Nat} {s : Bool} (h : Ieee.double.read x = .infinity s) (hy : y < 18446744073709551616) (fy : y % 9223372036854775808 < 9218868437227405312) : Ieee.double.order x y = some (if s then .lt else .gt) := by
 obtain ⟨m, p, k, -⟩ := fread_any y hy fy; unfold Ieee.Format.order; rw [h, k]; rfl
theorem fle_abs (z c : Nat) (hz : z < 9223372036854775808) (hc : c < 9218868437227405312) : (Ieee.double.order z c == some .lt || Ieee.double.order z c == some .eq) = decide (z ≤ c) := by
 rcases Nat.lt_trichotomy z 9218868437227405312 with h | h | h
 · rw [forder z c h hc]; by_cases h1 : z < c
   · rw [if_pos h1, decide_eq_true (by omega)]; rfl
   · rw [if_neg h1]; by_cases h2 : c < z
     · rw [if_pos h2, decide_eq_false (by omega)]; rfl
     · rw [if_neg h2, decide_eq_true (by omega)]; rfl
 · rw [order_inf (fread_inf z (by omega) (by omega)) (by omega) (by omega), decide_eq_false (show ¬ 9223372036854775808 ≤ z by omega), decide_eq_false (by omega)]
   rfl
 · rw [order_nan (fread_nan z (by omega)), decide_eq_false (by omega)]
   rfl
theorem fge_abs (z c : Nat) (hz : z < 9223372036854775808) (hc : c < 9218868437227405312) : (Ieee.double.order z c == some .gt || Ieee.double.order z c == some .eq) = decide (c ≤ z ∧ z ≤ 9218868437227405312) := by
 rcases Nat.lt_trichotomy z 9218868437227405312 with h | h | h
 · rw [forder z c h hc]; by_cases h1 : z < c
   · rw [if_pos h1, decide_eq_false (by omega)]; rfl
   · rw [if_neg h1]; by_cases h2 : c < z
     · rw [if_pos h2, decide_eq_true (by omega)]; rfl
     · rw [if_neg h2, decide_eq_true (by omega)]; rfl
 · rw [order_inf (fread_inf z (by omega) (by omega)) (by omega) (by omega), decide_eq_false (show ¬ 9223372036854775808 ≤ z by omega), decide_eq_true (by omega)]
   rfl
 · rw [order_nan (fread_nan z (by omega)), decide_eq_false (by omega)]
   rfl
theorem feq_zero (x : Nat) (hx : x < 18446744073709551616) : (Ieee.double.order x 0 == some .eq) = decide (x % 9223372036854775808 = 0) := by
 rcases Nat.lt_trichotomy (x % 9223372036854775808) 9218868437227405312 with h | h | h
 · rw [forder2 x 0 hx (by decide) h (by decide), show srung 0 = 0 by decide]
   have e : srung x = 0 ↔ x % 9223372036854775808 = 0 := by unfold srung; split <;> omega
   unfold ordI; by_cases h0 : x % 9223372036854775808 = 0
   · rw [if_neg (by have := e.2 h0; omega), if_neg (by have := e.2 h0; omega), decide_eq_true h0]; rfl
   · rw [decide_eq_false h0]; by_cases h1 : srung x < 0
     · rw [if_pos h1]; rfl
     · rw [if_neg h1, if_pos (by have := fun h => h0 (e.1 h); omega)]; rfl
 · rw [order_inf (fread_inf x hx h) (by decide) (by decide), decide_eq_false (show ¬ x % 9223372036854775808 = 0 by omega)]
   cases decide (9223372036854775808 ≤ x) <;> rfl
 · rw [order_nan (fread_nan x h), decide_eq_false (show ¬ x % 9223372036854775808 = 0 by omega)]
   rfl
theorem fexp_fin {x : Nat} (h : finB x = true) : fexp x ≠ 2047 := by
 unfold finB at h; rw [decide_eq_true_eq] at h; unfold fexp; omega
theorem gaFin {x : Nat} {w : World} (hx : x < 18446744073709551616) :
 Calls Tryz.prog 77 #[.float .f64 x] w fun e w' => e = .returned (.bool (finB x)) ∧ w' = w := by
 have A := fabs_any x hx; have H := hid (fle_abs (x % 9223372036854775808) 9218868437227405311 (Nat.mod_lt _ (by decide)) (by decide))
 go_enter Tryz.func77, Tryz.ntmps77; go_wp2_with (go_at_call 127; (with_reducible refine (A _).mono ?_); rintro e w' ⟨rfl, hw⟩; obtain rfl := hw.symm)
 go_ret
 refine ⟨?_, rfl⟩
 show Ending.returned (.bool (Ieee.double.order (x % 9223372036854775808) 9218868437227405311 == some .lt || Ieee.double.order (x % 9223372036854775808) 9218868437227405311 == some .eq)) = _
 rw [H.out]; unfold finB
 congr 2
 exact decide_eq_decide.2 (by omega)
theorem gaFinC {a b : Nat} {w : World} (ha : a < 18446744073709551616) (hb : b < 18446744073709551616) :
 Calls Tryz.prog 53 #[.complex .f64 a b] w fun e w' => e = .returned (.bool (finB a && finB b)) ∧ w' = w := by
 have A := hid (fun v : World => gaFin (w := v) ha)
 have B := hid (fun v : World => gaFin (w := v) hb)
 cases hc : finB a with
 | true =>
   rw [hc] at A; go_enter Tryz.func53, Tryz.ntmps53; go_wp2_with (first | (go_at_call 77; (with_reducible refine (A.out _).mono ?_); rintro e w' ⟨rfl, hw⟩; obtain rfl := hw.symm) | (go_at_call 77; (with_reducible refine (B.out _).mono ?_); rintro e w' ⟨rfl, hw⟩; obtain rfl := hw.symm))
   go_ret
   exact ⟨rfl, rfl⟩
 | false =>
   rw [hc] at A; go_enter Tryz.func53, Tryz.ntmps53; go_wp2_with (go_at_call 77; (with_reducible refine (A.out _).mono ?_); rintro e w' ⟨rfl, hw⟩; obtain rfl := hw.symm)
   go_ret
   exact ⟨rfl, rfl⟩
def Dy (E M : Nat) (x : _root_.Rat) : Prop := ∃ n : Int, x = mkRat n (2 ^ E) ∧ n.natAbs ≤ 2 ^ M
theorem two_ne (E : Nat) : (2 : Nat) ^ E ≠ 0 := Nat.pos_iff_ne_zero.1 (Nat.pow_pos (by decide))
theorem Dy.zero : Dy 0 0 0 := ⟨0, by rfl, by decide⟩
theorem Dy.mul {E M E' M' : Nat} {x y : _root_.Rat} (h : Dy E M x) (k : Dy E' M' y) : Dy (E + E') (M + M') (x * y) := by
 obtain ⟨n, rfl, hn⟩ := h; obtain ⟨m, rfl, hm⟩ := k; refine ⟨n * m, ?_, ?_⟩
 · rw [Rat.mkRat_mul_mkRat, Nat.pow_add]
 · rw [Int.natAbs_mul, Nat.pow_add]; exact Nat.mul_le_mul hn hm
theorem Dy.up {E M : Nat} {x : _root_.Rat} (h : Dy E M x) (k : Nat) : Dy (E + k) (M + k) x := by
 obtain ⟨n, rfl, hn⟩ := h; refine ⟨n * (2 ^ k : Nat), ?_, ?_⟩
 · rw [Nat.pow_add, Rat.mkRat_mul_right (two_ne k)]
 · rw [Int.natAbs_mul, Nat.pow_add]; exact Nat.mul_le_mul hn (by simp)
theorem Dy.mono {E M M' : Nat} {x : _root_.Rat} (h : Dy E M x) (hM : M ≤ M') : Dy E M' x := by
 obtain ⟨n, rfl, hn⟩ := h; exact ⟨n, rfl, Nat.le_trans hn (Nat.pow_le_pow_right (by decide) hM)⟩
theorem Dy.add {E M : Nat} {x y : _root_.Rat} (h : Dy E M x) (k : Dy E M y) : Dy E (M + 1) (x + y) := by
 obtain ⟨n, rfl, hn⟩ := h; obtain ⟨m, rfl, hm⟩ := k; refine ⟨n + m, ?_, ?_⟩
 · rw [Rat.mkRat_eq_div, Rat.mkRat_eq_div, Rat.mkRat_eq_div, Rat.intCast_add]
   grind
 · rw [Nat.pow_succ]; omega
theorem Dy.neg {E M : Nat} {x : _root_.Rat} (h : Dy E M x) : Dy E M (-x) := by
 obtain ⟨n, rfl, hn⟩ := h; refine ⟨-n, ?_, by omega⟩
 rw [Rat.mkRat_eq_div, Rat.mkRat_eq_div, Rat.intCast_neg]
 grind
theorem Dy.sub {E M : Nat} {x y : _root_.Rat} (h : Dy E M x) (k : Dy E M y) : Dy E (M + 1) (x - y) := by
 rw [Rat.sub_eq_add_neg]; exact h.add k.neg
theorem pow2_words {n M : Nat} (h : n ≤ 2 ^ M) : (words n).length ≤ M / 32 + 1 := by
 refine words_len_le ?_
 rw [show (4294967296 : Nat) = 2 ^ 32 from rfl, ← Nat.pow_mul]
 exact Nat.lt_of_le_of_lt h ((Nat.pow_lt_pow_iff_right (by decide)).2 (by omega))
theorem Dy.num {E M : Nat} {x : _root_.Rat} (h : Dy E M x) : (words x.num.natAbs).length ≤ M / 32 + 1 := by
 obtain ⟨n, rfl, hn⟩ := h; exact pow2_words (Nat.le_trans (mkRat_small n (2 ^ E) (two_ne E)).1 hn)
theorem Dy.den {E M : Nat} {x : _root_.Rat} (h : Dy E M x) : (words x.den).length ≤ E / 32 + 1 := by
 obtain ⟨n, rfl, hn⟩ := h; exact pow2_words (mkRat_small n (2 ^ E) (two_ne E)).2
theorem fnum_lt (b : Nat) : fnum b < 9007199254740992 := by unfold fnum fman; split <;> omega
theorem fpow_lt (b : Nat) : 1 ≤ fpow b ∧ fpow b ≤ 2047 := by unfold fpow fexp; split <;> omega
theorem sg_scale (b : Bool) (m k : Nat) : sg b m * ((k : Nat) : Int) = sg b (m * k) := by
 cases b
 · simp [sg]
 · simp [sg, Int.neg_mul]
theorem frat_dy (b : Nat) : Dy 1074 2099 (frat b) := by
 obtain ⟨M, hM⟩ : ∃ M, M = 2099 := ⟨_, rfl⟩; rw [← hM]; obtain ⟨h1, h2⟩ := fpow_lt b; have h3 := fnum_lt b; unfold frat; generalize fpow b = p at *; generalize fnum b = f at *; refine ⟨sg (fneg b) (f * 2 ^ (p - 1)), ?_, ?_⟩
 · rw [← Rat.mkRat_mul_right (two_ne (p - 1 - (p - 1075))) (n := sg (fneg b) (f * 2 ^ (p - 1075))), ← Nat.pow_add, sg_scale, Nat.mul_assoc, ← Nat.pow_add, show p - 1075 + (p - 1 - (p - 1075)) = p - 1 by omega, show 1075 - p + (p - 1 - (p - 1075)) = 1074 by omega]
 · rw [sg_abs, show M = 53 + (M - 53) by omega, Nat.pow_add]
   exact Nat.mul_le_mul (by omega) (Nat.pow_le_pow_right (by decide) (by omega))
instance smC_frat (b : Nat) : SmC (frat b) 100 := ⟨⟨Nat.le_trans (frat_dy b).num (by decide), Nat.le_trans (frat_dy b).den (by decide)⟩⟩
theorem smC_int {x : Int} (h1 : -9223372036854775808 ≤ x) (h2 : x < 9223372036854775808) : SmC (x : _root_.Rat) 100 := ⟨⟨by
 rw [int_num]; exact words_len_le (Nat.lt_of_le_of_lt (show x.natAbs ≤ 9223372036854775808 by omega) (Nat.lt_of_lt_of_le (show 9223372036854775808 < 4294967296 ^ 2 by decide) (Nat.pow_le_pow_right (by decide) (by decide)))), by
 rw [int_den, words_one]
 decide⟩⟩
theorem gaWhole {x y : Int} {w : World} (hx1 : -9223372036854775808 ≤ x) (hx2 : x < 9223372036854775808) (hy1 : -9223372036854775808 ≤ y) (hy2 : y < 9223372036854775808) :
 Calls Tryz.prog 31 #[.int .i64 x, .int .i64 y] w fun e w' => e = .returned (.agg #[.string (tS ((x : _root_.Rat)) ((y : _root_.Rat)) (strN ((x : _root_.Rat)).num)), .string (tS ((x : _root_.Rat)) ((y : _root_.Rat)) (strN ((x : _root_.Rat)).den)), .string (tS ((x : _root_.Rat)) ((y : _root_.Rat)) (strN ((y : _root_.Rat)).num)), .string (tS ((x : _root_.Rat)) ((y : _root_.Rat)) (strN ((y : _root_.Rat)).den))]) ∧ Kp0 w w' := by
 haveI := smC_int hx1 hx2; haveI := smC_int hy1 hy2; go_enter Tryz.func31, Tryz.ntmps31; go_wp2_with (first | (go_at_call 80; (with_reducible refine Calls.mono (bInt64C hx1 hx2) ?_); rintro e wc ⟨rfl, _, _⟩) | (go_at_call 80; (with_reducible refine Calls.mono (bInt64C hy1 hy2) ?_); rintro e wc ⟨rfl, _, _⟩) | (go_at_call 57; (with_reducible refine Calls.mono (gaToldC (by decide) (by decide)) ?_); rintro e wc ⟨rfl, _⟩))
 refine ret_cell rfl rfl rfl (by rfl) (by rfl) (by rfl) ?_
 exact ⟨rfl, ⟨Gr.out⟩⟩
theorem neg_add {F : Nat} (h : F < 9223372036854775808) : Op.negFloat .f64 F = F + 9223372036854775808 := by
 show F ^^^ 2 ^ 63 = _
 have e := Nat.two_pow_add_eq_or_of_lt (i := 63) (show F < 2 ^ 63 from h) 1
 rw [Nat.mul_one] at e; rw [show F + 9223372036854775808 = 2 ^ 63 + F by omega, e]
 refine Nat.eq_of_testBit_eq fun i => ?_
 rw [Nat.testBit_xor, Nat.testBit_or]; by_cases hi : i = 63
 · subst hi; rw [Nat.testBit_lt_two_pow (show F < 2 ^ 63 from h)]
   simp
 · rw [Nat.testBit_two_pow_of_ne (Ne.symm hi)]
   simp
theorem add_zero_f (x : Nat) (hx : x < 18446744073709551616) (fx : x % 9223372036854775808 < 9218868437227405312) : Ieee.double.add x 0 = some (if x % 9223372036854775808 = 0 then 0 else x) := by
 have rd : ∀ x, x < 9218868437227405312 → ∃ q m : Nat, Ieee.double.read x = .number false m (-1074 + (q : Int)) ∧ x = q * 4503599627370496 + m ∧ m < 9007199254740992 ∧ (0 < q → 4503599627370496 ≤ m) := by
  intro x hx; by_cases h : x < 4503599627370496
  · exact ⟨0, x, by rw [fread_sub x h]; rfl, by omega, by omega, by omega⟩
  · exact ⟨x / 4503599627370496 - 1, 4503599627370496 + x % 4503599627370496, fread_norm x (by omega) hx, by omega, by omega, by omega⟩
 obtain ⟨q, m, h1, h2, h3, h4⟩ := rd _ fx; obtain ⟨m', p', k1, k2⟩ := fread_any x hx fx; rw [h1] at k2; simp only [Ieee.Datum.number.injEq, true_and] at k2; obtain ⟨rfl, rfl⟩ := k2; unfold Ieee.Format.add; rw [k1, fread_sub 0 (by decide)]
 simp only [Ieee.Datum.sum, Option.map_some, Ieee.Format.write]; rw [show min (-1074 + (q : Int)) (-1074) = -1074 by omega, show (-1074 + (q : Int) - -1074).toNat = q by omega, show ((-1074 : Int) - -1074).toNat = 0 by omega]
 have hs : ∀ s : Bool, Ieee.signed s m q + Ieee.signed false 0 0 = if s then -((m * 2 ^ q : Nat) : Int) else ((m * 2 ^ q : Nat) : Int) := fun s => by
  unfold Ieee.signed; rw [Nat.shiftLeft_eq]; cases s <;> simp
 rw [hs]; have p2 : 0 < 2 ^ q := Nat.pow_pos (by decide)
 by_cases h0 : m = 0
 · subst h0; have hq : q = 0 := by omega
   have hx0 : x % 9223372036854775808 = 0 := by omega
   have e0 : (if decide (9223372036854775808 ≤ x) = true then -((0 * 2 ^ q : Nat) : Int) else ((0 * 2 ^ q : Nat) : Int)) = 0 := by simp
   rw [e0, if_pos rfl, Bool.and_false, if_pos hx0]; rfl
 · have hm : m * 2 ^ q ≠ 0 := Nat.mul_ne_zero h0 (by omega)
   have hmx : x % 9223372036854775808 ≠ 0 := by omega
   rw [if_neg hmx]
   have nb : ∀ s : Bool, Ieee.double.nearest s (m * 2 ^ q) (-1074) = Ieee.double.word s (q * 4503599627370496 + m) := fun s => by
    rw [near_down s m q (-1074) (by omega) ?_, show ((-1074 : Int) + q + 1074).toNat = q by omega, Nat.min_eq_left (by omega)]
    by_cases hq : 0 < q
    · have hl : (m * 2 ^ q).log2 = 52 + q := by
       refine log2_of ?_ ?_
       · rw [Nat.pow_add]; exact Nat.mul_le_mul_right _ (h4 hq)
       · rw [show 52 + q + 1 = 53 + q by omega, Nat.pow_add]; exact Nat.mul_lt_mul_of_pos_right h3 p2
      rw [hl]; omega
    · have : q = 0 := by omega
      subst this; have hl : (m * 2 ^ 0).log2 < 53 := (Nat.log2_lt (by omega)).2 (by omega)
      omega
   cases hb : decide (9223372036854775808 ≤ x) with
   | true =>
     rw [decide_eq_true_eq] at hb; simp only [if_true]; rw [if_neg (by omega), decide_eq_true (by omega), Int.natAbs_neg, Int.natAbs_natCast, nb]
     show some (Ieee.double.signWeight + (q * 4503599627370496 + m)) = _
     rw [D_sw]
     congr 1
     omega
   | false =>
     rw [decide_eq_false_iff_not] at hb; simp only [Bool.false_eq_true, if_false]; rw [if_neg (by omega), decide_eq_false (by omega), Int.natAbs_natCast, nb]
     show some (q * 4503599627370496 + m) = _
     congr 1
     omega
def fmag (x : _root_.Rat) : Nat := if x.num = 0 then 0 else nfin x.num.natAbs x.den
def fbits (x : _root_.Rat) : Nat := if decide (x.num < 0) then Op.negFloat .f64 (fmag x) else fmag x
def nbits (x : _root_.Rat) : Nat := if fmag x = 0 then 0 else fbits x
theorem fmag_le (x : _root_.Rat) : fmag x ≤ 9218868437227405312 := by
 unfold fmag
 split
 · exact Nat.zero_le _
 · exact nfin_lt _ _
theorem fbits_eq (x : _root_.Rat) : fbits x = if x.num < 0 then fmag x + 9223372036854775808 else fmag x := by
 unfold fbits; have := fmag_le x; by_cases h : x.num < 0
 · rw [decide_eq_true h, if_pos rfl, if_pos h, neg_add (by omega)]
 · rw [decide_eq_false h, if_neg (by decide), if_neg h]
theorem fbits_lt (x : _root_.Rat) : fbits x < 18446744073709551616 := by
 have := fmag_le x; rw [fbits_eq]
 split <;> omega
theorem fbits_mod (x : _root_.Rat) : fbits x % 9223372036854775808 = fmag x := by
 have := fmag_le x; rw [fbits_eq]
 split <;> omega
def nfB (x : _root_.Rat) : Bool := finB (fbits x)
theorem nbits_add {x : _root_.Rat} (h : nfB x = true) : Ieee.double.add (fbits x) 0 = some (nbits x) := by
 unfold nfB finB at h; rw [decide_eq_true_eq] at h; rw [add_zero_f _ (fbits_lt x) h, fbits_mod]; rfl
theorem gaF64C {w : World} {g : Nat} {x : _root_.Rat} {L : Nat} [hx : RaC 88 w g x] [sx : SmC x L] (hL : L ≤ 17179869184) :
 Calls Tryz.prog 76 #[.pointer (some ⟨g, 0, none⟩)] w fun e w' => ∃ xb, e = .returned (.tuple #[.float .f64 (fbits x), .bool xb]) ∧ Kp0 w w' := by
 refine (brfloat g x w hx.out (Nat.le_trans sx.out.1 hL) (Nat.le_trans sx.out.2 hL)).mono ?_
 rintro e w' ⟨⟨xb, rfl⟩, hb⟩; exact ⟨xb, rfl, ⟨hb⟩⟩
theorem nbits_fb {x : _root_.Rat} (h : nfB x = true) : floatBits .add .f64 (fbits x) 0 = some (nbits x) := by
 have e := nbits_add h; unfold floatBits
 simp only
 show (Ieee.double.add (fbits x) 0) = _
 rw [e]
theorem gaNearOk {a b c d : ByteArray} {w : World} [sa : SzC a] [sb : SzC b] [sc : SzC c] [sd : SzC d] [hv : VrB w] (h1 : checkE a b c d = 0) (fa : nfB (rval a b) = true) (fb : nfB (rval c d) = true) :
 Calls Tryz.prog 28 #[.agg #[.string a, .string b, .string c, .string d]] w fun e w' => e = .returned (.tuple #[.complex .f64 (nbits (rval a b)) (nbits (rval c d)), .int .i64 0]) ∧ Kp0 w w' := by
 obtain ⟨s1, s2⟩ := smC_rval h1; have F := hid (fun v : World => (show finB (fbits (rval a b)) = true from fa) ▸ gaFin (w := v) (fbits_lt (rval a b)))
 have G := hid (fun v : World => (show finB (fbits (rval c d)) = true from fb) ▸ gaFin (w := v) (fbits_lt (rval c d)))
 have k1 := fun w => run_float_arith (P := Tryz.prog) w .add 56 .f64 _ _ _ (nbits_fb fa)
 have k2 := fun w => run_float_arith (P := Tryz.prog) w .add 56 .f64 _ _ _ (nbits_fb fb)
 go_enter Tryz.func28, Tryz.ntmps28; go_wp2_with (first | (go_at_call 75; (with_reducible refine Calls.mono (gaOneOk h1) ?_); rintro e wc ⟨i, j, rfl, _, _, _⟩) | (go_at_call 76; (with_reducible refine Calls.mono (gaF64C (by decide)) ?_); rintro e wc ⟨_, rfl, _⟩) | (go_at_call 77; (with_reducible refine (F.out _).mono ?_); rintro e w' ⟨rfl, hw⟩; obtain rfl := hw.symm) | (go_at_call 77; (with_reducible refine (G.out _).mono ?_); rintro e w' ⟨rfl, hw⟩; obtain rfl := hw.symm))
 go_ret2
 exact ⟨rfl, ⟨Gr.out⟩⟩
def Cl (w : World) (g off : Nat) (l : List (Nat × Nat)) : Prop := ∃ C, w.heap[g]? = some (.cells C 29 (0, 0)) ∧ ∀ (i : Nat) (x : Nat × Nat), l[i]? = some x → C[off + i]? = some (.complex .f64 x.1 x.2)
theorem Cl.lt {w : World} {g off : Nat} {l : List (Nat × Nat)} (h : Cl w g off l) : g < w.heap.size := by
 obtain ⟨C, hC, -⟩ := h; exact lt_of_block hC
theorem Cl.cell {w : World} {g off : Nat} {l : List (Nat × Nat)} (h : Cl w g off l) {i : Nat} {x : Nat × Nat} (hx : l[i]? = some x) : w.cell? ⟨g, off + i, none⟩ = some (.complex .f64 x.1 x.2) := by
 obtain ⟨C, hC, hl⟩ := h; rw [cell_of_block hC]; exact hl i x hx
theorem Cl.of_heap {w w' : World} {g off : Nat} {l : List (Nat × Nat)} (h : Cl w g off l) (e : w'.heap[g]? = w.heap[g]?) : Cl w' g off l := by
 obtain ⟨C, hC, hl⟩ := h; exact ⟨C, e.trans hC, hl⟩
class ClC (w : World) (g off : Nat) (l : outParam (List (Nat × Nat))) : Prop where
 out : Cl w g off l
instance clC_alloc (w : World) (g off : Nat) (l : List (Nat × Nat)) (o : Obj) [h : ClC w g off l] : ClC (w.alloc o) g off l := ⟨h.out.of_heap (Below.heap_alloc _ _ _ h.out.lt)⟩
instance clC_drew (w : World) (g off : Nat) (l : List (Nat × Nat)) [h : ClC w g off l] : ClC w.drew g off l := ⟨h.out.of_heap rfl⟩
instance clC_kp0 (W w' : World) (g off : Nat) (l : List (Nat × Nat)) [k : Kp0 W w'] [h : ClC W g off l] : ClC w' g off l := ⟨h.out.of_heap (k.out.block g h.out.lt)⟩
instance clC_kp1 (W w' : World) (g off n : Nat) (l : List (Nat × Nat)) [k : Kp1 W n w'] [e : NeN g n] [h : ClC W g off l] : ClC w' g off l := ⟨h.out.of_heap (k.out.block g h.out.lt (by simpa using e.out))⟩
instance clC_set (w : World) (g off n i : Nat) (v : Value) (l : List (Nat × Nat)) [e : NeN g n] [h : ClC w g off l] : ClC (w.setCell ⟨n, i, none⟩ v) g off l := ⟨h.out.of_heap (block_ne _ _ _ _ _ e.out)⟩
theorem has_cl {w : World} {g off : Nat} {l : List (Nat × Nat)} (h : ClC w g off l) : Has w g := ⟨h.out.lt⟩
instance (priority := 600) raC_fr (R : Nat) (W : World) (g : Nat) [h : BkC W g [.bool false, .slice none 0 0, .slice none 0 0] R] : RaC R W g 0 := ⟨(show Fr R W g from ⟨h.out⟩).ra⟩
def okB (l : List (Nat × Nat)) : Prop := ∀ x ∈ l, x.1 < 18446744073709551616 ∧ x.2 < 18446744073709551616
def allF (l : List (Nat × Nat)) : Bool := l.all fun x => finB x.1 && finB x.2
def stepAt (X Y : _root_.Rat) (c : Nat × Nat) (v : _root_.Rat × _root_.Rat) : _root_.Rat × _root_.Rat := (v.1 * X - v.2 * Y + frat c.1, v.1 * Y + v.2 * X + frat c.2)
def valAt (X Y : _root_.Rat) (l : List (Nat × Nat)) : _root_.Rat × _root_.Rat := l.foldr (stepAt X Y) (0, 0)
theorem valAt_drop {X Y : _root_.Rat} {l : List (Nat × Nat)} {j : Nat} {c : Nat × Nat} (h : l[j]? = some c) : valAt X Y (l.drop j) = stepAt X Y c (valAt X Y (l.drop (j + 1))) := by
 obtain ⟨hj, rfl⟩ := List.getElem?_eq_some_iff.1 h; rw [List.drop_eq_getElem_cons hj]; rfl
theorem valAt_dy {X Y : _root_.Rat} (hX : Dy 1074 2099 X) (hY : Dy 1074 2099 Y) (l : List (Nat × Nat)) : Dy (1074 * l.length) (3200 * (l.length + 1)) (valAt X Y l).1 ∧ Dy (1074 * l.length) (3200 * (l.length + 1)) (valAt X Y l).2 := by
 induction l with
 | nil => exact ⟨Dy.zero.mono (Nat.zero_le _), Dy.zero.mono (Nat.zero_le _)⟩
 | cons c l ih =>
   obtain ⟨h1, h2⟩ := ih; have e : 1074 * (c :: l).length = 1074 * l.length + 1074 := by rw [List.length_cons]; omega
   have f1 : Dy (1074 * l.length + 1074) (2099 + 1074 * l.length) (frat c.1) := by
    have := (frat_dy c.1).up (1074 * l.length)
    rwa [Nat.add_comm 1074] at this
   have f2 : Dy (1074 * l.length + 1074) (2099 + 1074 * l.length) (frat c.2) := by
    have := (frat_dy c.2).up (1074 * l.length)
    rwa [Nat.add_comm 1074] at this
   have n1 : 3200 * (l.length + 1) + 2099 + 1 ≤ 3200 * ((c :: l).length + 1) - 1 := by rw [List.length_cons]; omega
   have n2 : 2099 + 1074 * l.length ≤ 3200 * ((c :: l).length + 1) - 1 := by rw [List.length_cons]; omega
   have n3 : 3200 * ((c :: l).length + 1) - 1 + 1 = 3200 * ((c :: l).length + 1) := by omega
   rw [e, ← n3]; exact ⟨(((h1.mul hX).sub (h2.mul hY)).mono n1).add (f1.mono n2), (((h1.mul hY).add (h2.mul hX)).mono n1).add (f2.mono n2)⟩
theorem valAt_sm {X Y : _root_.Rat} (hX : Dy 1074 2099 X) (hY : Dy 1074 2099 Y) {l : List (Nat × Nat)} (hl : l.length ≤ 65) : SmC (valAt X Y l).1 7000 ∧ SmC (valAt X Y l).2 7000 := by
 obtain ⟨h1, h2⟩ := valAt_dy hX hY l; exact ⟨⟨Nat.le_trans h1.num (by omega), Nat.le_trans h1.den (by omega)⟩, ⟨Nat.le_trans h2.num (by omega), Nat.le_trans h2.den (by omega)⟩⟩
theorem allF_at {l : List (Nat × Nat)} {j : Nat} {c : Nat × Nat} (h : l[j]? = some c) (ha : allF l = true) : finB c.1 = true ∧ finB c.2 = true := by
 unfold allF at ha; rw [List.all_eq_true] at ha; have := ha c (List.mem_of_getElem? h)
 rwa [Bool.and_eq_true] at this
end Go.Proofs.YthjeejnggpjnjaaGreatDoor
