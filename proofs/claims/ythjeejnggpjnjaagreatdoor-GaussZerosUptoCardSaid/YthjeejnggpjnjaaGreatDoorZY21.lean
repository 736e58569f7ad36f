/- A part: CW, GB. -/
import Derived.Test.YthjeejnggpjnjaaGreatDoorZY20
set_option linter.unusedSimpArgs false
set_option linter.unusedVariables false
set_option maxRecDepth 100000
set_option maxHeartbeats 16000000
set_option synthInstance.maxHeartbeats 2000000
set_option synthInstance.maxSize 100000
namespace Go.Proofs.YthjeejnggpjnjaaGreatDoor
open Go.RowKit
@[go_sem] theorem wrap_lit0 : IntKind.i64.wrap 0 = 0 := by decide
@[go_sem] theorem tmod_lit0 : Int.tmod 0 4 = 0 := by decide
@[go_sem] theorem wrap_lit1 : IntKind.i64.wrap 1 = 1 := by decide
@[go_sem] theorem tmod_lit1 : Int.tmod 1 4 = 1 := by decide
@[go_sem] theorem wrap_lit2 : IntKind.i64.wrap 2 = 2 := by decide
@[go_sem] theorem tmod_lit2 : Int.tmod 2 4 = 2 := by decide
@[go_sem] theorem wrap_lit3 : IntKind.i64.wrap 3 = 3 := by decide
@[go_sem] theorem tmod_lit3 : Int.tmod 3 4 = 3 := by decide
@[go_sem] theorem wrap_lit4 : IntKind.i64.wrap 4 = 4 := by decide
@[go_sem] theorem tmod_lit4 : Int.tmod 4 4 = 0 := by decide
@[go_sem] theorem run_index99_0 (a0 b0 a1 b1 a2 b2 a3 b3 : Nat) (w : World) : (Instr.index 99 (.agg #[.pointer (some ⟨a0, 0, none⟩), .pointer (some ⟨b0, 0, none⟩), .pointer (some ⟨a1, 0, none⟩), .pointer (some ⟨b1, 0, none⟩), .pointer (some ⟨a2, 0, none⟩), .pointer (some ⟨b2, 0, none⟩), .pointer (some ⟨a3, 0, none⟩), .pointer (some ⟨b3, 0, none⟩)]) (.int .i64 0)).run Tryz.prog w = .ok (nuV a0 b0) w := by kernel_rfl
@[go_sem] theorem run_index99_1 (a0 b0 a1 b1 a2 b2 a3 b3 : Nat) (w : World) : (Instr.index 99 (.agg #[.pointer (some ⟨a0, 0, none⟩), .pointer (some ⟨b0, 0, none⟩), .pointer (some ⟨a1, 0, none⟩), .pointer (some ⟨b1, 0, none⟩), .pointer (some ⟨a2, 0, none⟩), .pointer (some ⟨b2, 0, none⟩), .pointer (some ⟨a3, 0, none⟩), .pointer (some ⟨b3, 0, none⟩)]) (.int .i64 1)).run Tryz.prog w = .ok (nuV a1 b1) w := by kernel_rfl
@[go_sem] theorem run_index99_2 (a0 b0 a1 b1 a2 b2 a3 b3 : Nat) (w : World) : (Instr.index 99 (.agg #[.pointer (some ⟨a0, 0, none⟩), .pointer (some ⟨b0, 0, none⟩), .pointer (some ⟨a1, 0, none⟩), .pointer (some ⟨b1, 0, none⟩), .pointer (some ⟨a2, 0, none⟩), .pointer (some ⟨b2, 0, none⟩), .pointer (some ⟨a3, 0, none⟩), .pointer (some ⟨b3, 0, none⟩)]) (.int .i64 2)).run Tryz.prog w = .ok (nuV a2 b2) w := by kernel_rfl
@[go_sem] theorem run_index99_3 (a0 b0 a1 b1 a2 b2 a3 b3 : Nat) (w : World) : (Instr.index 99 (.agg #[.pointer (some ⟨a0, 0, none⟩), .pointer (some ⟨b0, 0, none⟩), .pointer (some ⟨a1, 0, none⟩), .pointer (some ⟨b1, 0, none⟩), .pointer (some ⟨a2, 0, none⟩), .pointer (some ⟨b2, 0, none⟩), .pointer (some ⟨a3, 0, none⟩), .pointer (some ⟨b3, 0, none⟩)]) (.int .i64 3)).run Tryz.prog w = .ok (nuV a3 b3) w := by kernel_rfl
theorem tdiv4_bound {S : Int} (h : -160 ≤ S ∧ S ≤ 160) : -160 ≤ S.tdiv 4 ∧ S.tdiv 4 ≤ 160 := by
 have e : (S.tdiv 4).natAbs = S.natAbs / 4 := Int.natAbs_tdiv S 4; generalize S.tdiv 4 = T at *; omega
theorem gaRowS {w : World} {v1 v2 : Value} {p q : List Int} {A : Nat} [hv : VrB w] (hp : Rw 160 EI w v1 p) (hq : Rw 160 EI w v2 q) (hA1 : 1 ≤ A) (hA : A ≤ 300) (hI : RowI A p q) :
 Calls Tryz.prog 66 #[v1, v2] w fun e w' => ∃ gR oR nR cR uR, e = .returned (.slice (some ⟨gR, oR, none⟩) (nR + 1) cR) ∧ gR < w'.heap.size ∧ w'.cell? ⟨gR, oR + nR, none⟩ = some uR ∧ (nR : Int) ≤ 63 ∧ Rw 160 EI w' uR (lastL (rowI p q)) ∧ Rw 101 (Rw 160 EI) w' (.slice (some ⟨gR, oR, none⟩) (nR + 1) cR) (rowI p q) ∧ Kp0 w w' := by
 refine (gaRow hp hq hA1 hA hI).mono ?_
 rintro e w' ⟨v', rfl, h, k⟩; have ok := rowI_ok hA1 hA hI; obtain ⟨aR, cR, rfl, -⟩ := h.form; obtain ⟨gR, oR, uR, rfl, hg, hc, hP⟩ := h.at (lastL_mem ok.1).2; have hlen := List.length_pos_iff.2 ok.1; obtain ⟨nR, hnR⟩ : ∃ nR, (rowI p q).length = nR + 1 := ⟨(rowI p q).length - 1, by omega⟩
 have h64 := ok.2.1; rw [hnR] at hc h; refine ⟨gR, oR, nR, cR, uR, by rw [hnR], hg, by rw [Nat.add_sub_cancel] at hc; exact hc, by omega, hP, h, k⟩
theorem gaZerosErr {w : World} {g off cap : Nat} {l : List (Nat × Nat)} {a b c d : Nat} [hc : ClC w g off l] (hl : okB l) (ha : a < 18446744073709551616) (hb : b < 18446744073709551616) (hc' : c < 18446744073709551616) (hd : d < 18446744073709551616) (h : askE l (a, b) (c, d) ≠ 0) :
 Calls Tryz.prog 18 #[.slice (some ⟨g, off, none⟩) l.length cap, .agg #[.complex .f64 a b, .complex .f64 c d]] w fun e w' => e = .returned (.tuple #[.int .i64 0, .int .i64 (askE l (a, b) (c, d))]) ∧ Kp0 w w' := by
 have AS := hid (fun (W : World) (q : ClC W g off l) => gaAsk (w := W) (cap := cap) (hc := q) hl ha hb hc' hd)
 generalize askE l (a, b) (c, d) = V at *; have hV : (V == 0) = false := beq_eq_false_iff_ne.2 h; obtain ⟨n, hn2⟩ : ∃ n, n = l.length := ⟨_, rfl⟩; rw [← hn2] at AS ⊢; clear hn2 hl ha hb hc' hd; go_enter Tryz.func18, Tryz.ntmps18; go_wp2_with (go_at_call 63; (with_reducible refine Calls.mono (AS.out _ inferInstance) ?_); rintro e wa ⟨rfl, _⟩)
 all_goals first
  | (go_ret2
     exact ⟨rfl, ⟨Gr.out⟩⟩)
  | (exfalso; simp_all; done)
theorem gaZerosOk {w : World} {g off cap : Nat} {l : List (Nat × Nat)} {a b c d : Nat} [hc : ClC w g off l] [hv : VrB w] (hl : okB l) (ha : a < 18446744073709551616) (hb : b < 18446744073709551616) (hc' : c < 18446744073709551616) (hd : d < 18446744073709551616) (h : askE l (a, b) (c, d) = 0) :
 Calls Tryz.prog 18 #[.slice (some ⟨g, off, none⟩) l.length cap, .agg #[.complex .f64 a b, .complex .f64 c d]] w fun e w' => e = .returned (.tuple #[.int .i64 (if touchT l (a, b) (c, d) 4 = true then 0 else (sumT l (a, b) (c, d) 4).tdiv 4), .int .i64 (if touchT l (a, b) (c, d) 4 = true then 32 else 0)]) ∧ Kp0 w w' := by
 have AS := hid (fun (W : World) (q : ClC W g off l) => h ▸ gaAsk (w := W) (cap := cap) (hc := q) hl ha hb hc' hd)
 obtain ⟨hq1, hq2, hq3, hq4⟩ := askE_ok h; have ea := mid_fexp (Bool.and_eq_true_iff.1 hq3).1; have eb := mid_fexp (Bool.and_eq_true_iff.1 hq3).2; have ec := mid_fexp (Bool.and_eq_true_iff.1 hq4).1; have ed := mid_fexp (Bool.and_eq_true_iff.1 hq4).2; have AL0 := hid (fun (W : World) (f1 f2 s1 s2 : Nat) (q : ClC W g off l) (v : VrB W) (r1 : RaC 88 W f1 (frat a)) (r2 : RaC 88 W f2 (frat b)) (r3 : RaC 88 W s1 (frat c - frat a)) (r4 : RaC 88 W s2 (frat b - frat b)) => show Calls Tryz.prog 64 #[.slice (some ⟨g, off, none⟩) l.length cap, .agg #[.pointer (some ⟨f1, 0, none⟩), .pointer (some ⟨f2, 0, none⟩)], .agg #[.pointer (some ⟨s1, 0, none⟩), .pointer (some ⟨s2, 0, none⟩)]] W (fun e w' => ∃ u u', e = .returned (.tuple #[u, u']) ∧ Rw 160 EI w' u (sideX l (a, b) (c, d) 0) ∧ Rw 160 EI w' u' (sideY l (a, b) (c, d) 0) ∧ Kp0 W w') from gaAlong (hc := q) (hf1 := r1) (hf2 := r2) (hs1 := r3) (hs2 := r4) (hv := v) hl hq1.2 (allM_fexp hq2) ((corner_dy hq3 hq4 0).mono (by decide)) (way_dy hq3 hq4 0) (allM_dy hq2))
 have AL1 := hid (fun (W : World) (f1 f2 s1 s2 : Nat) (q : ClC W g off l) (v : VrB W) (r1 : RaC 88 W f1 (frat c)) (r2 : RaC 88 W f2 (frat b)) (r3 : RaC 88 W s1 (frat c - frat c)) (r4 : RaC 88 W s2 (frat d - frat b)) => show Calls Tryz.prog 64 #[.slice (some ⟨g, off, none⟩) l.length cap, .agg #[.pointer (some ⟨f1, 0, none⟩), .pointer (some ⟨f2, 0, none⟩)], .agg #[.pointer (some ⟨s1, 0, none⟩), .pointer (some ⟨s2, 0, none⟩)]] W (fun e w' => ∃ u u', e = .returned (.tuple #[u, u']) ∧ Rw 160 EI w' u (sideX l (a, b) (c, d) 1) ∧ Rw 160 EI w' u' (sideY l (a, b) (c, d) 1) ∧ Kp0 W w') from gaAlong (hc := q) (hf1 := r1) (hf2 := r2) (hs1 := r3) (hs2 := r4) (hv := v) hl hq1.2 (allM_fexp hq2) ((corner_dy hq3 hq4 1).mono (by decide)) (way_dy hq3 hq4 1) (allM_dy hq2))
 have AL2 := hid (fun (W : World) (f1 f2 s1 s2 : Nat) (q : ClC W g off l) (v : VrB W) (r1 : RaC 88 W f1 (frat c)) (r2 : RaC 88 W f2 (frat d)) (r3 : RaC 88 W s1 (frat a - frat c)) (r4 : RaC 88 W s2 (frat d - frat d)) => show Calls Tryz.prog 64 #[.slice (some ⟨g, off, none⟩) l.length cap, .agg #[.pointer (some ⟨f1, 0, none⟩), .pointer (some ⟨f2, 0, none⟩)], .agg #[.pointer (some ⟨s1, 0, none⟩), .pointer (some ⟨s2, 0, none⟩)]] W (fun e w' => ∃ u u', e = .returned (.tuple #[u, u']) ∧ Rw 160 EI w' u (sideX l (a, b) (c, d) 2) ∧ Rw 160 EI w' u' (sideY l (a, b) (c, d) 2) ∧ Kp0 W w') from gaAlong (hc := q) (hf1 := r1) (hf2 := r2) (hs1 := r3) (hs2 := r4) (hv := v) hl hq1.2 (allM_fexp hq2) ((corner_dy hq3 hq4 2).mono (by decide)) (way_dy hq3 hq4 2) (allM_dy hq2))
 have AL3 := hid (fun (W : World) (f1 f2 s1 s2 : Nat) (q : ClC W g off l) (v : VrB W) (r1 : RaC 88 W f1 (frat a)) (r2 : RaC 88 W f2 (frat d)) (r3 : RaC 88 W s1 (frat a - frat a)) (r4 : RaC 88 W s2 (frat b - frat d)) => show Calls Tryz.prog 64 #[.slice (some ⟨g, off, none⟩) l.length cap, .agg #[.pointer (some ⟨f1, 0, none⟩), .pointer (some ⟨f2, 0, none⟩)], .agg #[.pointer (some ⟨s1, 0, none⟩), .pointer (some ⟨s2, 0, none⟩)]] W (fun e w' => ∃ u u', e = .returned (.tuple #[u, u']) ∧ Rw 160 EI w' u (sideX l (a, b) (c, d) 3) ∧ Rw 160 EI w' u' (sideY l (a, b) (c, d) 3) ∧ Kp0 W w') from gaAlong (hc := q) (hf1 := r1) (hf2 := r2) (hs1 := r3) (hs2 := r4) (hv := v) hl hq1.2 (allM_fexp hq2) ((corner_dy hq3 hq4 3).mono (by decide)) (way_dy hq3 hq4 3) (allM_dy hq2))
 have HASK := hid h; obtain ⟨E1, hE1⟩ : ∃ E, E = (if touchT l (a, b) (c, d) 4 = true then 0 else (sumT l (a, b) (c, d) 4).tdiv 4) := ⟨_, rfl⟩
 obtain ⟨E2, hE2⟩ : ∃ E : Int, E = (if touchT l (a, b) (c, d) 4 = true then 32 else 0) := ⟨_, rfl⟩
 rw [← hE1, ← hE2]; have HE1 := hid hE1; have HE2 := hid hE2; obtain ⟨n, hn2⟩ : ∃ n, n = l.length := ⟨_, rfl⟩; rw [← hn2] at AS AL0 AL1 AL2 AL3 ⊢; haveI := has_cl hc; clear hn2 hl hq1 hq2 hq3 hq4 hE1 hE2 h; go_enter Tryz.func18, Tryz.ntmps18; go_upto_region 4 with (go_at_call 63; (with_reducible refine Calls.mono (AS.out _ inferInstance) ?_); rintro e wa ⟨rfl, _⟩)
 go_cut [7, 8] from 22 (fun s7 s8 wx => ∃ g7 g8 p0 q0 p1 q1, s7 = .pointer (some ⟨g7, 0, none⟩) ∧ s8 = .pointer (some ⟨g8, 0, none⟩) ∧ BkC wx g7 [.pointer (some ⟨p0, 0, none⟩), .pointer (some ⟨q0, 0, none⟩)] 82 ∧ BkC wx g8 [.pointer (some ⟨p1, 0, none⟩), .pointer (some ⟨q1, 0, none⟩)] 82 ∧ RaC 88 wx p0 (frat a) ∧ RaC 88 wx q0 (frat b) ∧ RaC 88 wx p1 (frat c) ∧ RaC 88 wx q1 (frat d) ∧ Kp0 w wx)
 case first =>
  go_region_held3 (fun W => W.cell? ⟨w.heap.size, 0, none⟩ = some (.complex .f64 a b) ∧ W.cell? ⟨w.heap.size, 1, none⟩ = some (.complex .f64 c d)) (refine ⟨?_, ?_⟩ <;> (first | exact Bk.cell BkC.out rfl | (simp [go_sem]; done))) (first | (go_at_call 54; (with_reducible refine Calls.mono (gaExact (hvr := ⟨VrC.out⟩) ha hb ea eb) ?_); rintro e wc ⟨_, _, rfl, _, _, _⟩) | (go_at_call 54; (with_reducible refine Calls.mono (gaExact (hvr := ⟨VrC.out⟩) hc' hd ec ed) ?_); rintro e wc ⟨_, _, rfl, _, _, _⟩))
  all_goals (go_wp2_with fail; go_meet; exact ⟨_, _, _, _, _, _, rfl, rfl, inferInstance, inferInstance, inferInstance, inferInstance, inferInstance, inferInstance, ⟨Gr.out⟩⟩)
 case rest =>
 obtain ⟨g7, g8, p0, q0, p1, q1, rfl, rfl, b7, b8, r1, r2, r3, r4, kw⟩ := hcut; generalize hwq : wc = wq at *; clear hwq AS; have c70 := b7.out.cell (i := 0) rfl; have c71 := b7.out.cell (i := 1) rfl; have c80 := b8.out.cell (i := 0) rfl; have c81 := b8.out.cell (i := 1) rfl; go_wp2_with fail
 go_loopw [10, 42] (fun s10 s42 wx => ∃ (i S : Int), s42 = .int .i64 i ∧ s10 = .int .i64 S ∧ ((i = 0 ∧ Hid (S = sumT l (a, b) (c, d) 0 ∧ touchT l (a, b) (c, d) 0 = false)) ∨ (i = 1 ∧ Hid (S = sumT l (a, b) (c, d) 1 ∧ touchT l (a, b) (c, d) 1 = false)) ∨ (i = 2 ∧ Hid (S = sumT l (a, b) (c, d) 2 ∧ touchT l (a, b) (c, d) 2 = false)) ∨ (i = 3 ∧ Hid (S = sumT l (a, b) (c, d) 3 ∧ touchT l (a, b) (c, d) 3 = false)) ∨ (i = 4 ∧ Hid (S = sumT l (a, b) (c, d) 4 ∧ touchT l (a, b) (c, d) 4 = false))) ∧ BkC wx wq.heap.size [.pointer (some ⟨p0, 0, none⟩), .pointer (some ⟨q0, 0, none⟩), .pointer (some ⟨p1, 0, none⟩), .pointer (some ⟨q0, 0, none⟩), .pointer (some ⟨p1, 0, none⟩), .pointer (some ⟨q1, 0, none⟩), .pointer (some ⟨p0, 0, none⟩), .pointer (some ⟨q1, 0, none⟩)] 99 ∧ Kp0 wq wx) (fun _ s42 _ => 4 - (intOf s42).toNat)
 case atStart => exact ⟨0, 0, rfl, rfl, .inl ⟨rfl, hid ⟨rfl, rfl⟩⟩, inferInstance, ⟨Gr.out⟩⟩
 case round =>
  obtain ⟨i, S, rfl, rfl, ⟨rfl, hSt⟩ | ⟨rfl, hSt⟩ | ⟨rfl, hSt⟩ | ⟨rfl, hSt⟩ | ⟨rfl, hSt⟩, ib, ik⟩ := hrel
  · skip
    have HXY := hid (side_start HASK.out 0); have HRT := hid (sideR_row (side_start HASK.out 0)); have HSN := hid (show sumT l (a, b) (c, d) 1 = sumT l (a, b) (c, d) 0 + sideT (sideX l (a, b) (c, d) 0) (sideY l (a, b) (c, d) 0) from rfl)
    have HTN := hid (touchT_next l (a, b) (c, d) 0); have hSb : -160 ≤ S ∧ S ≤ 160 := by have := sumT_bound HASK.out 0; rw [← hSt.out.1] at this; omega
    have hTb := (sideT_bound (sideX l (a, b) (c, d) 0) (sideY l (a, b) (c, d) 0)).resolve_right (by have := HXY.out.1; omega)
    have ALJ := AL0; go_upto_region 10 with fail
    go_cut [13, 14] from 46 to 58 (fun s13 s14 wx => Rw 160 EI wx s13 (sideX l (a, b) (c, d) 0) ∧ Rw 160 EI wx s14 (sideY l (a, b) (c, d) 0) ∧ Kp0 wr wx)
    case first =>
     go_region_held3 (fun W => W.cell? ⟨wr.heap.size, 0, none⟩ = some (.pointer (some ⟨p0, 0, none⟩)) ∧ W.cell? ⟨wr.heap.size, 1, none⟩ = some (.pointer (some ⟨q0, 0, none⟩)) ∧ W.cell? ⟨wq.heap.size, 2, none⟩ = some (.pointer (some ⟨p1, 0, none⟩)) ∧ W.cell? ⟨wq.heap.size, 3, none⟩ = some (.pointer (some ⟨q0, 0, none⟩))) (refine ⟨?_, ?_, ?_, ?_⟩ <;> (first | exact Bk.cell BkC.out rfl | (simp [go_sem]; done))) (first | (go_at_call 65; (with_reducible refine Calls.mono (gaSubC (by decide) (by decide) (by decide) (by decide)) ?_); rintro e wc ⟨_, _, rfl, _, _, _⟩) | (go_at_call 64; (with_reducible refine Calls.mono (ALJ.out _ _ _ _ _ inferInstance ⟨VrC.out⟩ inferInstance inferInstance inferInstance inferInstance) ?_); rintro e wd ⟨u, u', rfl, hu, hu', _⟩; have HU := hid hu; have HU' := hid hu'; clear hu hu'))
     all_goals (go_wp2_with fail; go_meet; exact ⟨HU.out, HU'.out, ⟨Gr.out⟩⟩)
    case rest =>
     obtain ⟨hU, hU', ik2⟩ := hcut; clear AL0 AL1 AL2 AL3 ALJ; generalize sideX l (a, b) (c, d) 0 = P at *; generalize sideY l (a, b) (c, d) 0 = Q at *; generalize hwd : wc = wd at *; clear hwd; obtain ⟨a1, c1, rfl, -⟩ := hU.form; obtain ⟨a2, c2, rfl, -⟩ := hU'.form; generalize hZZ : sideZ P Q = Z at *; have HRI : Hid (RowI 130 P Q) := hid (.inl HXY.out); have HRJ : Hid (RowI 130 Q P) := hid (.inl HXY.out.symm); by_cases hq : Q = []
     · subst hq; have hT0 : sideT P [] = 0 := by unfold sideT; rw [if_pos rfl]
       have hR0 : sideR P [] = rowI P [] := by unfold sideR; rw [if_pos rfl]
       rw [show (([] : List Int).length) = 0 from rfl] at hU' ⊢
       have HSN2 := hid (show sumT l (a, b) (c, d) 1 = S by rw [HSN.out, hT0, Int.add_zero]; exact hSt.out.1.symm)
       have ZE := hid (fun (W : World) (u : Value) (v : VrC W) (h : Rw 160 EI W u (lastL (rowI P []))) => show Calls Tryz.prog 68 #[u] W (fun e w' => e = .returned (.bool Z) ∧ Kp0 W w') from by
        have := gaZero (hv := v) h (by decide) (by decide) (hR0 ▸ HRT.out.2)
        rwa [show zeroI (lastL (rowI P [])) = Z by rw [← hZZ, ← hR0]; rfl] at this)
       have HU := hid hU; have HU' := hid hU'; obtain ⟨nP, hnP⟩ : ∃ nP, nP = P.length := ⟨_, rfl⟩; rw [← hnP] at HU ⊢; clear hU hU' hTb hZZ hnP hT0 hR0; cases Z
       all_goals go_wp2_with (first | (go_at_call 66; (with_reducible refine Calls.mono (gaRow (hv := ⟨VrC.out⟩) (HU'.out.below eok_EI Gr.out) (HU.out.below eok_EI Gr.out) (by decide) (by decide) HRJ.out) ?_); rintro e wa ⟨va, rfl, hva, _⟩; clear hva) | (go_at_call 66; (with_reducible refine Calls.mono (gaRowS (hv := ⟨VrC.out⟩) (HU.out.below eok_EI Gr.out) (HU'.out.below eok_EI Gr.out) (by decide) (by decide) HRI.out) ?_); rintro e wb ⟨gR, oR, nR, cR, uR, rfl, hgR, ceR, h63, hPR, hvb, _⟩; haveI : Has wb gR := ⟨hgR⟩; have HPR := hid hPR; have hi0 : (0 : Int) ≤ (nR : Int) := Int.natCast_nonneg _; have hi1 : (nR : Int) < (nR : Int) + 1 := Int.lt_succ _; clear hvb hPR hgR) | (go_at_call 68; (with_reducible refine Calls.mono (ZE.out _ _ inferInstance (HPR.out.below eok_EI Gr.out)) ?_); rintro e wc ⟨rfl, _⟩))
       · go_round
         case rel => exact ⟨1, S, by first | rfl | go_num, rfl, .inr (.inl ⟨rfl, hid ⟨HSN2.out.symm, by rw [HTN.out, Bool.or_false]; exact hSt.out.2⟩⟩), inferInstance, ⟨Gr.out⟩⟩
         case measure => simp [intOf]
       · go_ret2
         have hT4 := touchT_mono (k := 4) (show touchT l (a, b) (c, d) 1 = true by rw [HTN.out, Bool.or_true]) (by decide)
         exact ⟨by rw [HE1.out, HE2.out, if_pos hT4, if_pos hT4]; rfl, ⟨Gr.out⟩⟩
     · have hR0 : sideR P Q = rowI Q P := by unfold sideR; rw [if_neg hq]
       have hT0 : sideT P Q = turnI (rowI Q P) := by unfold sideT; rw [if_neg hq]
       obtain ⟨T, hT⟩ : ∃ T, T = turnI (rowI Q P) := ⟨_, rfl⟩; rw [hT0, ← hT] at hTb; have HSN2 := hid (show sumT l (a, b) (c, d) 1 = S + T by rw [HSN.out, hT0, ← hT, ← hSt.out.1])
       have ZE := hid (fun (W : World) (u : Value) (v : VrC W) (h : Rw 160 EI W u (lastL (rowI Q P))) => show Calls Tryz.prog 68 #[u] W (fun e w' => e = .returned (.bool Z) ∧ Kp0 W w') from by
        have := gaZero (hv := v) h (by decide) (by decide) (hR0 ▸ HRT.out.2)
        rwa [show zeroI (lastL (rowI Q P)) = Z by rw [← hZZ, ← hR0]; rfl] at this)
       have TE := hid (fun (W : World) (u : Value) (h : Rw 101 (Rw 160 EI) W u (rowI Q P)) => show Calls Tryz.prog 67 #[u] W (fun e w' => e = .returned (.int .i64 T) ∧ Kp0 W w') from by
        have := gaTurned h (hR0 ▸ HRT.out.1)
        rwa [← hT] at this)
       have hw : IntKind.i64.wrap (S + T) = S + T := IntWalk.i64_in _ (by omega)
       have HU := hid hU; have HU' := hid hU'; obtain ⟨nP, hnP⟩ : ∃ nP, nP = P.length := ⟨_, rfl⟩; obtain ⟨nQ, hnQ⟩ : ∃ nQ, nQ = Q.length := ⟨_, rfl⟩; have hnq : ((nQ : Int) == 0) = false := beq_eq_false_iff_ne.2 (by have := List.length_pos_iff.2 hq; omega)
       rw [← hnP] at HU ⊢; rw [← hnQ] at HU' ⊢; clear hU hU' hTb hZZ hnP hnQ hT0 hR0 hq hT; cases Z
       all_goals go_wp2_with (first | (go_at_call 66; (with_reducible refine Calls.mono (gaRowS (hv := ⟨VrC.out⟩) (HU'.out.below eok_EI Gr.out) (HU.out.below eok_EI Gr.out) (by decide) (by decide) HRJ.out) ?_); rintro e wb ⟨gR, oR, nR, cR, uR, rfl, hgR, ceR, h63, hPR, hvb, _⟩; haveI : Has wb gR := ⟨hgR⟩; have HPR := hid hPR; have HVB := hid hvb; have hi0 : (0 : Int) ≤ (nR : Int) := Int.natCast_nonneg _; have hi1 : (nR : Int) < (nR : Int) + 1 := Int.lt_succ _; clear hvb hPR hgR) | (go_at_call 67; (with_reducible refine Calls.mono (TE.out _ _ (HVB.out.below eok_EZ Gr.out)) ?_); rintro e wa ⟨rfl, _⟩) | (go_at_call 68; (with_reducible refine Calls.mono (ZE.out _ _ inferInstance (HPR.out.below eok_EI Gr.out)) ?_); rintro e wc ⟨rfl, _⟩))
       · go_round
         case rel => exact ⟨1, S + T, by first | rfl | go_num, by first | rfl | go_num, .inr (.inl ⟨rfl, hid ⟨HSN2.out.symm, by rw [HTN.out, Bool.or_false]; exact hSt.out.2⟩⟩), inferInstance, ⟨Gr.out⟩⟩
         case measure => simp [intOf]
       · go_ret2
         have hT4 := touchT_mono (k := 4) (show touchT l (a, b) (c, d) 1 = true by rw [HTN.out, Bool.or_true]) (by decide)
         exact ⟨by rw [HE1.out, HE2.out, if_pos hT4, if_pos hT4]; rfl, ⟨Gr.out⟩⟩
  · skip
    have HXY := hid (side_start HASK.out 1); have HRT := hid (sideR_row (side_start HASK.out 1)); have HSN := hid (show sumT l (a, b) (c, d) 2 = sumT l (a, b) (c, d) 1 + sideT (sideX l (a, b) (c, d) 1) (sideY l (a, b) (c, d) 1) from rfl)
    have HTN := hid (touchT_next l (a, b) (c, d) 1); have hSb : -160 ≤ S ∧ S ≤ 160 := by have := sumT_bound HASK.out 1; rw [← hSt.out.1] at this; omega
    have hTb := (sideT_bound (sideX l (a, b) (c, d) 1) (sideY l (a, b) (c, d) 1)).resolve_right (by have := HXY.out.1; omega)
    have ALJ := AL1; go_upto_region 10 with fail
    go_cut [13, 14] from 46 to 58 (fun s13 s14 wx => Rw 160 EI wx s13 (sideX l (a, b) (c, d) 1) ∧ Rw 160 EI wx s14 (sideY l (a, b) (c, d) 1) ∧ Kp0 wr wx)
    case first =>
     go_region_held3 (fun W => W.cell? ⟨wr.heap.size, 0, none⟩ = some (.pointer (some ⟨p1, 0, none⟩)) ∧ W.cell? ⟨wr.heap.size, 1, none⟩ = some (.pointer (some ⟨q0, 0, none⟩)) ∧ W.cell? ⟨wq.heap.size, 4, none⟩ = some (.pointer (some ⟨p1, 0, none⟩)) ∧ W.cell? ⟨wq.heap.size, 5, none⟩ = some (.pointer (some ⟨q1, 0, none⟩))) (refine ⟨?_, ?_, ?_, ?_⟩ <;> (first | exact Bk.cell BkC.out rfl | (simp [go_sem]; done))) (first | (go_at_call 65; (with_reducible refine Calls.mono (gaSubC (by decide) (by decide) (by decide) (by decide)) ?_); rintro e wc ⟨_, _, rfl, _, _, _⟩) | (go_at_call 64; (with_reducible refine Calls.mono (ALJ.out _ _ _ _ _ inferInstance ⟨VrC.out⟩ inferInstance inferInstance inferInstance inferInstance) ?_); rintro e wd ⟨u, u', rfl, hu, hu', _⟩; have HU := hid hu; have HU' := hid hu'; clear hu hu'))
     all_goals (go_wp2_with fail; go_meet; exact ⟨HU.out, HU'.out, ⟨Gr.out⟩⟩)
    case rest =>
     obtain ⟨hU, hU', ik2⟩ := hcut; clear AL0 AL1 AL2 AL3 ALJ; generalize sideX l (a, b) (c, d) 1 = P at *; generalize sideY l (a, b) (c, d) 1 = Q at *; generalize hwd : wc = wd at *; clear hwd; obtain ⟨a1, c1, rfl, -⟩ := hU.form; obtain ⟨a2, c2, rfl, -⟩ := hU'.form; generalize hZZ : sideZ P Q = Z at *; have HRI : Hid (RowI 130 P Q) := hid (.inl HXY.out); have HRJ : Hid (RowI 130 Q P) := hid (.inl HXY.out.symm); by_cases hq : Q = []
     · subst hq; have hT0 : sideT P [] = 0 := by unfold sideT; rw [if_pos rfl]
       have hR0 : sideR P [] = rowI P [] := by unfold sideR; rw [if_pos rfl]
       rw [show (([] : List Int).length) = 0 from rfl] at hU' ⊢
       have HSN2 := hid (show sumT l (a, b) (c, d) 2 = S by rw [HSN.out, hT0, Int.add_zero]; exact hSt.out.1.symm)
       have ZE := hid (fun (W : World) (u : Value) (v : VrC W) (h : Rw 160 EI W u (lastL (rowI P []))) => show Calls Tryz.prog 68 #[u] W (fun e w' => e = .returned (.bool Z) ∧ Kp0 W w') from by
        have := gaZero (hv := v) h (by decide) (by decide) (hR0 ▸ HRT.out.2)
        rwa [show zeroI (lastL (rowI P [])) = Z by rw [← hZZ, ← hR0]; rfl] at this)
       have HU := hid hU; have HU' := hid hU'; obtain ⟨nP, hnP⟩ : ∃ nP, nP = P.length := ⟨_, rfl⟩; rw [← hnP] at HU ⊢; clear hU hU' hTb hZZ hnP hT0 hR0; cases Z
       all_goals go_wp2_with (first | (go_at_call 66; (with_reducible refine Calls.mono (gaRow (hv := ⟨VrC.out⟩) (HU'.out.below eok_EI Gr.out) (HU.out.below eok_EI Gr.out) (by decide) (by decide) HRJ.out) ?_); rintro e wa ⟨va, rfl, hva, _⟩; clear hva) | (go_at_call 66; (with_reducible refine Calls.mono (gaRowS (hv := ⟨VrC.out⟩) (HU.out.below eok_EI Gr.out) (HU'.out.below eok_EI Gr.out) (by decide) (by decide) HRI.out) ?_); rintro e wb ⟨gR, oR, nR, cR, uR, rfl, hgR, ceR, h63, hPR, hvb, _⟩; haveI : Has wb gR := ⟨hgR⟩; have HPR := hid hPR; have hi0 : (0 : Int) ≤ (nR : Int) := Int.natCast_nonneg _; have hi1 : (nR : Int) < (nR : Int) + 1 := Int.lt_succ _; clear hvb hPR hgR) | (go_at_call 68; (with_reducible refine Calls.mono (ZE.out _ _ inferInstance (HPR.out.below eok_EI Gr.out)) ?_); rintro e wc ⟨rfl, _⟩))
       · go_round
         case rel => exact ⟨2, S, by first | rfl | go_num, rfl, .inr (.inr (.inl ⟨rfl, hid ⟨HSN2.out.symm, by rw [HTN.out, Bool.or_false]; exact hSt.out.2⟩⟩)), inferInstance, ⟨Gr.out⟩⟩
         case measure => simp [intOf]
       · go_ret2
         have hT4 := touchT_mono (k := 4) (show touchT l (a, b) (c, d) 2 = true by rw [HTN.out, Bool.or_true]) (by decide)
         exact ⟨by rw [HE1.out, HE2.out, if_pos hT4, if_pos hT4]; rfl, ⟨Gr.out⟩⟩
     · have hR0 : sideR P Q = rowI Q P := by unfold sideR; rw [if_neg hq]
       have hT0 : sideT P Q = turnI (rowI Q P) := by unfold sideT; rw [if_neg hq]
       obtain ⟨T, hT⟩ : ∃ T, T = turnI (rowI Q P) := ⟨_, rfl⟩; rw [hT0, ← hT] at hTb; have HSN2 := hid (show sumT l (a, b) (c, d) 2 = S + T by rw [HSN.out, hT0, ← hT, ← hSt.out.1])
       have ZE := hid (fun (W : World) (u : Value) (v : VrC W) (h : Rw 160 EI W u (lastL (rowI Q P))) => show Calls Tryz.prog 68 #[u] W (fun e w' => e = .returned (.bool Z) ∧ Kp0 W w') from by
        have := gaZero (hv := v) h (by decide) (by decide) (hR0 ▸ HRT.out.2)
        rwa [show zeroI (lastL (rowI Q P)) = Z by rw [← hZZ, ← hR0]; rfl] at this)
       have TE := hid (fun (W : World) (u : Value) (h : Rw 101 (Rw 160 EI) W u (rowI Q P)) => show Calls Tryz.prog 67 #[u] W (fun e w' => e = .returned (.int .i64 T) ∧ Kp0 W w') from by
        have := gaTurned h (hR0 ▸ HRT.out.1)
        rwa [← hT] at this)
       have hw : IntKind.i64.wrap (S + T) = S + T := IntWalk.i64_in _ (by omega)
       have HU := hid hU; have HU' := hid hU'; obtain ⟨nP, hnP⟩ : ∃ nP, nP = P.length := ⟨_, rfl⟩; obtain ⟨nQ, hnQ⟩ : ∃ nQ, nQ = Q.length := ⟨_, rfl⟩; have hnq : ((nQ : Int) == 0) = false := beq_eq_false_iff_ne.2 (by have := List.length_pos_iff.2 hq; omega)
       rw [← hnP] at HU ⊢; rw [← hnQ] at HU' ⊢; clear hU hU' hTb hZZ hnP hnQ hT0 hR0 hq hT; cases Z
       all_goals go_wp2_with (first | (go_at_call 66; (with_reducible refine Calls.mono (gaRowS (hv := ⟨VrC.out⟩) (HU'.out.below eok_EI Gr.out) (HU.out.below eok_EI Gr.out) (by decide) (by decide) HRJ.out) ?_); rintro e wb ⟨gR, oR, nR, cR, uR, rfl, hgR, ceR, h63, hPR, hvb, _⟩; haveI : Has wb gR := ⟨hgR⟩; have HPR := hid hPR; have HVB := hid hvb; have hi0 : (0 : Int) ≤ (nR : Int) := Int.natCast_nonneg _; have hi1 : (nR : Int) < (nR : Int) + 1 := Int.lt_succ _; clear hvb hPR hgR) | (go_at_call 67; (with_reducible refine Calls.mono (TE.out _ _ (HVB.out.below eok_EZ Gr.out)) ?_); rintro e wa ⟨rfl, _⟩) | (go_at_call 68; (with_reducible refine Calls.mono (ZE.out _ _ inferInstance (HPR.out.below eok_EI Gr.out)) ?_); rintro e wc ⟨rfl, _⟩))
       · go_round
         case rel => exact ⟨2, S + T, by first | rfl | go_num, by first | rfl | go_num, .inr (.inr (.inl ⟨rfl, hid ⟨HSN2.out.symm, by rw [HTN.out, Bool.or_false]; exact hSt.out.2⟩⟩)), inferInstance, ⟨Gr.out⟩⟩
         case measure => simp [intOf]
       · go_ret2
         have hT4 := touchT_mono (k := 4) (show touchT l (a, b) (c, d) 2 = true by rw [HTN.out, Bool.or_true]) (by decide)
         exact ⟨by rw [HE1.out, HE2.out, if_pos hT4, if_pos hT4]; rfl, ⟨Gr.out⟩⟩
  · skip
    have HXY := hid (side_start HASK.out 2); have HRT := hid (sideR_row (side_start HASK.out 2)); have HSN := hid (show sumT l (a, b) (c, d) 3 = sumT l (a, b) (c, d) 2 + sideT (sideX l (a, b) (c, d) 2) (sideY l (a, b) (c, d) 2) from rfl)
    have HTN := hid (touchT_next l (a, b) (c, d) 2); have hSb : -160 ≤ S ∧ S ≤ 160 := by have := sumT_bound HASK.out 2; rw [← hSt.out.1] at this; omega
    have hTb := (sideT_bound (sideX l (a, b) (c, d) 2) (sideY l (a, b) (c, d) 2)).resolve_right (by have := HXY.out.1; omega)
    have ALJ := AL2; go_upto_region 10 with fail
    go_cut [13, 14] from 46 to 58 (fun s13 s14 wx => Rw 160 EI wx s13 (sideX l (a, b) (c, d) 2) ∧ Rw 160 EI wx s14 (sideY l (a, b) (c, d) 2) ∧ Kp0 wr wx)
    case first =>
     go_region_held3 (fun W => W.cell? ⟨wr.heap.size, 0, none⟩ = some (.pointer (some ⟨p1, 0, none⟩)) ∧ W.cell? ⟨wr.heap.size, 1, none⟩ = some (.pointer (some ⟨q1, 0, none⟩)) ∧ W.cell? ⟨wq.heap.size, 6, none⟩ = some (.pointer (some ⟨p0, 0, none⟩)) ∧ W.cell? ⟨wq.heap.size, 7, none⟩ = some (.pointer (some ⟨q1, 0, none⟩))) (refine ⟨?_, ?_, ?_, ?_⟩ <;> (first | exact Bk.cell BkC.out rfl | (simp [go_sem]; done))) (first | (go_at_call 65; (with_reducible refine Calls.mono (gaSubC (by decide) (by decide) (by decide) (by decide)) ?_); rintro e wc ⟨_, _, rfl, _, _, _⟩) | (go_at_call 64; (with_reducible refine Calls.mono (ALJ.out _ _ _ _ _ inferInstance ⟨VrC.out⟩ inferInstance inferInstance inferInstance inferInstance) ?_); rintro e wd ⟨u, u', rfl, hu, hu', _⟩; have HU := hid hu; have HU' := hid hu'; clear hu hu'))
     all_goals (go_wp2_with fail; go_meet; exact ⟨HU.out, HU'.out, ⟨Gr.out⟩⟩)
    case rest =>
     obtain ⟨hU, hU', ik2⟩ := hcut; clear AL0 AL1 AL2 AL3 ALJ; generalize sideX l (a, b) (c, d) 2 = P at *; generalize sideY l (a, b) (c, d) 2 = Q at *; generalize hwd : wc = wd at *; clear hwd; obtain ⟨a1, c1, rfl, -⟩ := hU.form; obtain ⟨a2, c2, rfl, -⟩ := hU'.form; generalize hZZ : sideZ P Q = Z at *; have HRI : Hid (RowI 130 P Q) := hid (.inl HXY.out); have HRJ : Hid (RowI 130 Q P) := hid (.inl HXY.out.symm); by_cases hq : Q = []
     · subst hq; have hT0 : sideT P [] = 0 := by unfold sideT; rw [if_pos rfl]
       have hR0 : sideR P [] = rowI P [] := by unfold sideR; rw [if_pos rfl]
       rw [show (([] : List Int).length) = 0 from rfl] at hU' ⊢
       have HSN2 := hid (show sumT l (a, b) (c, d) 3 = S by rw [HSN.out, hT0, Int.add_zero]; exact hSt.out.1.symm)
       have ZE := hid (fun (W : World) (u : Value) (v : VrC W) (h : Rw 160 EI W u (lastL (rowI P []))) => show Calls Tryz.prog 68 #[u] W (fun e w' => e = .returned (.bool Z) ∧ Kp0 W w') from by
        have := gaZero (hv := v) h (by decide) (by decide) (hR0 ▸ HRT.out.2)
        rwa [show zeroI (lastL (rowI P [])) = Z by rw [← hZZ, ← hR0]; rfl] at this)
       have HU := hid hU; have HU' := hid hU'; obtain ⟨nP, hnP⟩ : ∃ nP, nP = P.length := ⟨_, rfl⟩; rw [← hnP] at HU ⊢; clear hU hU' hTb hZZ hnP hT0 hR0; cases Z
       all_goals go_wp2_with (first | (go_at_call 66; (with_reducible refine Calls.mono (gaRow (hv := ⟨VrC.out⟩) (HU'.out.below eok_EI Gr.out) (HU.out.below eok_EI Gr.out) (by decide) (by decide) HRJ.out) ?_); rintro e wa ⟨va, rfl, hva, _⟩; clear hva) | (go_at_call 66; (with_reducible refine Calls.mono (gaRowS (hv := ⟨VrC.out⟩) (HU.out.below eok_EI Gr.out) (HU'.out.below eok_EI Gr.out) (by decide) (by decide) HRI.out) ?_); rintro e wb ⟨gR, oR, nR, cR, uR, rfl, hgR, ceR, h63, hPR, hvb, _⟩; haveI : Has wb gR := ⟨hgR⟩; have HPR := hid hPR; have hi0 : (0 : Int) ≤ (nR : Int) := Int.natCast_nonneg _; have hi1 : (nR : Int) < (nR : Int) + 1 := Int.lt_succ _; clear hvb hPR hgR) | (go_at_call 68; (with_reducible refine Calls.mono (ZE.out _ _ inferInstance (HPR.out.below eok_EI Gr.out)) ?_); rintro e wc ⟨rfl, _⟩))
       · go_round
         case rel => exact ⟨3, S, by first | rfl | go_num, rfl, .inr (.inr (.inr (.inl ⟨rfl, hid ⟨HSN2.out.symm, by rw [HTN.out, Bool.or_false]; exact hSt.out.2⟩⟩))), inferInstance, ⟨Gr.out⟩⟩
         case measure => simp [intOf]
       · go_ret2
         have hT4 := touchT_mono (k := 4) (show touchT l (a, b) (c, d) 3 = true by rw [HTN.out, Bool.or_true]) (by decide)
         exact ⟨by rw [HE1.out, HE2.out, if_pos hT4, if_pos hT4]; rfl, ⟨Gr.out⟩⟩
     · have hR0 : sideR P Q = rowI Q P := by unfold sideR; rw [if_neg hq]
       have hT0 : sideT P Q = turnI (rowI Q P) := by unfold sideT; rw [if_neg hq]
       obtain ⟨T, hT⟩ : ∃ T, T = turnI (rowI Q P) := ⟨_, rfl⟩; rw [hT0, ← hT] at hTb; have HSN2 := hid (show sumT l (a, b) (c, d) 3 = S + T by rw [HSN.out, hT0, ← hT, ← hSt.out.1])
       have ZE := hid (fun (W : World) (u : Value) (v : VrC W) (h : Rw 160 EI W u (lastL (rowI Q P))) => show Calls Tryz.prog 68 #[u] W (fun e w' => e = .returned (.bool Z) ∧ Kp0 W w') from by
        have := gaZero (hv := v) h (by decide) (by decide) (hR0 ▸ HRT.out.2)
        rwa [show zeroI (lastL (rowI Q P)) = Z by rw [← hZZ, ← hR0]; rfl] at this)
       have TE := hid (fun (W : World) (u : Value) (h : Rw 101 (Rw 160 EI) W u (rowI Q P)) => show Calls Tryz.prog 67 #[u] W (fun e w' => e = .returned (.int .i64 T) ∧ Kp0 W w') from by
        have := gaTurned h (hR0 ▸ HRT.out.1)
        rwa [← hT] at this)
       have hw : IntKind.i64.wrap (S + T) = S + T := IntWalk.i64_in _ (by omega)
       have HU := hid hU; have HU' := hid hU'; obtain ⟨nP, hnP⟩ : ∃ nP, nP = P.length := ⟨_, rfl⟩; obtain ⟨nQ, hnQ⟩ : ∃ nQ, nQ = Q.length := ⟨_, rfl⟩; have hnq : ((nQ : Int) == 0) = false := beq_eq_false_iff_ne.2 (by have := List.length_pos_iff.2 hq; omega)
       rw [← hnP] at HU ⊢; rw [← hnQ] at HU' ⊢; clear hU hU' hTb hZZ hnP hnQ hT0 hR0 hq hT; cases Z
       all_goals go_wp2_with (first | (go_at_call 66; (with_reducible refine Calls.mono (gaRowS (hv := ⟨VrC.out⟩) (HU'.out.below eok_EI Gr.out) (HU.out.below eok_EI Gr.out) (by decide) (by decide) HRJ.out) ?_); rintro e wb ⟨gR, oR, nR, cR, uR, rfl, hgR, ceR, h63, hPR, hvb, _⟩; haveI : Has wb gR := ⟨hgR⟩; have HPR := hid hPR; have HVB := hid hvb; have hi0 : (0 : Int) ≤ (nR : Int) := Int.natCast_nonneg _; have hi1 : (nR : Int) < (nR : Int) + 1 := Int.lt_succ _; clear hvb hPR hgR) | (go_at_call 67; (with_reducible refine Calls.mono (TE.out _ _ (HVB.out.below eok_EZ Gr.out)) ?_); rintro e wa ⟨rfl, _⟩) | (go_at_call 68; (with_reducible refine Calls.mono (ZE.out _ _ inferInstance (HPR.out.below eok_EI Gr.out)) ?_); rintro e wc ⟨rfl, _⟩))
       · go_round
         case rel => exact ⟨3, S + T, by first | rfl | go_num, by first | rfl | go_num, .inr (.inr (.inr (.inl ⟨rfl, hid ⟨HSN2.out.symm, by rw [HTN.out, Bool.or_false]; exact hSt.out.2⟩⟩))), inferInstance, ⟨Gr.out⟩⟩
         case measure => simp [intOf]
       · go_ret2
         have hT4 := touchT_mono (k := 4) (show touchT l (a, b) (c, d) 3 = true by rw [HTN.out, Bool.or_true]) (by decide)
         exact ⟨by rw [HE1.out, HE2.out, if_pos hT4, if_pos hT4]; rfl, ⟨Gr.out⟩⟩
  · skip
    have HXY := hid (side_start HASK.out 3); have HRT := hid (sideR_row (side_start HASK.out 3)); have HSN := hid (show sumT l (a, b) (c, d) 4 = sumT l (a, b) (c, d) 3 + sideT (sideX l (a, b) (c, d) 3) (sideY l (a, b) (c, d) 3) from rfl)
    have HTN := hid (touchT_next l (a, b) (c, d) 3); have hSb : -160 ≤ S ∧ S ≤ 160 := by have := sumT_bound HASK.out 3; rw [← hSt.out.1] at this; omega
    have hTb := (sideT_bound (sideX l (a, b) (c, d) 3) (sideY l (a, b) (c, d) 3)).resolve_right (by have := HXY.out.1; omega)
    have ALJ := AL3; go_upto_region 10 with fail
    go_cut [13, 14] from 46 to 58 (fun s13 s14 wx => Rw 160 EI wx s13 (sideX l (a, b) (c, d) 3) ∧ Rw 160 EI wx s14 (sideY l (a, b) (c, d) 3) ∧ Kp0 wr wx)
    case first =>
     go_region_held3 (fun W => W.cell? ⟨wr.heap.size, 0, none⟩ = some (.pointer (some ⟨p0, 0, none⟩)) ∧ W.cell? ⟨wr.heap.size, 1, none⟩ = some (.pointer (some ⟨q1, 0, none⟩)) ∧ W.cell? ⟨wq.heap.size, 0, none⟩ = some (.pointer (some ⟨p0, 0, none⟩)) ∧ W.cell? ⟨wq.heap.size, 1, none⟩ = some (.pointer (some ⟨q0, 0, none⟩))) (refine ⟨?_, ?_, ?_, ?_⟩ <;> (first | exact Bk.cell BkC.out rfl | (simp [go_sem]; done))) (first | (go_at_call 65; (with_reducible refine Calls.mono (gaSubC (by decide) (by decide) (by decide) (by decide)) ?_); rintro e wc ⟨_, _, rfl, _, _, _⟩) | (go_at_call 64; (with_reducible refine Calls.mono (ALJ.out _ _ _ _ _ inferInstance ⟨VrC.out⟩ inferInstance inferInstance inferInstance inferInstance) ?_); rintro e wd ⟨u, u', rfl, hu, hu', _⟩; have HU := hid hu; have HU' := hid hu'; clear hu hu'))
     all_goals (go_wp2_with fail; go_meet; exact ⟨HU.out, HU'.out, ⟨Gr.out⟩⟩)
    case rest =>
     obtain ⟨hU, hU', ik2⟩ := hcut; clear AL0 AL1 AL2 AL3 ALJ; generalize sideX l (a, b) (c, d) 3 = P at *; generalize sideY l (a, b) (c, d) 3 = Q at *; generalize hwd : wc = wd at *; clear hwd; obtain ⟨a1, c1, rfl, -⟩ := hU.form; obtain ⟨a2, c2, rfl, -⟩ := hU'.form; generalize hZZ : sideZ P Q = Z at *; have HRI : Hid (RowI 130 P Q) := hid (.inl HXY.out); have HRJ : Hid (RowI 130 Q P) := hid (.inl HXY.out.symm); by_cases hq : Q = []
     · subst hq; have hT0 : sideT P [] = 0 := by unfold sideT; rw [if_pos rfl]
       have hR0 : sideR P [] = rowI P [] := by unfold sideR; rw [if_pos rfl]
       rw [show (([] : List Int).length) = 0 from rfl] at hU' ⊢
       have HSN2 := hid (show sumT l (a, b) (c, d) 4 = S by rw [HSN.out, hT0, Int.add_zero]; exact hSt.out.1.symm)
       have ZE := hid (fun (W : World) (u : Value) (v : VrC W) (h : Rw 160 EI W u (lastL (rowI P []))) => show Calls Tryz.prog 68 #[u] W (fun e w' => e = .returned (.bool Z) ∧ Kp0 W w') from by
        have := gaZero (hv := v) h (by decide) (by decide) (hR0 ▸ HRT.out.2)
        rwa [show zeroI (lastL (rowI P [])) = Z by rw [← hZZ, ← hR0]; rfl] at this)
       have HU := hid hU; have HU' := hid hU'; obtain ⟨nP, hnP⟩ : ∃ nP, nP = P.length := ⟨_, rfl⟩; rw [← hnP] at HU ⊢; clear hU hU' hTb hZZ hnP hT0 hR0; cases Z
       all_goals go_wp2_with (first | (go_at_call 66; (with_reducible refine Calls.mono (gaRow (hv := ⟨VrC.out⟩) (HU'.out.below eok_EI Gr.out) (HU.out.below eok_EI Gr.out) (by decide) (by decide) HRJ.out) ?_); rintro e wa ⟨va, rfl, hva, _⟩; clear hva) | (go_at_call 66; (with_reducible refine Calls.mono (gaRowS (hv := ⟨VrC.out⟩) (HU.out.below eok_EI Gr.out) (HU'.out.below eok_EI Gr.out) (by decide) (by decide) HRI.out) ?_); rintro e wb ⟨gR, oR, nR, cR, uR, rfl, hgR, ceR, h63, hPR, hvb, _⟩; haveI : Has wb gR := ⟨hgR⟩; have HPR := hid hPR; have hi0 : (0 : Int) ≤ (nR : Int) := Int.natCast_nonneg _; have hi1 : (nR : Int) < (nR : Int) + 1 := Int.lt_succ _; clear hvb hPR hgR) | (go_at_call 68; (with_reducible refine Calls.mono (ZE.out _ _ inferInstance (HPR.out.below eok_EI Gr.out)) ?_); rintro e wc ⟨rfl, _⟩))
       · go_round
         case rel => exact ⟨4, S, by first | rfl | go_num, rfl, .inr (.inr (.inr (.inr (⟨rfl, hid ⟨HSN2.out.symm, by rw [HTN.out, Bool.or_false]; exact hSt.out.2⟩⟩)))), inferInstance, ⟨Gr.out⟩⟩
         case measure => simp [intOf]
       · go_ret2
         have hT4 := touchT_mono (k := 4) (show touchT l (a, b) (c, d) 4 = true by rw [HTN.out, Bool.or_true]) (by decide)
         exact ⟨by rw [HE1.out, HE2.out, if_pos hT4, if_pos hT4]; rfl, ⟨Gr.out⟩⟩
     · have hR0 : sideR P Q = rowI Q P := by unfold sideR; rw [if_neg hq]
       have hT0 : sideT P Q = turnI (rowI Q P) := by unfold sideT; rw [if_neg hq]
       obtain ⟨T, hT⟩ : ∃ T, T = turnI (rowI Q P) := ⟨_, rfl⟩; rw [hT0, ← hT] at hTb; have HSN2 := hid (show sumT l (a, b) (c, d) 4 = S + T by rw [HSN.out, hT0, ← hT, ← hSt.out.1])
       have ZE := hid (fun (W : World) (u : Value) (v : VrC W) (h : Rw 160 EI W u (lastL (rowI Q P))) => show Calls Tryz.prog 68 #[u] W (fun e w' => e = .returned (.bool Z) ∧ Kp0 W w') from by
        have := gaZero (hv := v) h (by decide) (by decide) (hR0 ▸ HRT.out.2)
        rwa [show zeroI (lastL (rowI Q P)) = Z by rw [← hZZ, ← hR0]; rfl] at this)
       have TE := hid (fun (W : World) (u : Value) (h : Rw 101 (Rw 160 EI) W u (rowI Q P)) => show Calls Tryz.prog 67 #[u] W (fun e w' => e = .returned (.int .i64 T) ∧ Kp0 W w') from by
        have := gaTurned h (hR0 ▸ HRT.out.1)
        rwa [← hT] at this)
       have hw : IntKind.i64.wrap (S + T) = S + T := IntWalk.i64_in _ (by omega)
       have HU := hid hU; have HU' := hid hU'; obtain ⟨nP, hnP⟩ : ∃ nP, nP = P.length := ⟨_, rfl⟩; obtain ⟨nQ, hnQ⟩ : ∃ nQ, nQ = Q.length := ⟨_, rfl⟩; have hnq : ((nQ : Int) == 0) = false := beq_eq_false_iff_ne.2 (by have := List.length_pos_iff.2 hq; omega)
       rw [← hnP] at HU ⊢; rw [← hnQ] at HU' ⊢; clear hU hU' hTb hZZ hnP hnQ hT0 hR0 hq hT; cases Z
       all_goals go_wp2_with (first | (go_at_call 66; (with_reducible refine Calls.mono (gaRowS (hv := ⟨VrC.out⟩) (HU'.out.below eok_EI Gr.out) (HU.out.below eok_EI Gr.out) (by decide) (by decide) HRJ.out) ?_); rintro e wb ⟨gR, oR, nR, cR, uR, rfl, hgR, ceR, h63, hPR, hvb, _⟩; haveI : Has wb gR := ⟨hgR⟩; have HPR := hid hPR; have HVB := hid hvb; have hi0 : (0 : Int) ≤ (nR : Int) := Int.natCast_nonneg _; have hi1 : (nR : Int) < (nR : Int) + 1 := Int.lt_succ _; clear hvb hPR hgR) | (go_at_call 67; (with_reducible refine Calls.mono (TE.out _ _ (HVB.out.below eok_EZ Gr.out)) ?_); rintro e wa ⟨rfl, _⟩) | (go_at_call 68; (with_reducible refine Calls.mono (ZE.out _ _ inferInstance (HPR.out.below eok_EI Gr.out)) ?_); rintro e wc ⟨rfl, _⟩))
       · go_round
         case rel => exact ⟨4, S + T, by first | rfl | go_num, by first | rfl | go_num, .inr (.inr (.inr (.inr (⟨rfl, hid ⟨HSN2.out.symm, by rw [HTN.out, Bool.or_false]; exact hSt.out.2⟩⟩)))), inferInstance, ⟨Gr.out⟩⟩
         case measure => simp [intOf]
       · go_ret2
         have hT4 := touchT_mono (k := 4) (show touchT l (a, b) (c, d) 4 = true by rw [HTN.out, Bool.or_true]) (by decide)
         exact ⟨by rw [HE1.out, HE2.out, if_pos hT4, if_pos hT4]; rfl, ⟨Gr.out⟩⟩
  · skip
    have h1 := hSt.out; have hSb : -160 ≤ S ∧ S ≤ 160 := by have := sumT_bound HASK.out 4; rw [← h1.1] at this; omega
    have HV1 : Hid (E1 = S.tdiv 4) := hid (by rw [HE1.out, if_neg (by rw [h1.2]; decide), h1.1])
    have HV2 : Hid (E2 = 0) := hid (by rw [HE2.out, if_neg (by rw [h1.2]; decide)])
    have hw : IntKind.i64.wrap (S.tdiv 4) = S.tdiv 4 := IntWalk.i64_in _ (by
     have e := tdiv4_bound hSb
     omega)
    clear h1; go_wp2_with fail
    go_ret2
    exact ⟨by rw [HV1.out, HV2.out]; rfl, ⟨Gr.out⟩⟩
theorem gaZeros {w : World} {g off cap : Nat} {l : List (Nat × Nat)} {a b c d : Nat} [hc : ClC w g off l] [hv : VrC w] (hl : okB l) (ha : a < 18446744073709551616) (hb : b < 18446744073709551616) (hc' : c < 18446744073709551616) (hd : d < 18446744073709551616) :
 Calls Tryz.prog 18 #[.slice (some ⟨g, off, none⟩) l.length cap, .agg #[.complex .f64 a b, .complex .f64 c d]] w fun e w' => e = .returned (.tuple #[.int .i64 (zerosN l (a, b) (c, d)).1, .int .i64 (zerosN l (a, b) (c, d)).2]) ∧ Kp0 w w' := by
 unfold zerosN; by_cases h : askE l (a, b) (c, d) = 0
 · rw [if_neg (fun k => k h)]
   have := gaZerosOk (hc := hc) (hv := ⟨hv.out⟩) (cap := cap) hl ha hb hc' hd h; by_cases ht : touchT l (a, b) (c, d) 4 = true
   · rw [if_pos ht, if_pos ht] at this; rw [if_pos ht]; exact this
   · rw [if_neg ht, if_neg ht] at this; rw [if_neg ht]; exact this
 · rw [if_pos h]; exact gaZerosErr hl ha hb hc' hd h
theorem ER.ra {R : Nat} {w : World} {k : Nat} {x : Qt} (h : ER R w (.pointer (some ⟨k, 0, none⟩)) x) : RaC R w k x := by
 obtain ⟨k', e, h'⟩ := h; simp only [Value.pointer.injEq, Option.some.injEq, Addr.mk.injEq, and_true] at e; exact e ▸ ⟨h'⟩
theorem eok_Q : EOk 92 (ER 125) := eok_ER (by decide) (by decide)
theorem eok_P : EOk 92 (EP 125) := eok_EP (by decide) (by decide)
def EV (w : World) (u : Value) (P : List Int) : Prop := Rw 92 (ER 125) w u (scI P)
theorem eok_QQ : EOk 108 (Rw 92 (ER 125)) := eok_rw eok_Q (by decide) (by decide) (by
 rintro w w' g C u x hg kp ⟨k, rfl, h⟩; exact ⟨k, rfl, h.keepO hg kp (by decide) (by decide)⟩)
theorem eok_EV : EOk 108 EV where
 ne := eok_QQ.ne
 below := fun h b => eok_QQ.below h b
 keep := fun hg kp h => eok_QQ.keep hg kp h
 one := fun h => eok_QQ.one h
theorem info92z : (Tryz.prog.info? 92).map (fun i => (i.zero, i.size, i.bytes)) = some (some (.pointer none), 1, 8) := by kernel_rfl
theorem und108z : Tryz.prog.underlying 108 = some (.slice 92) := by kernel_rfl
theorem info108z : (Tryz.prog.info? 108).map (fun i => (i.zero, i.size, i.bytes)) = some (some (.slice none 0 0), 1, 24) := by kernel_rfl
theorem und112z : Tryz.prog.underlying 112 = some (.slice 108) := by kernel_rfl
theorem app_q {α : Type} {E : World → Value → α → Prop} (e : EOk 92 E) {ops : Array Oper} {rest : List Oper} {o : Oper} {a : Act} {w : World} {Q : Exit → Act → World → Prop} (hgd : o.guard = none) (s x : Operand)
 (ho : o.op = .call { callee := .builtin .append, args := #[s, x], argTypes := #[108, 108] }) (base : Nat) {v : Value} {l m : List α} (hs : a.eval s = v) (hown : Ox 92 E base w v l)
 {ad : Option Addr} {k c : Nat} (hx : a.eval x = .slice ad k c) (hm : Rw 92 E w (.slice ad k c) m) (h0 : 0 < m.length) (hlen : l.length + m.length ≤ 1048576) (hbase : base ≤ w.heap.size)
 (h : ∀ g cap n' w', n' = l.length + m.length → Ox 92 E base w' (.slice (some ⟨g, 0, none⟩) n' cap) (l ++ m) → base ≤ g → (∀ v0 : World, v0.heap.size ≤ base → Below v0.heap.size v0 w → Below v0.heap.size v0 w') → (∀ u y, E w u y → E w' u y) → wpList Tryz.prog ops Q rest (a.put o.dst (.slice (some ⟨g, 0, none⟩) n' cap)) w') :
 wpList Tryz.prog ops Q (o :: rest) a w := by
 obtain ⟨ti, hti, htz, hts, htb⟩ := info_parts info92z; exact app_row e hgd s x 108 ho base ti _ 8 und108z hti htz hts htb rfl (by decide) hs hown hx hm h0 hlen hbase h
theorem app_v {ops : Array Oper} {rest : List Oper} {o : Oper} {a : Act} {w : World} {Q : Exit → Act → World → Prop} (hgd : o.guard = none) (s x : Operand)
 (ho : o.op = .call { callee := .builtin .append, args := #[s, x], argTypes := #[112, 112] }) (base : Nat) {v : Value} {l m : List (List Int)} (hs : a.eval s = v) (hown : Ox 108 EV base w v l)
 {ad : Option Addr} {k c : Nat} (hx : a.eval x = .slice ad k c) (hm : Rw 108 EV w (.slice ad k c) m) (h0 : 0 < m.length) (hlen : l.length + m.length ≤ 1048576) (hbase : base ≤ w.heap.size)
 (h : ∀ g cap n' w', n' = l.length + m.length → Ox 108 EV base w' (.slice (some ⟨g, 0, none⟩) n' cap) (l ++ m) → base ≤ g → (∀ v0 : World, v0.heap.size ≤ base → Below v0.heap.size v0 w → Below v0.heap.size v0 w') → (∀ u y, EV w u y → EV w' u y) → wpList Tryz.prog ops Q rest (a.put o.dst (.slice (some ⟨g, 0, none⟩) n' cap)) w') :
 wpList Tryz.prog ops Q (o :: rest) a w := by
 obtain ⟨ti, hti, htz, hts, htb⟩ := info_parts info108z; exact app_row eok_EV hgd s x 112 ho base ti _ 24 und112z hti htz hts htb rfl (by decide) hs hown hx hm h0 hlen hbase h
theorem cutI_pre (l : List Int) : cutI l = l.take (cutI l).length := by
 induction l with
 | nil => rfl
 | cons x t ih =>
   rw [cutI]
   split
   · rfl
   · rw [List.length_cons, List.take_succ_cons, ← ih]
theorem reRow {w : World} {a : Option Addr} {cap D : Nat} {l : List Int} (h : Rw 92 (ER 125) w (.slice a l.length cap) (ovR D l)) (hD : D ≠ 0) (hn : l.length ≤ 4096) :
 Calls Tryz.prog 118 #[.slice a l.length cap] w fun e w' => e = .returned (.slice a (cutI l).length cap) ∧ w' = w := by
 have HH := hid h; have HD := hid hD
 have hcap : l.length ≤ cap := by
  obtain ⟨a', cap', h1, h2, -⟩ := h; simp only [Value.slice.injEq] at h1; rw [ovR_len] at h2; omega
 obtain ⟨n, hn2⟩ : ∃ n, n = l.length := ⟨_, rfl⟩; have HL := hid hn2; rw [← hn2] at hn hcap HH ⊢; clear h hn2 hD; go_enter Tryz.func118, Tryz.ntmps118; go_wp2_with fail
 go_loop [0] (fun s0 => ∃ k : Nat, s0 = .slice a k cap ∧ k ≤ n ∧ Hid (∀ i, k ≤ i → ∀ x, l[i]? = some x → x = 0)) (fun s0 => match s0 with | .slice _ k _ => k | _ => 0)
 case atStart => exact ⟨n, rfl, Nat.le_refl _, hid (fun i hi x hx => by rw [List.getElem?_eq_none (by rw [← HL.out]; exact hi)] at hx; cases hx)⟩
 case round =>
  obtain ⟨k, rfl, hk, h0⟩ := hrel
  have fin : Hid ((k = 0 ∨ ∃ x, l[k - 1]? = some x ∧ x ≠ 0) → k = (cutI l).length) := hid (fun hh => by
   rw [← cutI_take h0.out hh, List.length_take, ← HL.out, Nat.min_eq_left hk])
  rcases Nat.eq_zero_or_pos k with rfl | hkp
  · go_wp2_with fail
    go_ret
    exact ⟨by rw [← fin.out (.inl (by trivial))]; rfl, rfl⟩
  · obtain ⟨j, rfl⟩ : ∃ j, k = j + 1 := ⟨k - 1, by omega⟩
    have hx : l[j]? = some l[j] := List.getElem?_eq_getElem (by rw [← HL.out]; omega)
    generalize l[j] = x at hx; obtain ⟨g, off, u, rfl, hg, cj, p2, rfl, hI⟩ := HH.out.at (ovR_at (D := D) hx); haveI : Has w g := ⟨hg⟩; haveI : RaC 125 w p2 (mkRat x D) := ⟨hI⟩; have hpI : (0 : Int) < ((j + 1 : Nat) : Int) := by omega
    have e1 : ((j + 1 : Nat) : Int) - 1 = (j : Int) := by omega
    have hjc : (j : Int) ≤ (cap : Int) := by omega
    have hj0 : (0 : Int) ≤ (j : Int) := by omega
    have HX := hid hx; have SGN := mk_sign x HD.out; clear hx hI hkp; by_cases h1 : x = 0
    · have b1 : ((mkRat x D).num.sign == 0) = true := by rw [SGN, h1]; rfl
      have H1 := hid h1; clear h1 SGN; go_wp2_with ((go_at_call 97; (with_reducible refine Calls.mono (reSignC) ?_); rintro e w' ⟨rfl, hw⟩; obtain rfl := hw.symm))
      go_round
      case rel => exact ⟨j, rfl, by omega, hid (fun i hi y hy => by
       rcases Nat.lt_or_eq_of_le hi with h | h
       · exact h0.out i h y hy
       · subst h; rw [HX.out] at hy; exact (Option.some.inj hy) ▸ H1.out)⟩
      case measure => simp
    · have b1 : ((mkRat x D).num.sign == 0) = false := beq_eq_false_iff_ne.2 (fun h => h1 (Int.sign_eq_zero_iff_zero.1 (SGN ▸ h)))
      have H1 := hid h1; clear h1 SGN; go_wp2_with ((go_at_call 97; (with_reducible refine Calls.mono (reSignC) ?_); rintro e w' ⟨rfl, hw⟩; obtain rfl := hw.symm))
      go_ret
      exact ⟨by rw [← fin.out (.inr ⟨x, HX.out, H1.out⟩)]; rfl, rfl⟩
theorem reSigns {w : World} {v : Value} {l : List Int} {D L : Nat} (h : Rw 92 (ER 125) w v (ovR D l)) (hD : D ≠ 0) (hn : l.length ≤ 4096) (hs : SzI L l) (hDl : (words D).length ≤ L) (hL : L ≤ 17000000000) :
 Calls Tryz.prog 122 #[v] w fun e w' => e = .returned (.tuple #[.int .i64 (endsI l).1, .int .i64 (endsI l).2]) ∧ Kp0 w w' := by
 obtain ⟨a, cap, rfl, hcap⟩ := h.form; obtain ⟨E1, hE1⟩ : ∃ E, E = (endsI l).1 := ⟨_, rfl⟩; obtain ⟨E2, hE2⟩ : ∃ E, E = (endsI l).2 := ⟨_, rfl⟩; rw [← hE1, ← hE2]; obtain ⟨n, hn2⟩ : ∃ n, n = l.length := ⟨_, rfl⟩; have HL := hid hn2; have es : (.slice a (ovR D l).length cap : Value) = .slice a n cap := by rw [ovR_len, hn2]
 rw [es] at h ⊢; rw [← hn2] at hn; have HH := hid h; have HD := hid hD; have SU := hid (fun j : Nat => show j ≤ 4096 → SmC (mkRat (sumI (l.take j)) D) 17179869184 from fun hj => ⟨Sm.mk hD (by have := sumI_len hs j; omega) (by omega)⟩)
 have SE := hid (fun (j : Nat) (x : Int) (hx : l[j]? = some x) => show SmC (mkRat x D) 17179869184 from ⟨Sm.mk hD (by have := hs.at hx; omega) (by omega)⟩)
 have HE1 := hid hE1; have HE2 := hid hE2; clear h hn2 es hs hL hDl hD hE1 hE2 hcap; go_enter Tryz.func122, Tryz.ntmps122; go_wp2_with fail
 go_loopw [5] (fun s5 wx => ∃ j : Nat, s5 = .int .i64 j ∧ j ≤ n ∧ RaC 125 wx w.heap.size (mkRat (sumI (l.take j)) D) ∧ Kp0 w wx) (fun s5 _ => n - (intOf s5).toNat)
 case atStart =>
  refine ⟨0, rfl, by omega, ?_, ⟨Gr.out⟩⟩
  rw [List.take_zero, show sumI [] = 0 from rfl, Rat.zero_mkRat]
  infer_instance
 case round =>
  obtain ⟨j, rfl, hj, is, ik⟩ := hrel; by_cases hjn : j = n
  · subst hjn; rw [show l.take j = l by rw [HL.out, List.take_length]] at is
    rcases j with _ | m
    · obtain rfl : l = [] := List.length_eq_zero_iff.1 HL.out.symm; clear hj; go_wp2_with fail
      go_ret2
      exact ⟨by rw [HE1.out, HE2.out]; rfl, ⟨Gr.out⟩⟩
    · have hx := getD_some (l := l) (i := 0) (by rw [← HL.out]; omega)
      have hne : l ≠ [] := by rintro rfl; exact absurd HL.out (by simp)
      have HX1 : Hid (E1 = (l.getD 0 0).sign) := hid (by
       rw [HE1.out]; unfold endsI; rw [if_neg hne, List.head?_eq_getElem?, hx]
       rfl)
      have HX2 : Hid (E2 = (sumI l).sign) := hid (by
       rw [HE2.out]; unfold endsI; rw [if_neg hne])
      generalize l.getD 0 0 = x at *; obtain ⟨g, off, u, rfl, hg, cj, p2, rfl, hIx⟩ := HH.out.at (ovR_at (D := D) hx); haveI : Has w g := ⟨hg⟩; haveI : RaC 125 w p2 (mkRat x D) := ⟨hIx⟩; rw [Nat.add_zero] at cj; have hnI : (((m + 1 : Nat) : Int) == 0) = false := beq_eq_false_iff_ne.2 (by omega)
      have hnp : (0 : Int) < ((m + 1 : Nat) : Int) := by omega
      have HS1 := hid (mk_sign x HD.out); have HS2 := hid (mk_sign (sumI l) HD.out); clear hj hx hIx hne; go_wp2_with ((go_at_call 97; (with_reducible refine Calls.mono (reSignC) ?_); rintro e w' ⟨rfl, hw⟩; obtain rfl := hw.symm))
      go_ret2
      exact ⟨by rw [HX1.out, HX2.out, ← HS1.out, ← HS2.out]; rfl, ⟨Gr.out⟩⟩
  · have hlt : j < n := by omega
    have hI : (j : Int) < (n : Int) := by omega
    have h0 : (0 : Int) ≤ (j : Int) := by omega
    have hx : l[j]? = some l[j] := List.getElem?_eq_getElem (by rw [← HL.out]; omega)
    generalize l[j] = x at hx; obtain ⟨g, off, u, rfl, hg, cj, p2, rfl, hIx⟩ := HH.out.at (ovR_at (D := D) hx); haveI : Has w g := ⟨hg⟩; haveI : RaC 125 w p2 (mkRat x D) := ⟨hIx⟩; have HX := hid (show mkRat (sumI (l.take j)) D + mkRat x D = mkRat (sumI (l.take (j + 1))) D by rw [mk_add _ _ HD.out, sumI_take hx])
    haveI := SU.out j (by omega)
    haveI := SE.out j x hx; clear hx hIx hjn hj; go_wp2_with ((go_at_call 143; (with_reducible refine Calls.mono (erAddC (Nat.le_refl _) (Nat.le_refl _)) ?_); rintro e wc ⟨rfl, hadd, _⟩))
    go_round
    case rel =>
     refine ⟨j + 1, by go_num, by omega, ?_, ⟨Gr.out⟩⟩
     rw [← HX.out]; exact hadd
    case measure => first | (simp [intOf]; done) | (simp [intOf]; omega)
theorem reAway {w : World} {a b : Int} (ha : -1 ≤ a ∧ a ≤ 1) (hb : -1 ≤ b ∧ b ≤ 1) :
 Calls Tryz.prog 123 #[.int .i64 a, .int .i64 b] w fun e w' => e = .returned (.int .i64 (absd a b)) ∧ w' = w := by
 have w1 : IntKind.i64.wrap (a - b) = a - b := IntWalk.i64_in _ (by omega)
 have w2 : IntKind.i64.wrap (b - a) = b - a := IntWalk.i64_in _ (by omega)
 obtain ⟨V, hV⟩ : ∃ V, V = absd a b := ⟨_, rfl⟩; rw [← hV]; unfold absd at hV; by_cases h : b < a
 · have hV2 := hid (show V = a - b by omega)
   clear hV ha hb; go_enter Tryz.func123, Tryz.ntmps123; go_wp2_with fail
   go_ret
   exact ⟨by rw [hV2.out]; rfl, rfl⟩
 · have hV2 := hid (show V = b - a by omega)
   clear hV ha hb; go_enter Tryz.func123, Tryz.ntmps123; go_wp2_with fail
   go_ret
   exact ⟨by rw [hV2.out]; rfl, rfl⟩
end Go.Proofs.YthjeejnggpjnjaaGreatDoor
