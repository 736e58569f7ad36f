/- A part: DK, DL. -/
import Derived.Test.YthjeejnggpjnjaaGreatDoorZF27
set_option linter.unusedSimpArgs false
set_option linter.unusedVariables false
set_option maxRecDepth 100000
set_option maxHeartbeats 16000000
set_option synthInstance.maxHeartbeats 2000000
set_option synthInstance.maxSize 100000
namespace Go.Proofs.YthjeejnggpjnjaaGreatDoor
open Go.RowKit
instance clC_new3 (v : World) (s a b c d e f : Nat) [hs : HasSize v s] : ClC (v.alloc (.cells #[.complex .f64 a b, .complex .f64 c d, .complex .f64 e f] 29)) s 0 [(a, b), (c, d), (e, f)] := ⟨⟨_, block_at _ _ _, fun i x hx => by
 rw [Nat.zero_add]; rcases i with _ | _ | _ | i
 · obtain rfl := Option.some.inj hx; rfl
 · obtain rfl := Option.some.inj hx; rfl
 · obtain rfl := Option.some.inj hx; rfl
 · cases hx⟩⟩
instance clC_new2 (v : World) (s a b c d : Nat) [hs : HasSize v s] : ClC (v.alloc (.cells #[.complex .f64 a b, .complex .f64 c d] 29)) s 0 [(a, b), (c, d)] := ⟨⟨_, block_at _ _ _, fun i x hx => by
 rw [Nat.zero_add]; rcases i with _ | _ | i
 · obtain rfl := Option.some.inj hx; rfl
 · obtain rfl := Option.some.inj hx; rfl
 · cases hx⟩⟩
instance szC_l0 : SzC ⟨#[48]⟩ := ⟨by decide⟩
instance szC_l1 : SzC ⟨#[49]⟩ := ⟨by decide⟩
instance szC_l2 : SzC ⟨#[50]⟩ := ⟨by decide⟩
instance szC_l3 : SzC ⟨#[51]⟩ := ⟨by decide⟩
instance szC_l4 : SzC ⟨#[52]⟩ := ⟨by decide⟩
instance szC_lm1 : SzC ⟨#[45, 49]⟩ := ⟨by decide⟩
theorem aw10 {W : World}  : Calls Tryz.prog 31 #[.int .i64 1, .int .i64 0] W fun e w' => e = .returned (.agg #[.string ⟨#[49]⟩, .string ⟨#[49]⟩, .string ⟨#[48]⟩, .string ⟨#[49]⟩]) ∧ Kp0 W w' := by
 refine (gaWhole (x := 1) (y := 0) (by decide) (by decide) (by decide) (by decide)).mono ?_
 rintro e w' ⟨rfl, hk⟩; exact ⟨congrArg Ending.returned (by kernel_rfl), hk⟩
theorem aw11 {W : World}  : Calls Tryz.prog 31 #[.int .i64 1, .int .i64 1] W fun e w' => e = .returned (.agg #[.string ⟨#[49]⟩, .string ⟨#[49]⟩, .string ⟨#[49]⟩, .string ⟨#[49]⟩]) ∧ Kp0 W w' := by
 refine (gaWhole (x := 1) (y := 1) (by decide) (by decide) (by decide) (by decide)).mono ?_
 rintro e w' ⟨rfl, hk⟩; exact ⟨congrArg Ending.returned (by kernel_rfl), hk⟩
theorem aw00 {W : World}  : Calls Tryz.prog 31 #[.int .i64 0, .int .i64 0] W fun e w' => e = .returned (.agg #[.string ⟨#[48]⟩, .string ⟨#[49]⟩, .string ⟨#[48]⟩, .string ⟨#[49]⟩]) ∧ Kp0 W w' := by
 refine (gaWhole (x := 0) (y := 0) (by decide) (by decide) (by decide) (by decide)).mono ?_
 rintro e w' ⟨rfl, hk⟩; exact ⟨congrArg Ending.returned (by kernel_rfl), hk⟩
theorem awDiv {W : World} [hv : VrC W] : Calls Tryz.prog 38 #[.agg #[.string ⟨#[49]⟩, .string ⟨#[49]⟩, .string ⟨#[48]⟩, .string ⟨#[49]⟩], .agg #[.string ⟨#[49]⟩, .string ⟨#[49]⟩, .string ⟨#[49]⟩, .string ⟨#[49]⟩]] W fun e w' => e = .returned (.tuple #[.agg #[.string ⟨#[49]⟩, .string ⟨#[50]⟩, .string ⟨#[45, 49]⟩, .string ⟨#[50]⟩], .int .i64 0]) ∧ Kp0 W w' := by
 refine (gaDivOk (hv := ⟨hv.out⟩) (by kernel_rfl) (by kernel_rfl) (by decide +kernel)).mono ?_
 rintro e w' ⟨rfl, hk⟩; exact ⟨congrArg Ending.returned (by kernel_rfl), hk⟩
theorem awDiv0 {W : World} [hv : VrC W] : Calls Tryz.prog 38 #[.agg #[.string ⟨#[49]⟩, .string ⟨#[49]⟩, .string ⟨#[48]⟩, .string ⟨#[49]⟩], .agg #[.string ⟨#[48]⟩, .string ⟨#[49]⟩, .string ⟨#[48]⟩, .string ⟨#[49]⟩]] W fun e w' => e = .returned (.tuple #[.agg #[.string ⟨#[]⟩, .string ⟨#[]⟩, .string ⟨#[]⟩, .string ⟨#[]⟩], .int .i64 31]) ∧ Kp0 W w' := by
 refine (gaDivZero (hv := ⟨hv.out⟩) (by kernel_rfl) (by kernel_rfl) (by decide +kernel)).mono ?_
 rintro e w' ⟨rfl, hk⟩; exact ⟨congrArg Ending.returned (by kernel_rfl), hk⟩
theorem awNear {W : World} [hv : VrC W] : Calls Tryz.prog 28 #[.agg #[.string ⟨#[49]⟩, .string ⟨#[51]⟩, .string ⟨#[45, 49]⟩, .string ⟨#[51]⟩]] W fun e w' => e = .returned (.tuple #[.complex .f64 4599676419421066581 13823048456275842389, .int .i64 0]) ∧ Kp0 W w' := by
 refine (gaNearOk (hv := ⟨hv.out⟩) (by kernel_rfl) (by kernel_rfl) (by kernel_rfl)).mono ?_
 rintro e w' ⟨rfl, hk⟩; exact ⟨congrArg Ending.returned (by kernel_rfl), hk⟩
theorem awCheck {W : World} [hv : VrC W] : Calls Tryz.prog 33 #[.agg #[.string ⟨#[50]⟩, .string ⟨#[52]⟩, .string ⟨#[48]⟩, .string ⟨#[49]⟩]] W fun e w' => e = .returned (.int .i64 30) ∧ Kp0 W w' := by
 refine (gaCheckX (hv := ⟨hv.out⟩)).mono ?_
 rintro e w' ⟨rfl, hk⟩; exact ⟨congrArg Ending.returned (by kernel_rfl), hk⟩
theorem awAt {W : World} {g : Nat} [q : ClC W g 0 [(4607182418800017408, 0), (0, 0), (4607182418800017408, 0)]] [hv : VrC W] : Calls Tryz.prog 14 #[.slice (some ⟨g, 0, none⟩) 3 3, .complex .f64 0 4607182418800017408] W fun e w' => e = .returned (.tuple #[.agg #[.string ⟨#[48]⟩, .string ⟨#[49]⟩, .string ⟨#[48]⟩, .string ⟨#[49]⟩], .int .i64 0]) ∧ Kp0 W w' := by
 refine (gaAtOk (hc := q) (hv := ⟨hv.out⟩) (cap := 3) (z := (0, 4607182418800017408)) (l := [(4607182418800017408, 0), (0, 0), (4607182418800017408, 0)]) (by unfold okB; decide) (by decide) (by decide) (by decide) (by kernel_rfl) (by kernel_rfl) (by kernel_rfl)).mono ?_
 rintro e w' ⟨rfl, hk⟩; exact ⟨congrArg Ending.returned (by kernel_rfl), hk⟩
theorem awZ2 {W : World} {g : Nat} [q : ClC W g 0 [(4607182418800017408, 0), (0, 0), (4607182418800017408, 0)]] [hv : VrC W] : Calls Tryz.prog 18 #[.slice (some ⟨g, 0, none⟩) 3 3, .agg #[.complex .f64 13835058055282163712 13835058055282163712, .complex .f64 4611686018427387904 4611686018427387904]] W fun e w' => e = .returned (.tuple #[.int .i64 2, .int .i64 0]) ∧ Kp0 W w' := by
 refine (gaZeros (hc := q) (cap := 3) (l := [(4607182418800017408, 0), (0, 0), (4607182418800017408, 0)]) (by unfold okB; decide) (by decide) (by decide) (by decide) (by decide)).mono ?_
 rintro e w' ⟨rfl, hk⟩; exact ⟨congrArg Ending.returned (by kernel_rfl), hk⟩
theorem awZ0 {W : World} {g : Nat} [q : ClC W g 0 [(0, 0), (0, 0), (4607182418800017408, 0)]] [hv : VrC W] : Calls Tryz.prog 18 #[.slice (some ⟨g, 0, none⟩) 3 3, .agg #[.complex .f64 13835058055282163712 13835058055282163712, .complex .f64 4611686018427387904 4611686018427387904]] W fun e w' => e = .returned (.tuple #[.int .i64 2, .int .i64 0]) ∧ Kp0 W w' := by
 refine (gaZeros (hc := q) (cap := 3) (l := [(0, 0), (0, 0), (4607182418800017408, 0)]) (by unfold okB; decide) (by decide) (by decide) (by decide) (by decide)).mono ?_
 rintro e w' ⟨rfl, hk⟩; exact ⟨congrArg Ending.returned (by kernel_rfl), hk⟩
theorem awZm {W : World} {g : Nat} [q : ClC W g 0 [(13835058055282163712, 0), (4607182418800017408, 0)]] [hv : VrC W] : Calls Tryz.prog 18 #[.slice (some ⟨g, 0, none⟩) 2 2, .agg #[.complex .f64 13835058055282163712 13835058055282163712, .complex .f64 4611686018427387904 4611686018427387904]] W fun e w' => e = .returned (.tuple #[.int .i64 0, .int .i64 32]) ∧ Kp0 W w' := by
 refine (gaZeros (hc := q) (cap := 2) (l := [(13835058055282163712, 0), (4607182418800017408, 0)]) (by unfold okB; decide) (by decide) (by decide) (by decide) (by decide)).mono ?_
 rintro e w' ⟨rfl, hk⟩; exact ⟨congrArg Ending.returned (by kernel_rfl), hk⟩
theorem lwAwake {w : World} [hv : VrB w] : Calls Tryz.prog 12 #[] w fun e w' => e = .returned (.bool true) ∧ Kp0 w w' := by
 have f1 : (FloatKind.f64.format.order 4599676419421066581 4599676419421066581 == some Ordering.eq) = true := by kernel_rfl
 have f2 : (FloatKind.f64.format.order 13823048456275842389 13823048456275842389 == some Ordering.eq) = true := by kernel_rfl
 go_enter Tryz.func12, Tryz.ntmps12; go_upto_region 6 with (first | (go_at_call 31; (with_reducible refine Calls.mono (aw10) ?_); rintro e wc ⟨rfl, _⟩) | (go_at_call 31; (with_reducible refine Calls.mono (aw11) ?_); rintro e wc ⟨rfl, _⟩) | (go_at_call 31; (with_reducible refine Calls.mono (aw00) ?_); rintro e wc ⟨rfl, _⟩) | (go_at_call 38; (with_reducible refine Calls.mono (awDiv) ?_); rintro e wd1 ⟨rfl, _⟩) | (go_at_call 38; (with_reducible refine Calls.mono (awDiv0) ?_); rintro e wd2 ⟨rfl, _⟩) | (go_at_call 52; (with_reducible refine Calls.mono (lwRatio) ?_); rintro e wc ⟨rfl, _⟩) | (go_at_call 28; (with_reducible refine Calls.mono (awNear) ?_); rintro e wc ⟨rfl, _⟩) | (go_at_call 14; (with_reducible refine Calls.mono (awAt) ?_); rintro e wat ⟨rfl, _⟩))
 go_upto_region 7 with (go_at_call 18; (with_reducible refine Calls.mono (awZ2) ?_); rintro e wc ⟨rfl, _⟩)
 go_upto_region 8 with (go_at_call 18; (with_reducible refine Calls.mono (awZ0) ?_); rintro e wc ⟨rfl, _⟩)
 go_upto_region 9 with (go_at_call 18; (with_reducible refine Calls.mono (awZm) ?_); rintro e wc ⟨rfl, _⟩)
 go_region_held3 (fun W => W.cell? ⟨wd1.heap.size, 0, none⟩ = some (.string ⟨#[49]⟩) ∧ W.cell? ⟨wd1.heap.size, 1, none⟩ = some (.string ⟨#[50]⟩) ∧ W.cell? ⟨wd1.heap.size, 2, none⟩ = some (.string ⟨#[45, 49]⟩) ∧ W.cell? ⟨wd1.heap.size, 3, none⟩ = some (.string ⟨#[50]⟩)) (refine ⟨?_, ?_, ?_, ?_⟩ <;> (first | exact Bk.cell BkC.out rfl | (simp [go_sem]; done))) (first | (go_at_call 52; (with_reducible refine Calls.mono (lwRatio) ?_); rintro e wc ⟨rfl, _⟩))
 all_goals (go_wp2_with fail)
 go_region_held3 (fun W => W.cell? ⟨wat.heap.size, 0, none⟩ = some (.string ⟨#[48]⟩) ∧ W.cell? ⟨wat.heap.size, 1, none⟩ = some (.string ⟨#[49]⟩) ∧ W.cell? ⟨wat.heap.size, 2, none⟩ = some (.string ⟨#[48]⟩) ∧ W.cell? ⟨wat.heap.size, 3, none⟩ = some (.string ⟨#[49]⟩)) (refine ⟨?_, ?_, ?_, ?_⟩ <;> (first | exact Bk.cell BkC.out rfl | (simp [go_sem]; done))) (first | (go_at_call 31; (with_reducible refine Calls.mono (aw00) ?_); rintro e wc ⟨rfl, _⟩) | (go_at_call 52; (with_reducible refine Calls.mono (lwRatio) ?_); rintro e wc ⟨rfl, _⟩) | (go_at_call 33; (with_reducible refine Calls.mono (awCheck) ?_); rintro e wc ⟨rfl, _⟩))
 all_goals (go_wp2_with fail)
 all_goals go_ret
 all_goals exact ⟨rfl, ⟨Gr.out⟩⟩
theorem lawFloats {w : World} {x y : Nat} {a b c d : ByteArray} {re im : Int} [sa : SzC a] [sb : SzC b] [sc : SzC c] [sd : SzC d] [hv : VrB w] (hx : x < 18446744073709551616) (hy : y < 18446744073709551616) (h1 : -9223372036854775808 ≤ re) (h2 : re < 9223372036854775808) (h3 : -9223372036854775808 ≤ im) (h4 : im < 9223372036854775808) :
 Calls Tryz.prog 8 #[.agg #[.int .u64 (x : Int), .int .u64 (y : Int)], .agg #[.string a, .string b, .string c, .string d], .int .i64 re, .int .i64 im] w fun e w' => e = .returned (.bool true) ∧ Kp0 w w' := by
 obtain ⟨s0, s1, s2, s3, E, P1, D1⟩ := prOf hx hy; obtain ⟨u, v, F, P2, D2⟩ := prNear (a := a) (b := b) (c := c) (d := d); obtain ⟨t0, t1, t2, t3, P3, D3⟩ := prWhole h1 h2 h3 h4; go_enter Tryz.func8, Tryz.ntmps8; go_wp2_with (first | (go_at_call 12; (with_reducible refine Calls.mono (lwAwake (hv := ⟨VrC.out⟩)) ?_); rintro e wc ⟨rfl, _⟩) | (go_at_call 15; (with_reducible refine Calls.mono (lwNumber) ?_); rintro e wc ⟨rfl, _⟩) | (go_at_call 26; (with_reducible refine Calls.mono (P1.out _ inferInstance) ?_); rintro e wc ⟨rfl, _⟩) | (go_at_call 27; (with_reducible refine Calls.mono (D1.out _) ?_); rintro e wc ⟨rfl, _⟩) | (go_at_call 28; (with_reducible refine Calls.mono (P2.out _ inferInstance) ?_); rintro e wc ⟨rfl, _⟩) | (go_at_call 29; (with_reducible refine Calls.mono (D2.out _) ?_); rintro e wc ⟨rfl, _⟩) | (go_at_call 30; (with_reducible refine Calls.mono lwSame ?_); rintro e w' ⟨rfl, hw⟩; obtain rfl := hw.symm) | (go_at_call 31; (with_reducible refine Calls.mono (P3.out _) ?_); rintro e wc ⟨rfl, _⟩) | (go_at_call 32; (with_reducible refine Calls.mono (D3.out _) ?_); rintro e wc ⟨rfl, _⟩))
 go_ret
 exact ⟨rfl, ⟨Gr.out⟩⟩
end Go.Proofs.YthjeejnggpjnjaaGreatDoor
