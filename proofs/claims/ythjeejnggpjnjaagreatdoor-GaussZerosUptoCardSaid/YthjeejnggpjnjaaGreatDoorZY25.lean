/- A part: DK, EA, EB, FH, GJ. -/
import Derived.Test.YthjeejnggpjnjaaGreatDoorZY24
set_option linter.unusedSimpArgs false
set_option linter.unusedVariables false
set_option maxRecDepth 100000
set_option maxHeartbeats 16000000
set_option synthInstance.maxHeartbeats 2000000
set_option synthInstance.maxSize 100000
namespace Go.Proofs.YthjeejnggpjnjaaGreatDoor
open Go.RowKit
instance clC_new3 (v : World) (s a b c d e f : Nat) [hs : HasSize v s] : ClC (v.alloc (.cells #[.complex .f64 a b, .complex .f64 c d, .complex .f64 e f] 29)) s 0 [(a, b), (c, d), (e, f)] := ⟨⟨_, block_at _ _ _, fun i x hx => by
 rw [Nat.zero_add]; rcases i with _ | _ | _ | i
 · obtain rfl := Option.some.inj hx; rfl
 · obtain rfl := Option.some.inj hx; rfl
 · obtain rfl := Option.some.inj hx; rfl
 · cases hx⟩⟩
instance clC_new2 (v : World) (s a b c d : Nat) [hs : HasSize v s] : ClC (v.alloc (.cells #[.complex .f64 a b, .complex .f64 c d] 29)) s 0 [(a, b), (c, d)] := ⟨⟨_, block_at _ _ _, fun i x hx => by
 rw [Nat.zero_add]; rcases i with _ | _ | i
 · obtain rfl := Option.some.inj hx; rfl
 · obtain rfl := Option.some.inj hx; rfl
 · cases hx⟩⟩
instance szC_l0 : SzC ⟨#[48]⟩ := ⟨by decide⟩
instance szC_l1 : SzC ⟨#[49]⟩ := ⟨by decide⟩
instance szC_l2 : SzC ⟨#[50]⟩ := ⟨by decide⟩
instance szC_l3 : SzC ⟨#[51]⟩ := ⟨by decide⟩
instance szC_l4 : SzC ⟨#[52]⟩ := ⟨by decide⟩
instance szC_lm1 : SzC ⟨#[45, 49]⟩ := ⟨by decide⟩
theorem aw10 {W : World}  : Calls Tryz.prog 31 #[.int .i64 1, .int .i64 0] W fun e w' => e = .returned (.agg #[.string ⟨#[49]⟩, .string ⟨#[49]⟩, .string ⟨#[48]⟩, .string ⟨#[49]⟩]) ∧ Kp0 W w' := by
 refine (gaWhole (x := 1) (y := 0) (by decide) (by decide) (by decide) (by decide)).mono ?_
 rintro e w' ⟨rfl, hk⟩; exact ⟨congrArg Ending.returned (by kernel_rfl), hk⟩
theorem aw11 {W : World}  : Calls Tryz.prog 31 #[.int .i64 1, .int .i64 1] W fun e w' => e = .returned (.agg #[.string ⟨#[49]⟩, .string ⟨#[49]⟩, .string ⟨#[49]⟩, .string ⟨#[49]⟩]) ∧ Kp0 W w' := by
 refine (gaWhole (x := 1) (y := 1) (by decide) (by decide) (by decide) (by decide)).mono ?_
 rintro e w' ⟨rfl, hk⟩; exact ⟨congrArg Ending.returned (by kernel_rfl), hk⟩
theorem aw00 {W : World}  : Calls Tryz.prog 31 #[.int .i64 0, .int .i64 0] W fun e w' => e = .returned (.agg #[.string ⟨#[48]⟩, .string ⟨#[49]⟩, .string ⟨#[48]⟩, .string ⟨#[49]⟩]) ∧ Kp0 W w' := by
 refine (gaWhole (x := 0) (y := 0) (by decide) (by decide) (by decide) (by decide)).mono ?_
 rintro e w' ⟨rfl, hk⟩; exact ⟨congrArg Ending.returned (by kernel_rfl), hk⟩
theorem awDiv {W : World} [hv : VrC W] : Calls Tryz.prog 38 #[.agg #[.string ⟨#[49]⟩, .string ⟨#[49]⟩, .string ⟨#[48]⟩, .string ⟨#[49]⟩], .agg #[.string ⟨#[49]⟩, .string ⟨#[49]⟩, .string ⟨#[49]⟩, .string ⟨#[49]⟩]] W fun e w' => e = .returned (.tuple #[.agg #[.string ⟨#[49]⟩, .string ⟨#[50]⟩, .string ⟨#[45, 49]⟩, .string ⟨#[50]⟩], .int .i64 0]) ∧ Kp0 W w' := by
 refine (gaDivOk (hv := ⟨hv.out⟩) (by kernel_rfl) (by kernel_rfl) (by decide +kernel)).mono ?_
 rintro e w' ⟨rfl, hk⟩; exact ⟨congrArg Ending.returned (by kernel_rfl), hk⟩
theorem awDiv0 {W : World} [hv : VrC W] : Calls Tryz.prog 38 #[.agg #[.string ⟨#[49]⟩, .string ⟨#[49]⟩, .string ⟨#[48]⟩, .string ⟨#[49]⟩], .agg #[.string ⟨#[48]⟩, .string ⟨#[49]⟩, .string ⟨#[48]⟩, .string ⟨#[49]⟩]] W fun e w' => e = .returned (.tuple #[.agg #[.string ⟨#[]⟩, .string ⟨#[]⟩, .string ⟨#[]⟩, .string ⟨#[]⟩], .int .i64 31]) ∧ Kp0 W w' := by
 refine (gaDivZero (hv := ⟨hv.out⟩) (by kernel_rfl) (by kernel_rfl) (by decide +kernel)).mono ?_
 rintro e w' ⟨rfl, hk⟩; exact ⟨congrArg Ending.returned (by kernel_rfl), hk⟩
theorem awNear {W : World} [hv : VrC W] : Calls Tryz.prog 28 #[.agg #[.string ⟨#[49]⟩, .string ⟨#[51]⟩, .string ⟨#[45, 49]⟩, .string ⟨#[51]⟩]] W fun e w' => e = .returned (.tuple #[.complex .f64 4599676419421066581 13823048456275842389, .int .i64 0]) ∧ Kp0 W w' := by
 refine (gaNearOk (hv := ⟨hv.out⟩) (by kernel_rfl) (by kernel_rfl) (by kernel_rfl)).mono ?_
 rintro e w' ⟨rfl, hk⟩; exact ⟨congrArg Ending.returned (by kernel_rfl), hk⟩
theorem awCheck {W : World} [hv : VrC W] : Calls Tryz.prog 33 #[.agg #[.string ⟨#[50]⟩, .string ⟨#[52]⟩, .string ⟨#[48]⟩, .string ⟨#[49]⟩]] W fun e w' => e = .returned (.int .i64 30) ∧ Kp0 W w' := by
 refine (gaCheckX (hv := ⟨hv.out⟩)).mono ?_
 rintro e w' ⟨rfl, hk⟩; exact ⟨congrArg Ending.returned (by kernel_rfl), hk⟩
theorem awAt {W : World} {g : Nat} [q : ClC W g 0 [(4607182418800017408, 0), (0, 0), (4607182418800017408, 0)]] [hv : VrC W] : Calls Tryz.prog 14 #[.slice (some ⟨g, 0, none⟩) 3 3, .complex .f64 0 4607182418800017408] W fun e w' => e = .returned (.tuple #[.agg #[.string ⟨#[48]⟩, .string ⟨#[49]⟩, .string ⟨#[48]⟩, .string ⟨#[49]⟩], .int .i64 0]) ∧ Kp0 W w' := by
 refine (gaAtOk (hc := q) (hv := ⟨hv.out⟩) (cap := 3) (z := (0, 4607182418800017408)) (l := [(4607182418800017408, 0), (0, 0), (4607182418800017408, 0)]) (by unfold okB; decide) (by decide) (by decide) (by decide) (by kernel_rfl) (by kernel_rfl) (by kernel_rfl)).mono ?_
 rintro e w' ⟨rfl, hk⟩; exact ⟨congrArg Ending.returned (by kernel_rfl), hk⟩
theorem awZ2 {W : World} {g : Nat} [q : ClC W g 0 [(4607182418800017408, 0), (0, 0), (4607182418800017408, 0)]] [hv : VrC W] : Calls Tryz.prog 18 #[.slice (some ⟨g, 0, none⟩) 3 3, .agg #[.complex .f64 13835058055282163712 13835058055282163712, .complex .f64 4611686018427387904 4611686018427387904]] W fun e w' => e = .returned (.tuple #[.int .i64 2, .int .i64 0]) ∧ Kp0 W w' := by
 refine (gaZeros (hc := q) (cap := 3) (l := [(4607182418800017408, 0), (0, 0), (4607182418800017408, 0)]) (by unfold okB; decide) (by decide) (by decide) (by decide) (by decide)).mono ?_
 rintro e w' ⟨rfl, hk⟩; exact ⟨congrArg Ending.returned (by kernel_rfl), hk⟩
theorem awZ0 {W : World} {g : Nat} [q : ClC W g 0 [(0, 0), (0, 0), (4607182418800017408, 0)]] [hv : VrC W] : Calls Tryz.prog 18 #[.slice (some ⟨g, 0, none⟩) 3 3, .agg #[.complex .f64 13835058055282163712 13835058055282163712, .complex .f64 4611686018427387904 4611686018427387904]] W fun e w' => e = .returned (.tuple #[.int .i64 2, .int .i64 0]) ∧ Kp0 W w' := by
 refine (gaZeros (hc := q) (cap := 3) (l := [(0, 0), (0, 0), (4607182418800017408, 0)]) (by unfold okB; decide) (by decide) (by decide) (by decide) (by decide)).mono ?_
 rintro e w' ⟨rfl, hk⟩; exact ⟨congrArg Ending.returned (by kernel_rfl), hk⟩
theorem awZm {W : World} {g : Nat} [q : ClC W g 0 [(13835058055282163712, 0), (4607182418800017408, 0)]] [hv : VrC W] : Calls Tryz.prog 18 #[.slice (some ⟨g, 0, none⟩) 2 2, .agg #[.complex .f64 13835058055282163712 13835058055282163712, .complex .f64 4611686018427387904 4611686018427387904]] W fun e w' => e = .returned (.tuple #[.int .i64 0, .int .i64 32]) ∧ Kp0 W w' := by
 refine (gaZeros (hc := q) (cap := 2) (l := [(13835058055282163712, 0), (4607182418800017408, 0)]) (by unfold okB; decide) (by decide) (by decide) (by decide) (by decide)).mono ?_
 rintro e w' ⟨rfl, hk⟩; exact ⟨congrArg Ending.returned (by kernel_rfl), hk⟩
theorem lwAwake {w : World} [hv : VrB w] : Calls Tryz.prog 12 #[] w fun e w' => e = .returned (.bool true) ∧ Kp0 w w' := by
 have f1 : (FloatKind.f64.format.order 4599676419421066581 4599676419421066581 == some Ordering.eq) = true := by kernel_rfl
 have f2 : (FloatKind.f64.format.order 13823048456275842389 13823048456275842389 == some Ordering.eq) = true := by kernel_rfl
 go_enter Tryz.func12, Tryz.ntmps12; go_upto_region 6 with (first | (go_at_call 31; (with_reducible refine Calls.mono (aw10) ?_); rintro e wc ⟨rfl, _⟩) | (go_at_call 31; (with_reducible refine Calls.mono (aw11) ?_); rintro e wc ⟨rfl, _⟩) | (go_at_call 31; (with_reducible refine Calls.mono (aw00) ?_); rintro e wc ⟨rfl, _⟩) | (go_at_call 38; (with_reducible refine Calls.mono (awDiv) ?_); rintro e wd1 ⟨rfl, _⟩) | (go_at_call 38; (with_reducible refine Calls.mono (awDiv0) ?_); rintro e wd2 ⟨rfl, _⟩) | (go_at_call 52; (with_reducible refine Calls.mono (lwRatio) ?_); rintro e wc ⟨rfl, _⟩) | (go_at_call 28; (with_reducible refine Calls.mono (awNear) ?_); rintro e wc ⟨rfl, _⟩) | (go_at_call 14; (with_reducible refine Calls.mono (awAt) ?_); rintro e wat ⟨rfl, _⟩))
 go_upto_region 7 with (go_at_call 18; (with_reducible refine Calls.mono (awZ2) ?_); rintro e wc ⟨rfl, _⟩)
 go_upto_region 8 with (go_at_call 18; (with_reducible refine Calls.mono (awZ0) ?_); rintro e wc ⟨rfl, _⟩)
 go_upto_region 9 with (go_at_call 18; (with_reducible refine Calls.mono (awZm) ?_); rintro e wc ⟨rfl, _⟩)
 go_region_held3 (fun W => W.cell? ⟨wd1.heap.size, 0, none⟩ = some (.string ⟨#[49]⟩) ∧ W.cell? ⟨wd1.heap.size, 1, none⟩ = some (.string ⟨#[50]⟩) ∧ W.cell? ⟨wd1.heap.size, 2, none⟩ = some (.string ⟨#[45, 49]⟩) ∧ W.cell? ⟨wd1.heap.size, 3, none⟩ = some (.string ⟨#[50]⟩)) (refine ⟨?_, ?_, ?_, ?_⟩ <;> (first | exact Bk.cell BkC.out rfl | (simp [go_sem]; done))) (first | (go_at_call 52; (with_reducible refine Calls.mono (lwRatio) ?_); rintro e wc ⟨rfl, _⟩))
 all_goals (go_wp2_with fail)
 go_region_held3 (fun W => W.cell? ⟨wat.heap.size, 0, none⟩ = some (.string ⟨#[48]⟩) ∧ W.cell? ⟨wat.heap.size, 1, none⟩ = some (.string ⟨#[49]⟩) ∧ W.cell? ⟨wat.heap.size, 2, none⟩ = some (.string ⟨#[48]⟩) ∧ W.cell? ⟨wat.heap.size, 3, none⟩ = some (.string ⟨#[49]⟩)) (refine ⟨?_, ?_, ?_, ?_⟩ <;> (first | exact Bk.cell BkC.out rfl | (simp [go_sem]; done))) (first | (go_at_call 31; (with_reducible refine Calls.mono (aw00) ?_); rintro e wc ⟨rfl, _⟩) | (go_at_call 52; (with_reducible refine Calls.mono (lwRatio) ?_); rintro e wc ⟨rfl, _⟩) | (go_at_call 33; (with_reducible refine Calls.mono (awCheck) ?_); rintro e wc ⟨rfl, _⟩))
 all_goals (go_wp2_with fail)
 all_goals go_ret
 all_goals exact ⟨rfl, ⟨Gr.out⟩⟩
def EC (w : World) (u : Value) (x : Nat × Nat) : Prop := u = .complex .f64 x.1 x.2
theorem eok_EC : EOk 29 EC where
 ne := by decide
 below := fun h _ => h
 keep := fun _ _ h => h
 one := by
  rintro w u x rfl; rfl
theorem info29z : (Tryz.prog.info? 29).map (fun i => (i.zero, i.size, i.bytes)) = some (some (.complex .f64 0 0), 1, 16) := by kernel_rfl
theorem und27z : Tryz.prog.underlying 27 = some (.slice 29) := by kernel_rfl
theorem app_c {ops : Array Oper} {rest : List Oper} {o : Oper} {a : Act} {w : World} {Q : Exit → Act → World → Prop} (hgd : o.guard = none) (s x : Operand)
 (ho : o.op = .call { callee := .builtin .append, args := #[s, x], argTypes := #[27, 27] }) (base : Nat) {v : Value} {l m : List (Nat × Nat)} (hs : a.eval s = v) (hown : Ox 29 EC base w v l)
 {ad : Option Addr} {k c : Nat} (hx : a.eval x = .slice ad k c) (hm : Rw 29 EC w (.slice ad k c) m) (h0 : 0 < m.length) (hlen : l.length + m.length ≤ 1048576) (hbase : base ≤ w.heap.size)
 (h : ∀ g cap n' w', n' = l.length + m.length → Ox 29 EC base w' (.slice (some ⟨g, 0, none⟩) n' cap) (l ++ m) → base ≤ g → (∀ v0 : World, v0.heap.size ≤ base → Below v0.heap.size v0 w → Below v0.heap.size v0 w') → wpList Tryz.prog ops Q rest (a.put o.dst (.slice (some ⟨g, 0, none⟩) n' cap)) w') :
 wpList Tryz.prog ops Q (o :: rest) a w := by
 obtain ⟨ti, hti, htz, hts, htb⟩ := info_parts info29z; exact app_row eok_EC hgd s x 27 ho base ti _ 16 und27z hti htz hts htb rfl (by decide) hs hown hx hm h0 hlen hbase (fun g cap n' w' q1 q2 q3 q4 _ => h g cap n' w' q1 q2 q3 q4)
def Pl (w : World) (a : Option Addr) (l : List (Nat × Nat)) : Prop := ∀ (i : Nat) (x : Nat × Nat), l[i]? = some x → ∃ g off, a = some ⟨g, off, none⟩ ∧ g < w.heap.size ∧ w.cell? ⟨g, off + i * 2, none⟩ = some (.int .u64 (x.1 : Int)) ∧ w.cell? ⟨g, off + i * 2 + 1, none⟩ = some (.int .u64 (x.2 : Int))
theorem lwNumbers {w : World} {a : Option Addr} {cap : Nat} {l : List (Nat × Nat)} (h : Pl w a l) (hn : l.length ≤ 1048575) :
 Calls Tryz.prog 13 #[.slice a l.length cap] w fun e w' => ∃ v, e = .returned v ∧ Ox 29 EC w.heap.size w' v l ∧ Kp0 w w' := by
 have HH := hid h; obtain ⟨n, hn2⟩ : ∃ n, n = l.length := ⟨_, rfl⟩; have HL := hid hn2; rw [← hn2] at hn ⊢; have HN := hid hn; clear h hn2; go_enter Tryz.func13, Tryz.ntmps13; go_wp2_with fail
 go_loopw [3, 4] (fun s3 s4 wx => ∃ j : Nat, s4 = .int .i64 j ∧ j ≤ n ∧ Ox 29 EC w.heap.size wx s3 (l.take j) ∧ Kp0 w wx) (fun _ s4 _ => n - (intOf s4).toNat)
 case atStart => exact ⟨0, rfl, Nat.zero_le _, Ox.nil _ _, ⟨Gr.out⟩⟩
 case round =>
  obtain ⟨j, rfl, hj, hO, ik⟩ := hrel; by_cases hjn : j = n
  · subst hjn; have HO : Hid (Ox 29 EC w.heap.size wr u3 l) := hid (by rw [HL.out, List.take_length] at hO; exact hO)
    clear hO hj; go_wp2_with fail
    go_ret
    exact ⟨_, rfl, HO.out, ⟨Gr.out⟩⟩
  · have hlt : j < n := by omega
    have hI : (j : Int) < (n : Int) := by omega
    have h0 : (0 : Int) ≤ (j : Int) := by omega
    obtain ⟨x, hx⟩ : ∃ x, l[j]? = some x := ⟨_, List.getElem?_eq_getElem (by rw [← HL.out]; exact hlt)⟩
    obtain ⟨g, off, rfl, hg, c0, c1⟩ := HH.out j x hx; haveI : Has w g := ⟨hg⟩; have HJ := hid hx; have HO := hid hO; have HLT := hid hlt; have HLE := hid (show (l.take j).length + [x].length ≤ 1048576 by rw [List.length_take, List.length_singleton]; have := HN.out; omega)
    have HNX := hid (show l.take (j + 1) = l.take j ++ [x] by rw [List.take_add_one, hx]; rfl)
    clear hx hO hlt hjn hj; go_wp2_with (first | (go_at_call 15; (with_reducible refine Calls.mono (lwNumber) ?_); rintro e wc ⟨rfl, _⟩) | (at_builtin; refine app_c rfl _ _ rfl w.heap.size rfl (HO.out.below eok_EC (Gr.out (v := wr))) rfl (Ox.one eok_EC (rfl : EC _ (.complex .f64 x.1 x.2) x)).rw Nat.one_pos HLE.out ?_ ?_; (focus (rw [World.size_alloc]; exact Nat.le_succ_of_le (Gr.out (v := w)).size)); intro g' cap' n' wz hn' ho' hg' hbl; have HN' := hid hn'; have HO' := hid ho'; clear hn' ho'; haveI ka : Kp0 w wz := ⟨hbl w (Nat.le_refl _) (Gr.out (v := w))⟩))
    go_round
    case rel =>
     exact ⟨j + 1, by go_num, HLT.out, by rw [HNX.out]; exact HO'.out.below eok_EC Gr.out, ⟨Gr.out⟩⟩
    case measure => first | (simp [intOf]; done) | (simp [intOf]; omega)
theorem lwKept {w : World} {a : Option Addr} {g' n' cap' cap : Nat} {l : List (Nat × Nat)} (hm : Rw 29 EC w (.slice (some ⟨g', 0, none⟩) n' cap') (l ++ [(4635118810238550016, 0)])) (h : Pl w a l) (hn : l.length ≤ 1048575) :
 Calls Tryz.prog 17 #[.slice (some ⟨g', 0, none⟩) n' cap', .slice a l.length cap] w fun e w' => e = .returned (.bool true) ∧ Kp0 w w' := by
 have f1 : (FloatKind.f64.format.order 4635118810238550016 4635118810238550016 == some Ordering.eq) = true := by kernel_rfl
 have f2 : (FloatKind.f64.format.order 0 0 == some Ordering.eq) = true := by kernel_rfl
 obtain ⟨a0, cap0, he, -⟩ := hm.form; simp only [Value.slice.injEq] at he; obtain ⟨-, rfl, -⟩ := he; have HH := hid h; obtain ⟨n, hn2⟩ : ∃ n, n = l.length := ⟨_, rfl⟩; rw [List.length_append, List.length_singleton, ← hn2] at hm ⊢; rw [← hn2] at hn; have HM := hid hm; have HL := hid hn2; obtain ⟨gx, ox, u, he, hgx, c77, hu⟩ := hm.at (i := n) (x := (4635118810238550016, 0)) (by rw [List.getElem?_append_right (by omega), hn2, Nat.sub_self]; rfl)
 simp only [Option.some.injEq, Addr.mk.injEq, and_true] at he; obtain ⟨rfl, rfl⟩ := he; obtain rfl : u = .complex .f64 4635118810238550016 0 := hu; rw [Nat.zero_add] at c77; haveI : Has w g' := ⟨hgx⟩; have i1 : (n : Int) < (n : Int) + 1 := by omega
 clear h hn2 hm; go_enter Tryz.func17, Tryz.ntmps17; go_wp2_with fail
 go_loopw [5] (fun s5 wx => ∃ j : Nat, s5 = .int .i64 j ∧ j ≤ n ∧ Kp0 w wx) (fun s5 _ => n - (intOf s5).toNat)
 case atStart => exact ⟨0, rfl, Nat.zero_le _, ⟨Gr.out⟩⟩
 case round =>
  obtain ⟨j, rfl, hj, ik⟩ := hrel; by_cases hjn : j = n
  · subst hjn; clear hj; go_wp2_with fail
    go_ret
    exact ⟨rfl, ⟨Gr.out⟩⟩
  · have hlt : j < n := by omega
    have hI : (j : Int) < (n : Int) := by omega
    have hI2 : (j : Int) < (n : Int) + 1 := by omega
    have h0 : (0 : Int) ≤ (j : Int) := by omega
    obtain ⟨x, hx⟩ : ∃ x, l[j]? = some x := ⟨_, List.getElem?_eq_getElem (by rw [← HL.out]; exact hlt)⟩
    obtain ⟨g, off, rfl, hg, c0, c1⟩ := HH.out j x hx; haveI : Has w g := ⟨hg⟩; obtain ⟨gy, oy, u, he, hgy, cj, hu⟩ := HM.out.at (i := j) (x := x) (by rw [List.getElem?_append_left (by rw [← HL.out]; exact hlt)]; exact hx)
    simp only [Option.some.injEq, Addr.mk.injEq, and_true] at he; obtain ⟨rfl, rfl⟩ := he; obtain rfl : u = .complex .f64 x.1 x.2 := hu; rw [Nat.zero_add] at cj; have HLT := hid hlt; have D0 := hid c0; have DJ := hid cj; clear hx hlt hjn hj; go_upto_region 4 with fail
    have cj' := (cell_kp0 wr g' j).trans cj; have c0' := (cell_kp0 wr g (off + j * 2)).trans c0; go_region
    all_goals (go_wp2_with fail)
    all_goals go_round
    all_goals first
     | exact ⟨j + 1, by go_num, HLT.out, ⟨Gr.out⟩⟩
     | (simp [intOf]; done)
     | (simp [intOf]; omega)
def ClS (W : World) (a : Option Addr) (l : List (Nat × Nat)) : Prop := l ≠ [] → ∃ g off, a = some ⟨g, off, none⟩ ∧ ClC W g off l
theorem clS_rw {W : World} {a : Option Addr} {n cap : Nat} {l : List (Nat × Nat)} (h : Rw 29 EC W (.slice a n cap) l) : ClS W a l := by
 intro h0; obtain ⟨a', cap', he, -, h3⟩ := h; simp only [Value.slice.injEq] at he; obtain ⟨rfl, -, -⟩ := he; obtain ⟨g, off, C, rfl, hC, hl⟩ := h3 (List.length_pos_iff.2 h0); refine ⟨g, off, rfl, ⟨⟨C, hC, fun i x hx => ?_⟩⟩⟩
 obtain ⟨u, q1, q2⟩ := hl i x hx; rw [show u = .complex .f64 x.1 x.2 from q2] at q1
 exact q1
theorem gaZerosNil {w : World} {ad : Option Addr} {cap : Nat} {v0 v1 : Value} :
 Calls Tryz.prog 18 #[.slice ad 0 cap, .agg #[v0, v1]] w fun e w' => e = .returned (.tuple #[.int .i64 0, .int .i64 4]) ∧ Kp0 w w' := by
 go_enter Tryz.func18, Tryz.ntmps18; go_wp2_with (go_at_call 63; (with_reducible refine Calls.mono (gaAskMany (.inl (by decide))) ?_); rintro e wa ⟨rfl, _⟩)
 all_goals first
  | (go_ret2
     exact ⟨rfl, ⟨Gr.out⟩⟩)
  | (exfalso; simp_all; done)
theorem gaZerosS {w : World} {ad : Option Addr} {cap : Nat} {l : List (Nat × Nat)} {a b c d : Nat} (h : ClS w ad l) [hv : VrC w] (hl : okB l) (ha : a < 18446744073709551616) (hb : b < 18446744073709551616) (hc' : c < 18446744073709551616) (hd : d < 18446744073709551616) :
 Calls Tryz.prog 18 #[.slice ad l.length cap, .agg #[.complex .f64 a b, .complex .f64 c d]] w fun e w' => e = .returned (.tuple #[.int .i64 (zerosN l (a, b) (c, d)).1, .int .i64 (zerosN l (a, b) (c, d)).2]) ∧ Kp0 w w' := by
 by_cases h0 : l = []
 · have e : zerosN l (a, b) (c, d) = (0, 4) := by
    have k : askE l (a, b) (c, d) = 4 := by unfold askE; rw [if_pos (.inl (by rw [h0]; decide))]
    unfold zerosN; rw [k]; rfl
   rw [e, h0]; exact gaZerosNil
 · obtain ⟨g, off, rfl, cl⟩ := h h0; exact gaZeros (hc := cl) hl ha hb hc' hd
theorem reZerosNil {w : World} {ad : Option Addr} {cap : Nat} {v0 v1 : Value} :
 Calls Tryz.prog 20 #[.slice ad 0 cap, .agg #[v0, v1]] w fun e w' => e = .returned (.tuple #[.int .i64 0, .int .i64 4]) ∧ Kp0 w w' := by
 go_enter Tryz.func20, Tryz.ntmps20; go_wp2_with (go_at_call 69; (with_reducible refine Calls.mono (reAskMany (.inl (by decide))) ?_); rintro e wa ⟨rfl, _⟩)
 all_goals first
  | (go_ret2
     exact ⟨rfl, ⟨Gr.out⟩⟩)
  | (exfalso; simp_all; done)
theorem reZerosS {w : World} {ad : Option Addr} {cap : Nat} {l : List (Nat × Nat)} {a b c d : Nat} (h : ClS w ad l) (hl : okB l) (ha : a < 18446744073709551616) (hb : b < 18446744073709551616) (hc' : c < 18446744073709551616) (hd : d < 18446744073709551616) :
 Calls Tryz.prog 20 #[.slice ad l.length cap, .agg #[.complex .f64 a b, .complex .f64 c d]] w fun e w' => e = .returned (.tuple #[.int .i64 (zerosN l (a, b) (c, d)).1, .int .i64 (zerosN l (a, b) (c, d)).2]) ∧ Kp0 w w' := by
 by_cases h0 : l = []
 · have e : zerosN l (a, b) (c, d) = (0, 4) := by
    have k : askE l (a, b) (c, d) = 4 := by unfold askE; rw [if_pos (.inl (by rw [h0]; decide))]
    unfold zerosN; rw [k]; rfl
   rw [e, h0]; exact reZerosNil
 · obtain ⟨g, off, rfl, cl⟩ := h h0; exact reZeros (hc := cl) hl ha hb hc' hd
theorem prZeros {l : List (Nat × Nat)} {a b c d : Nat} (hl : okB l) (ha : a < 18446744073709551616) (hb : b < 18446744073709551616) (hc' : c < 18446744073709551616) (hd : d < 18446744073709551616) : ∃ Z E : Int,
 Hid (∀ W ad cap, VrC W → ClS W ad l → Calls Tryz.prog 18 #[.slice ad l.length cap, .agg #[.complex .f64 a b, .complex .f64 c d]] W (fun e w' => e = .returned (.tuple #[.int .i64 Z, .int .i64 E]) ∧ Kp0 W w')) ∧ Hid (∀ W ad cap, ClS W ad l → Calls Tryz.prog 20 #[.slice ad l.length cap, .agg #[.complex .f64 a b, .complex .f64 c d]] W (fun e w' => e = .returned (.tuple #[.int .i64 Z, .int .i64 E]) ∧ Kp0 W w')) :=
 ⟨_, _, hid (fun W ad cap v k => gaZerosS (hv := v) k hl ha hb hc' hd), hid (fun W ad cap k => reZerosS k hl ha hb hc' hd)⟩
theorem ec_z77 {w : World} : EC w (.complex .f64 4635118810238550016 0) (4635118810238550016, 0) := rfl
theorem lawZeros {w : World} {ad : Option Addr} {cap a b c d : Nat} {l : List (Nat × Nat)} [hv : VrB w] (h : Pl w ad l) (hn : l.length ≤ 1048575) (hl : okB l) (ha : a < 18446744073709551616) (hb : b < 18446744073709551616) (hc : c < 18446744073709551616) (hd : d < 18446744073709551616) :
 Calls Tryz.prog 4 #[.slice ad l.length cap, .agg #[.int .u64 (a : Int), .int .u64 (b : Int), .int .u64 (c : Int), .int .u64 (d : Int)]] w fun e w' => e = .returned (.bool true) ∧ Kp0 w w' := by
 obtain ⟨Z, E, PP, PD⟩ := prZeros hl ha hb hc hd
 have NU := hid (fun (W : World) (k : Gr w W) => lwNumbers (cap := cap) (fun i z hz => by
  obtain ⟨g, off, e, hg, c0, c1⟩ := h i z hz; exact ⟨g, off, e, Nat.lt_of_lt_of_le hg k.out.size, (World.cell?_of_block (w := w) (k.out.block g hg)).trans c0, (World.cell?_of_block (w := w) (k.out.block g hg)).trans c1⟩ : Pl W ad l) hn)
 have KE := hid (fun (W : World) (k : Gr w W) (g' n' cap' : Nat) (hm : Rw 29 EC W (.slice (some ⟨g', 0, none⟩) n' cap') (l ++ [(4635118810238550016, 0)])) => lwKept (cap := cap) hm (fun i z hz => by
  obtain ⟨g, off, e, hg, c0, c1⟩ := h i z hz; exact ⟨g, off, e, Nat.lt_of_lt_of_le hg k.out.size, (World.cell?_of_block (w := w) (k.out.block g hg)).trans c0, (World.cell?_of_block (w := w) (k.out.block g hg)).trans c1⟩ : Pl W ad l) hn)
 obtain ⟨n, hn2⟩ : ∃ n, n = l.length := ⟨_, rfl⟩; have HL := hid hn2; have HN := hid hn; rw [← hn2] at NU KE PP PD ⊢; have HLE := hid (show l.length + [((4635118810238550016, 0) : Nat × Nat)].length ≤ 1048576 by rw [List.length_singleton]; have := HN.out; omega)
 clear h hn hl hn2 ha hb hc hd; go_enter Tryz.func4, Tryz.ntmps4; go_upto_region 6 with (first | (go_at_call 12; (with_reducible refine Calls.mono (lwAwake (hv := ⟨VrC.out⟩)) ?_); rintro e wc ⟨rfl, _⟩) | (go_at_call 13; (with_reducible refine Calls.mono (NU.out _ inferInstance) ?_); rintro e wn ⟨vn, rfl, hvn, _⟩; obtain ⟨aV, cV, rfl, _⟩ := hvn.rw.form; rw [← HL.out] at hvn ⊢; have HVN := hid hvn; clear hvn) | (at_builtin; refine app_c rfl _ _ rfl wc.heap.size rfl (HVN.out.below eok_EC (Gr.out (v := wn))) rfl (Ox.one eok_EC ec_z77).rw Nat.one_pos HLE.out ?_ ?_; (focus (rw [World.size_alloc]; exact Nat.le_succ_of_le (Gr.out (v := wc)).size)); intro g' cap' n' wz hn' ho' hg' hbl; haveI ka : Kp0 wc wz := ⟨hbl wc (Nat.le_refl _) (Gr.out (v := wc))⟩; obtain rfl : n' = n + 1 := hn'.trans (by rw [HL.out]; rfl); have HO := hid ho'.rw; clear ho' hn' hg' hbl))
 obtain ⟨aX, cX, heX, hcX⟩ := HO.out.form; simp only [Value.slice.injEq] at heX; obtain ⟨-, -, rfl⟩ := heX; have hcI : (n : Int) ≤ (cap' : Int) := by rw [List.length_append, List.length_singleton, ← HL.out] at hcX; omega
 have HT : Hid (Rw 29 EC wz (.slice (some ⟨g', 0, none⟩) n cap') l) := hid (by
  have := HO.out.take (k := n) (by rw [List.length_append, List.length_singleton, ← HL.out]; omega)
  rwa [HL.out, List.take_left', ← HL.out] at this
  all_goals first | rfl | exact HL.out.symm)
 clear hcX HVN; go_cut [7, 8] from 19 (fun s7 s8 wx => s7 = .int .i64 Z ∧ s8 = .int .i64 E ∧ Kp0 wz wx)
 case first =>
  go_region_held3 (fun W => W.cell? ⟨w.heap.size, 0, none⟩ = some (.int .u64 (a : Int)) ∧ W.cell? ⟨w.heap.size, 1, none⟩ = some (.int .u64 (b : Int)) ∧ W.cell? ⟨w.heap.size, 2, none⟩ = some (.int .u64 (c : Int)) ∧ W.cell? ⟨w.heap.size, 3, none⟩ = some (.int .u64 (d : Int))) (refine ⟨?_, ?_, ?_, ?_⟩ <;> (first | exact Bk.cell BkC.out rfl | (simp [go_sem]; done))) (first | (go_at_call 19; (with_reducible refine Calls.mono (lwBox) ?_); rintro e wc ⟨rfl, _⟩) | (go_at_call 18; (with_reducible refine Calls.mono (PP.out _ _ _ inferInstance (clS_rw (HT.out.below eok_EC Gr.out))) ?_); rintro e wd ⟨rfl, _⟩))
  all_goals (go_wp2_with fail; go_meet; exact ⟨rfl, rfl, ⟨Gr.out⟩⟩)
 case rest =>
 obtain ⟨rfl, rfl, iq⟩ := hcut; generalize hwq : wc = wq at *; clear hwq PP; go_upto_region 7 with fail
 go_cut [9, 10] from 29 (fun s9 s10 wx => s9 = .int .i64 Z ∧ s10 = .int .i64 E ∧ Kp0 wq wx)
 case first =>
  go_region_held3 (fun W => W.cell? ⟨w.heap.size, 0, none⟩ = some (.int .u64 (a : Int)) ∧ W.cell? ⟨w.heap.size, 1, none⟩ = some (.int .u64 (b : Int)) ∧ W.cell? ⟨w.heap.size, 2, none⟩ = some (.int .u64 (c : Int)) ∧ W.cell? ⟨w.heap.size, 3, none⟩ = some (.int .u64 (d : Int))) (refine ⟨?_, ?_, ?_, ?_⟩ <;> (first | exact Bk.cell BkC.out rfl | (simp [go_sem]; done))) (first | (go_at_call 13; (with_reducible refine Calls.mono (NU.out _ inferInstance) ?_); rintro e wn ⟨vn, rfl, hvn, _⟩; obtain ⟨aW, cW, rfl, _⟩ := hvn.rw.form; rw [← HL.out] at hvn ⊢; have HVN := hid hvn; clear hvn) | (go_at_call 19; (with_reducible refine Calls.mono (lwBox) ?_); rintro e wc ⟨rfl, _⟩) | (go_at_call 20; (with_reducible refine Calls.mono (PD.out _ _ _ (clS_rw (HVN.out.rw.below eok_EC Gr.out))) ?_); rintro e wd ⟨rfl, _⟩))
  all_goals (go_wp2_with fail; go_meet; exact ⟨rfl, rfl, ⟨Gr.out⟩⟩)
 case rest =>
 obtain ⟨rfl, rfl, iq2⟩ := hcut; generalize hwq2 : wc = wq2 at *; clear hwq2 PD NU; go_wp2_with (go_at_call 17; (with_reducible refine Calls.mono (KE.out _ inferInstance _ _ _ (HO.out.below eok_EC Gr.out)) ?_); rintro e we ⟨rfl, _⟩)
 go_ret
 exact ⟨rfl, ⟨Gr.out⟩⟩
end Go.Proofs.YthjeejnggpjnjaaGreatDoor
