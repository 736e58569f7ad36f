/- A part: FI. -/
import Derived.Test.YthjeejnggpjnjaaGreatDoorZC24
import Derived.Test.YthjeejnggpjnjaaGreatDoorZC26
set_option linter.unusedSimpArgs false
set_option linter.unusedVariables false
set_option maxRecDepth 100000
set_option maxHeartbeats 16000000
set_option synthInstance.maxHeartbeats 2000000
set_option synthInstance.maxSize 100000
namespace Go.Proofs.YthjeejnggpjnjaaGreatDoor
open Go.RowKit
theorem lawCut {w : World} {ad : Option Addr} {cap a b c d v : Nat} {ac : Bool} {l : List (Nat × Nat)} [hv : VrB w] (h : Pl w ad l) (hn : l.length ≤ 1048575) (hl : okB l) (ha : a < 18446744073709551616) (hb : b < 18446744073709551616) (hc : c < 18446744073709551616) (hd : d < 18446744073709551616) (hv' : v < 18446744073709551616) :
 Calls Tryz.prog 7 #[.slice ad l.length cap, .agg #[.int .u64 (a : Int), .int .u64 (b : Int), .int .u64 (c : Int), .int .u64 (d : Int)], .int .u64 (v : Int), .bool ac] w fun e w' => e = .returned (.bool true) ∧ Kp0 w w' := by
 have NU := hid (fun (W : World) (k : Gr w W) => lwNumbers (cap := cap) (fun i z hz => by
  obtain ⟨g, off, e, hg, c0, c1⟩ := h i z hz; exact ⟨g, off, e, Nat.lt_of_lt_of_le hg k.out.size, (World.cell?_of_block (w := w) (k.out.block g hg)).trans c0, (World.cell?_of_block (w := w) (k.out.block g hg)).trans c1⟩ : Pl W ad l) hn)
 obtain ⟨n, hn2⟩ : ∃ n, n = l.length := ⟨_, rfl⟩; have HL := hid hn2; have HN := hid hn; rw [← hn2] at NU ⊢; clear h hn hn2; cases ac with
 | false =>
   skip
   have LW := cut_law (l := l) (lo := (a, b)) (hi := (c, d)) (v := v) false ha hb hc hd hv'; have Z0 := hid (fun (W : World) (a' : Option Addr) (cap' : Nat) (q : VrC W) (k : ClS W a' l) => show Calls Tryz.prog 18 #[.slice a' l.length cap', .agg #[.complex .f64 a b, .complex .f64 c d]] W (fun e w' => e = .returned (.tuple #[.int .i64 (zerosN l (a, b) (c, d)).1, .int .i64 (zerosN l (a, b) (c, d)).2]) ∧ Kp0 W w') from gaZerosS (hv := q) k hl ha hb hc hd)
   have Z1 := hid (fun (W : World) (a' : Option Addr) (cap' : Nat) (q : VrC W) (k : ClS W a' l) => show Calls Tryz.prog 18 #[.slice a' l.length cap', .agg #[.complex .f64 a b, .complex .f64 v d]] W (fun e w' => e = .returned (.tuple #[.int .i64 (zerosN l (a, b) (v, d)).1, .int .i64 (zerosN l (a, b) (v, d)).2]) ∧ Kp0 W w') from gaZerosS (hv := q) k hl ha hb hv' hd)
   have Z2 := hid (fun (W : World) (a' : Option Addr) (cap' : Nat) (q : VrC W) (k : ClS W a' l) => show Calls Tryz.prog 18 #[.slice a' l.length cap', .agg #[.complex .f64 v b, .complex .f64 c d]] W (fun e w' => e = .returned (.tuple #[.int .i64 (zerosN l (v, b) (c, d)).1, .int .i64 (zerosN l (v, b) (c, d)).2]) ∧ Kp0 W w') from gaZerosS (hv := q) k hl hv' hb hc hd)
   have LW' : ((zerosN l (a, b) (c, d)).2 ≠ 0 → (zerosN l (a, b) (c, d)).1 = 0 ∧ ((zerosN l (a, b) (c, d)).2 = 32 → (zerosN l (a, b) (v, d)).2 = 0 → (zerosN l (v, b) (c, d)).2 ≠ 0)) ∧ ((zerosN l (a, b) (c, d)).2 = 0 → 0 ≤ (zerosN l (a, b) (c, d)).1 ∧ (zerosN l (a, b) (c, d)).1 < l.length ∧ ((zerosN l (a, b) (v, d)).2 = 0 → (zerosN l (v, b) (c, d)).2 = 0 → (zerosN l (a, b) (v, d)).1 + (zerosN l (v, b) (c, d)).1 = (zerosN l (a, b) (c, d)).1)) := LW; clear LW; generalize (zerosN l (a, b) (c, d)).1 = n0 at *; generalize (zerosN l (a, b) (c, d)).2 = e0 at *; generalize (zerosN l (a, b) (v, d)).1 = n1 at *; generalize (zerosN l (a, b) (v, d)).2 = e1 at *; generalize (zerosN l (v, b) (c, d)).1 = n2 at *; generalize (zerosN l (v, b) (c, d)).2 = e2 at *; have LH := hid LW'; clear LW' hl ha hb hc hd hv'; rw [← HL.out] at Z0 Z1 Z2; go_enter Tryz.func7, Tryz.ntmps7; go_upto_region 14 with (first | (go_at_call 12; (with_reducible refine Calls.mono (lwAwake (hv := ⟨VrC.out⟩)) ?_); rintro e wc ⟨rfl, _⟩) | (go_at_call 19; (with_reducible refine Calls.mono (lwBox) ?_); rintro e wc ⟨rfl, _⟩) | (go_at_call 13; (with_reducible refine Calls.mono (NU.out _ inferInstance) ?_); rintro e wn ⟨vn, rfl, hvn, _⟩; obtain ⟨aV, cV, rfl, _⟩ := hvn.rw.form; rw [← HL.out] at hvn ⊢; have HVN := hid hvn; clear hvn))
   go_upto_region 15 with (go_at_call 18; (with_reducible refine Calls.mono (Z0.out _ _ _ inferInstance (clS_rw (HVN.out.rw.below eok_EC Gr.out))) ?_); rintro e wz ⟨rfl, _⟩)
   go_upto_region 16 with (go_at_call 18; (with_reducible refine Calls.mono (Z1.out _ _ _ inferInstance (clS_rw (HVN.out.rw.below eok_EC Gr.out))) ?_); rintro e wz ⟨rfl, _⟩)
   go_upto_region 17 with (go_at_call 18; (with_reducible refine Calls.mono (Z2.out _ _ _ inferInstance (clS_rw (HVN.out.rw.below eok_EC Gr.out))) ?_); rintro e wz ⟨rfl, _⟩)
   clear Z0 Z1 Z2 NU HVN; obtain ⟨L1, L2⟩ := LH.out; clear LH; by_cases h0 : e0 = 0
   · subst h0; obtain ⟨b1, b2, b3⟩ := L2 rfl; rw [← HL.out] at b2; have B3 := hid b3; have g1 : ¬ n0 < 0 := by omega
     have g2 : ¬ (n : Int) ≤ n0 := by omega
     have g3 : IntKind.i64.wrap n0 = n0 := by
      have := HN.out; rw [← HL.out] at this; rw [IntKind.wrap_i64]; omega
     clear L1 L2 b1 b2 b3; by_cases h1 : e1 = 0
     · by_cases h2 : e2 = 0
       · subst h1; subst h2; have e := B3.out rfl rfl; rw [← e] at g1 g2 g3 ⊢; clear e B3; go_wp2_with fail
         go_ret
         exact ⟨rfl, ⟨Gr.out⟩⟩
       · subst h1; have h2' : (e2 == 0) = false := beq_eq_false_iff_ne.2 h2; go_wp2_with fail
         go_ret
         exact ⟨rfl, ⟨Gr.out⟩⟩
     · have h1' : (e1 == 0) = false := beq_eq_false_iff_ne.2 h1; go_wp2_with fail
       go_ret
       exact ⟨rfl, ⟨Gr.out⟩⟩
   · obtain ⟨hn0, l1⟩ := L1 h0; subst hn0; have h0' : (e0 == 0) = false := beq_eq_false_iff_ne.2 h0; clear L1 L2; by_cases h3 : e0 = 32
     · subst h3; by_cases h1 : e1 = 0
       · subst h1; have h2' : (e2 == 0) = false := beq_eq_false_iff_ne.2 (l1 rfl rfl); clear l1; go_wp2_with fail
         go_ret
         exact ⟨by show Ending.returned (.bool (e2 != 0)) = _; rw [bne, h2']; rfl, ⟨Gr.out⟩⟩
       · have h1' : (e1 == 0) = false := beq_eq_false_iff_ne.2 h1; clear l1; go_wp2_with fail
         go_ret
         exact ⟨rfl, ⟨Gr.out⟩⟩
     · have h3' : (e0 == 32) = false := beq_eq_false_iff_ne.2 h3; clear l1; go_wp2_with fail
       go_ret
       exact ⟨rfl, ⟨Gr.out⟩⟩
 | true =>
   skip
   have LW := cut_law (l := l) (lo := (a, b)) (hi := (c, d)) (v := v) true ha hb hc hd hv'; have Z0 := hid (fun (W : World) (a' : Option Addr) (cap' : Nat) (q : VrC W) (k : ClS W a' l) => show Calls Tryz.prog 18 #[.slice a' l.length cap', .agg #[.complex .f64 a b, .complex .f64 c d]] W (fun e w' => e = .returned (.tuple #[.int .i64 (zerosN l (a, b) (c, d)).1, .int .i64 (zerosN l (a, b) (c, d)).2]) ∧ Kp0 W w') from gaZerosS (hv := q) k hl ha hb hc hd)
   have Z1 := hid (fun (W : World) (a' : Option Addr) (cap' : Nat) (q : VrC W) (k : ClS W a' l) => show Calls Tryz.prog 18 #[.slice a' l.length cap', .agg #[.complex .f64 a b, .complex .f64 c v]] W (fun e w' => e = .returned (.tuple #[.int .i64 (zerosN l (a, b) (c, v)).1, .int .i64 (zerosN l (a, b) (c, v)).2]) ∧ Kp0 W w') from gaZerosS (hv := q) k hl ha hb hc hv')
   have Z2 := hid (fun (W : World) (a' : Option Addr) (cap' : Nat) (q : VrC W) (k : ClS W a' l) => show Calls Tryz.prog 18 #[.slice a' l.length cap', .agg #[.complex .f64 a v, .complex .f64 c d]] W (fun e w' => e = .returned (.tuple #[.int .i64 (zerosN l (a, v) (c, d)).1, .int .i64 (zerosN l (a, v) (c, d)).2]) ∧ Kp0 W w') from gaZerosS (hv := q) k hl ha hv' hc hd)
   have LW' : ((zerosN l (a, b) (c, d)).2 ≠ 0 → (zerosN l (a, b) (c, d)).1 = 0 ∧ ((zerosN l (a, b) (c, d)).2 = 32 → (zerosN l (a, b) (c, v)).2 = 0 → (zerosN l (a, v) (c, d)).2 ≠ 0)) ∧ ((zerosN l (a, b) (c, d)).2 = 0 → 0 ≤ (zerosN l (a, b) (c, d)).1 ∧ (zerosN l (a, b) (c, d)).1 < l.length ∧ ((zerosN l (a, b) (c, v)).2 = 0 → (zerosN l (a, v) (c, d)).2 = 0 → (zerosN l (a, b) (c, v)).1 + (zerosN l (a, v) (c, d)).1 = (zerosN l (a, b) (c, d)).1)) := LW; clear LW; generalize (zerosN l (a, b) (c, d)).1 = n0 at *; generalize (zerosN l (a, b) (c, d)).2 = e0 at *; generalize (zerosN l (a, b) (c, v)).1 = n1 at *; generalize (zerosN l (a, b) (c, v)).2 = e1 at *; generalize (zerosN l (a, v) (c, d)).1 = n2 at *; generalize (zerosN l (a, v) (c, d)).2 = e2 at *; have LH := hid LW'; clear LW' hl ha hb hc hd hv'; rw [← HL.out] at Z0 Z1 Z2; go_enter Tryz.func7, Tryz.ntmps7; go_upto_region 14 with (first | (go_at_call 12; (with_reducible refine Calls.mono (lwAwake (hv := ⟨VrC.out⟩)) ?_); rintro e wc ⟨rfl, _⟩) | (go_at_call 19; (with_reducible refine Calls.mono (lwBox) ?_); rintro e wc ⟨rfl, _⟩) | (go_at_call 13; (with_reducible refine Calls.mono (NU.out _ inferInstance) ?_); rintro e wn ⟨vn, rfl, hvn, _⟩; obtain ⟨aV, cV, rfl, _⟩ := hvn.rw.form; rw [← HL.out] at hvn ⊢; have HVN := hid hvn; clear hvn))
   go_upto_region 15 with (go_at_call 18; (with_reducible refine Calls.mono (Z0.out _ _ _ inferInstance (clS_rw (HVN.out.rw.below eok_EC Gr.out))) ?_); rintro e wz ⟨rfl, _⟩)
   go_upto_region 16 with (go_at_call 18; (with_reducible refine Calls.mono (Z1.out _ _ _ inferInstance (clS_rw (HVN.out.rw.below eok_EC Gr.out))) ?_); rintro e wz ⟨rfl, _⟩)
   go_upto_region 17 with (go_at_call 18; (with_reducible refine Calls.mono (Z2.out _ _ _ inferInstance (clS_rw (HVN.out.rw.below eok_EC Gr.out))) ?_); rintro e wz ⟨rfl, _⟩)
   clear Z0 Z1 Z2 NU HVN; obtain ⟨L1, L2⟩ := LH.out; clear LH; by_cases h0 : e0 = 0
   · subst h0; obtain ⟨b1, b2, b3⟩ := L2 rfl; rw [← HL.out] at b2; have B3 := hid b3; have g1 : ¬ n0 < 0 := by omega
     have g2 : ¬ (n : Int) ≤ n0 := by omega
     have g3 : IntKind.i64.wrap n0 = n0 := by
      have := HN.out; rw [← HL.out] at this; rw [IntKind.wrap_i64]; omega
     clear L1 L2 b1 b2 b3; by_cases h1 : e1 = 0
     · by_cases h2 : e2 = 0
       · subst h1; subst h2; have e := B3.out rfl rfl; rw [← e] at g1 g2 g3 ⊢; clear e B3; go_wp2_with fail
         go_ret
         exact ⟨rfl, ⟨Gr.out⟩⟩
       · subst h1; have h2' : (e2 == 0) = false := beq_eq_false_iff_ne.2 h2; go_wp2_with fail
         go_ret
         exact ⟨rfl, ⟨Gr.out⟩⟩
     · have h1' : (e1 == 0) = false := beq_eq_false_iff_ne.2 h1; go_wp2_with fail
       go_ret
       exact ⟨rfl, ⟨Gr.out⟩⟩
   · obtain ⟨hn0, l1⟩ := L1 h0; subst hn0; have h0' : (e0 == 0) = false := beq_eq_false_iff_ne.2 h0; clear L1 L2; by_cases h3 : e0 = 32
     · subst h3; by_cases h1 : e1 = 0
       · subst h1; have h2' : (e2 == 0) = false := beq_eq_false_iff_ne.2 (l1 rfl rfl); clear l1; go_wp2_with fail
         go_ret
         exact ⟨by show Ending.returned (.bool (e2 != 0)) = _; rw [bne, h2']; rfl, ⟨Gr.out⟩⟩
       · have h1' : (e1 == 0) = false := beq_eq_false_iff_ne.2 h1; clear l1; go_wp2_with fail
         go_ret
         exact ⟨rfl, ⟨Gr.out⟩⟩
     · have h3' : (e0 == 32) = false := beq_eq_false_iff_ne.2 h3; clear l1; go_wp2_with fail
       go_ret
       exact ⟨rfl, ⟨Gr.out⟩⟩
end Go.Proofs.YthjeejnggpjnjaaGreatDoor
