/- The document's reader of tracers. -/
import Derived.Test.YtnagagcgmfkjjaaGreatDoorBI
set_option linter.unusedSimpArgs false
set_option linter.unusedVariables false
namespace Go.Proofs.YtnagagcgmfkjjaaGreatDoor
open Go.RowKit
set_option maxRecDepth 100000 in
set_option maxHeartbeats 16000000 in
theorem dreadT_any (s : ByteArray) (hs : s.size ≤ 70000) (w : World) :
    Calls Tryz.prog 12 #[.string s] w fun e w' => ∃ sv, e = .returned (.tuple #[sv, .agg #[.int .i64 (tracersR s.data.toList).2.1, .int .i64 (tracersR s.data.toList).2.2]]) ∧ w'.ownsRow w.heap.size 58 3 sv (tracersR s.data.toList).1.length ((tracersR s.data.toList).1.flatMap trCells) ∧ Below w.heap.size w w' := by
  obtain ⟨Q, hQ⟩ : ∃ Q, Q = tracersR s.data.toList := ⟨_, rfl⟩
  rw [← hQ]
  unfold tracersR readT at hQ
  by_cases hlong : 65536 < s.size
  · have hd : decide (65536 < s.size) = true := by simpa using hlong
    have hr : readS s.data.toList wTracers wTracers wTracer (tracS s.data.toList) = ([], 3, 0) := by unfold readS; rw [if_pos (by rw [size_list]; exact hlong)]
    rw [hr, if_neg (by decide)] at hQ
    rw [hQ]
    clear hQ hr
    go_enter Tryz.func12, Tryz.ntmps12
    go_wp2_with (go_at_call 40; ((with_reducible refine (rlong_any _ _).mono ?_); rintro e w' ⟨rfl, rfl⟩; rw [hd]))
    refine bodyPost_ret (v := .tuple #[.slice none 0 0, .agg #[.int .i64 3, .int .i64 0]]) (by simp [results, Tryz.results12, go_sem]) rfl ⟨.slice none 0 0, rfl, own_nil _ _ _ _, ?_⟩
    (repeat' (first | exact Below.refl _ _ | (refine Below.alloc ?_ ?_ _) | (refine Below.drew ?_) | (refine Below.setCell ?_ ?_ _) | (simp; done) | (simp; omega) | assumption))
  · have hd : decide (65536 < s.size) = false := by simpa using hlong
    have hs8 : s.size ≤ 80000 := by omega
    have HQ := hid hQ
    clear hQ
    have L0 := hid (Dn.start2 s w 58 3)
    have i0 : ((0, -1) : St).1 ≤ s.size := Nat.zero_le _
    go_enter Tryz.func12, Tryz.ntmps12
    go_wp2_with (go_at_call 40; ((with_reducible refine (rlong_any _ _).mono ?_); rintro e w' ⟨rfl, rfl⟩; rw [hd]))
    refine (rbegins_any (w.heap.size + 1) s ⟨#[116, 114, 97, 99, 101, 114, 115]⟩ ⟨#[116, 114, 97, 99, 101, 114, 115]⟩ (0, -1) _ L0.out.rd i0 hs8 (by decide) (by decide)).mono ?_
    rintro e w1 ⟨rfl, hR, hK⟩
    obtain ⟨r1, e1⟩ : ∃ x, x = mustS s.data.toList (headL wTracers wTracers) (0, -1) := ⟨_, rfl⟩
    have i1 := must_le s.data.toList (headL wTracers wTracers) (0, -1) (Nat.zero_le _)
    rw [← e1] at i1
    rw [show mustS s.data.toList (headL (⟨#[116, 114, 97, 99, 101, 114, 115]⟩ : ByteArray).data.toList (⟨#[116, 114, 97, 99, 101, 114, 115]⟩ : ByteArray).data.toList) (0, -1) = r1 from e1.symm] at hR ⊢
    obtain ⟨r2, e2⟩ : ∃ x, x = wholeS s.data.toList 63 r1 := ⟨_, rfl⟩
    have i2 := whole_le s.data.toList 63 r1 i1
    have hw2 := whole_lt s.data.toList 63 r1
    rw [← e2] at hR i2 hw2 ⊢
    obtain ⟨r3, e3⟩ : ∃ x, x = mustS s.data.toList [[10]] r2.2 := ⟨_, rfl⟩
    have i3 := must_le s.data.toList [[10]] r2.2 i2
    rw [← e3] at hR i3
    rw [size_list] at i3
    have L1 := hid (L0.out.call hK hR)
    have E1 := hid e1
    have E2 := hid e2
    have E3 := hid e3
    obtain ⟨NN, hNN⟩ : ∃ NN, NN = r2.1 := ⟨_, rfl⟩
    rw [← hNN] at hw2 ⊢
    have EN := hid hNN
    clear hR hK e1 e2 e3 L0 i1 i2 hNN i0
    go_upto_block 0 with fail
    go_cut [5, 7, 8] from 18 to 49 (fun s5 s7 s8 wx => ∃ (st : St) (l : List Tr) (sv : Value), sv = s5 ∧ Hid (Dn w.heap.size w (w.heap.size + 1) s ([(w.heap.size, #[.int .i64 0, .int .i64 0], 41)]) 58 3 st l.length sv (l.flatMap trCells) wx) ∧ st.1 ≤ s.size ∧ Hid (linesS s.data.toList wTracer (tracS s.data.toList) NN r3 = (l, st)))
    case first =>
      go_wp2_with fail
      go_loopw [5, 7, 8] (fun s5 s7 s8 wr => ∃ (c : Nat) (st : St) (l : List Tr) (sv : Value), s7 = .int .i64 c ∧ sv = s5 ∧ c ≤ NN ∧ Hid (Dn w.heap.size w (w.heap.size + 1) s ([(w.heap.size, #[.int .i64 0, .int .i64 0], 41)]) 58 3 st l.length sv (l.flatMap trCells) wr) ∧ st.1 ≤ s.size ∧ (st.2 < 0 → l.length ≤ st.1) ∧
        Hid (linesS s.data.toList wTracer (tracS s.data.toList) NN r3 = (l ++ (linesS s.data.toList wTracer (tracS s.data.toList) (NN - c) st).1, (linesS s.data.toList wTracer (tracS s.data.toList) (NN - c) st).2))) (fun s5 s7 s8 _ => NN - (intOf s7).toNat)
      case atStart => exact ⟨0, r3, [], .slice none 0 0, rfl, rfl, Nat.zero_le _, L1, i3, fun _ => Nat.zero_le _, hid rfl⟩
      case round =>
        obtain ⟨c, st, l, sv, rfl, rfl, hc, L4, hi4, hn4, HL⟩ := hrel
        have q2 := cell_of_block L4.out.rd 2
        simp at q2
        have hX : (w.heap.size + 1) < wr.heap.size := L4.out.lt

        haveI : Has wr (w.heap.size + 1) := ⟨L4.out.lt⟩
        by_cases h1 : c < NN
        · have h1' : (c : Int) < (NN : Int) := by omega
          by_cases h2 : st.2 < 0
          · have hd2 : decide (0 ≤ st.2) = false := by simpa using h2
            rw [hd2] at q2
            have hn := hn4 h2
            have L5 := hid (L4.out.allocF #[.complex .f64 0 0, .float .f64 0, .int .u8 0] 58)
            have hXn : ∀ p ∈ ([(w.heap.size, #[.int .i64 0, .int .i64 0], 41)] : List Fx), p.1 ≠ wr.heap.size := by
              intro p hp
              have := lt_of_block (L4.out.fix p hp)
              omega
            obtain ⟨X, hXX⟩ : ∃ X, X = wr.heap.size := ⟨_, rfl⟩
            rw [← hXX] at L5 hXn
            have HXX := hid hXX
            clear hXX
            go_wp2_with fail
            rw [← HXX.out]
            clear q2
            refine (rmust_any (w.heap.size + 1) s ⟨#[116, 114, 97, 99, 101, 114]⟩ st _ L5.out.rd hi4 hs8 (by decide)).mono ?_
            rintro e w6 ⟨rfl, hR, hK⟩
            have i6 := must_le s.data.toList [wTracer] st (by rw [size_list]; exact hi4)
            rw [size_list] at i6
            obtain ⟨t6, e6⟩ : ∃ x, x = mustS s.data.toList [wTracer] st := ⟨_, rfl⟩
            rw [show mustS s.data.toList [(⟨#[116, 114, 97, 99, 101, 114]⟩ : ByteArray).data.toList] st = t6 from e6.symm] at hR
            rw [← e6] at i6
            have L6 := hid (L5.out.call hK hR)
            have E6 := hid e6
            clear hR hK e6 L5
            go_wp2_with fail
            refine (rnumber_any (w.heap.size + 1) s t6 _ L6.out.rd i6 hs8).mono ?_
            rintro e w7 ⟨rfl, hR, hK⟩
            have i7 := num_le s.data.toList _ (must_le s.data.toList [[32]] t6 (by rw [size_list]; exact i6))
            rw [size_list] at i7
            obtain ⟨t7, e7⟩ : ∃ x, x = numS s.data.toList (mustS s.data.toList [[32]] t6) := ⟨_, rfl⟩
            rw [← e7] at hR i7 ⊢
            have L7 := hid (L6.out.call hK hR)
            have E7 := hid e7
            clear hR hK e7 L6
            have x0 := cell_of_block L7.out.hd 0
            have f0 := free_of_block L7.out.hd 0
            simp at x0
            haveI : Has w7 X := ⟨lt_of_block L7.out.hd⟩
            go_wp2_with fail
            have L7p := hid (L7.out.put hXn 0 (.complex .f64 t7.1.1 t7.1.2))
            generalize w7.setCell ⟨X, 0, none⟩ (.complex .f64 t7.1.1 t7.1.2) = v7 at L7p ⊢
            clear x0 f0 L7
            refine (rfloat_any (w.heap.size + 1) s t7.2 _ L7p.out.rd i7 hs8).mono ?_
            rintro e w8 ⟨rfl, hR, hK⟩
            have i8 := float_le s.data.toList _ (must_le s.data.toList [[32]] t7.2 (by rw [size_list]; exact i7))
            rw [size_list] at i8
            obtain ⟨t8, e8⟩ : ∃ x, x = floatS s.data.toList (mustS s.data.toList [[32]] t7.2) := ⟨_, rfl⟩
            rw [← e8] at hR i8 ⊢
            have L8 := hid (L7p.out.call hK hR)
            have E8 := hid e8
            clear hR hK e8 L7p
            have x0 := cell_of_block L8.out.hd 1
            have f0 := free_of_block L8.out.hd 1
            simp at x0
            haveI : Has w8 X := ⟨lt_of_block L8.out.hd⟩
            go_wp2_with fail
            have L8p := hid (L8.out.put hXn 1 (.float .f64 t8.1))
            generalize w8.setCell ⟨X, 1, none⟩ (.float .f64 t8.1) = v8 at L8p ⊢
            clear x0 f0 L8
            refine (rmust_any (w.heap.size + 1) s ⟨#[32]⟩ t8.2 _ L8p.out.rd i8 hs8 (by decide)).mono ?_
            rintro e w9 ⟨rfl, hR, hK⟩
            have i9 := must_le s.data.toList [[32]] t8.2 (by rw [size_list]; exact i8)
            rw [size_list] at i9
            obtain ⟨t9, e9⟩ : ∃ x, x = mustS s.data.toList [[32]] t8.2 := ⟨_, rfl⟩
            rw [show mustS s.data.toList [(⟨#[32]⟩ : ByteArray).data.toList] t8.2 = t9 from e9.symm] at hR
            rw [← e9] at i9
            have L9 := hid (L8p.out.call hK hR)
            have E9 := hid e9
            clear hR hK e9 L8p
            go_wp2_with fail
            refine (rwhole_any 8 m255b (by decide) bad255 (by decide) (w.heap.size + 1) s t9.1 t9.2 _ L9.out.rd i9 hs8).mono ?_
            rintro e w10 ⟨rfl, hR, hK⟩
            have i10 := whole_le s.data.toList 8 t9 (by rw [size_list]; exact i9)
            rw [size_list] at i10
            have hw10 := whole_lt s.data.toList 8 t9
            obtain ⟨t10, e10⟩ : ∃ x, x = wholeS s.data.toList 8 t9 := ⟨_, rfl⟩
            rw [show wholeS s.data.toList 8 (t9.1, t9.2) = t10 from e10.symm] at hR ⊢
            rw [← e10] at i10 hw10
            have hu : IntKind.u8.wrap (t10.1 : Int) = (t10.1 : Int) := by rw [IntKind.wrap_u8]; omega
            have L10 := hid (L9.out.call hK hR)
            have E10 := hid e10
            clear hR hK e10 L9
            have x0 := cell_of_block L10.out.hd 2
            have f0 := free_of_block L10.out.hd 2
            simp at x0
            haveI : Has w10 X := ⟨lt_of_block L10.out.hd⟩
            go_wp2_with fail
            have L10p := hid (L10.out.put hXn 2 (.int .u8 t10.1))
            generalize w10.setCell ⟨X, 2, none⟩ (.int .u8 t10.1) = v10 at L10p ⊢
            clear x0 f0 L10
            refine (rmust_any (w.heap.size + 1) s ⟨#[10]⟩ t10.2 _ L10p.out.rd i10 hs8 (by decide)).mono ?_
            rintro e w11 ⟨rfl, hR, hK⟩
            have i11 := must_le s.data.toList [[10]] t10.2 (by rw [size_list]; exact i10)
            rw [size_list] at i11
            obtain ⟨t11, e11⟩ : ∃ x, x = mustS s.data.toList [[10]] t10.2 := ⟨_, rfl⟩
            rw [show mustS s.data.toList [(⟨#[10]⟩ : ByteArray).data.toList] t10.2 = t11 from e11.symm] at hR
            rw [← e11] at i11
            have L11 := hid (L10p.out.call hK hR)
            have E11 := hid e11
            clear hR hK e11 L10p
            have bX : w11.heap[X]? = some (.cells #[.complex .f64 t7.1.1 t7.1.2, .float .f64 t8.1, .int .u8 t10.1] 58 (0, 0)) := by have := L11.out.hd; simpa using this
            have x0 := cell_of_block bX 0
            have x1 := cell_of_block bX 1
            have x2 := cell_of_block bX 2
            simp at x0 x1 x2
            haveI : Has w11 X := ⟨lt_of_block bX⟩
            have hbs : w.heap.size ≤ w11.heap.size := by have := L11.out.lt; omega
            obtain ⟨ti, hti, htz, hts, htb⟩ := info_parts Tryz.info58
            have L11n := hid ((L11.out.sub (fun p hp => List.mem_cons_of_mem _ hp)).alloc (.cells #[.complex .f64 t7.1.1 t7.1.2, .float .f64 t8.1, .int .u8 t10.1] 58))
            have HE5 : Hid (mustS s.data.toList [wTracer, [32]] st = (mustS s.data.toList [[32]] t6)) := hid (by rw [must_cons]; rw [← E6.out])
            have HE6 : Hid (tracS s.data.toList (mustS s.data.toList [[32]] t6) = ((t7.1, t8.1, t10.1), t10.2)) := hid (by unfold tracS; simp only [← E7.out, ← E8.out, ← E9.out, ← E10.out])
            have HE7 : Hid (t11 = mustS s.data.toList [[10]] t10.2) := E11
            have hnx := hid (lines_next h1 h2 HE5.out.symm HE6.out.symm HL.out)
            have hfar := hid (line_far (one := wTracer) (trac_ok s.data.toList) st)

            go_wp2_with (at_builtin; refine list_app (by rfl) _ _ _ (by rfl) w.heap.size 58 ti _ 3 32 Tryz.underlying30 hti htz hts htb rfl (by omega) sv l.length (l.flatMap trCells) (by rfl) L11n.out.own [.complex .f64 t7.1.1 t7.1.2, .float .f64 t8.1, .int .u8 t10.1] ⟨_, _, rfl, World.news_of_block (cs := #[.complex .f64 t7.1.1 t7.1.2, .float .f64 t8.1, .int .u8 t10.1]) (t := 58) (fr := (0, 0)) (by simp only [block_at])⟩ (by rfl) (by simp [Value.oneCell']) (by unfold maxLen; omega) (by omega) (by simp; omega) ?_; intro g cp wa hown hgrow hat hlt; have LA := hid (L11n.out.app hown hgrow hat); clear hown hgrow hat)
            have LB := hid (LA.out)
            clear L11 L11n x0 x1 x2 bX
            go_roundw
            case rel =>
              refine ⟨c + 1, t11, l ++ [(t7.1, t8.1, t10.1)], .slice (some ⟨g, 0, none⟩) (l.length + 1) cp, by rfl, rfl, by omega, hid (Dn.cast (by exact LB.out) (by simp) (by simp [trCells])), i11, fun hneg => ?_, ?_⟩
              · have hf := hfar.out
                rw [HE5.out, HE6.out, ← HE7.out] at hf
                have := hf hneg
                simp
                omega
              · rw [HE7.out]
                exact hnx
            case measure => simp [intOf]; omega
          · have HALL := hid (lines_done (Or.inr h2) HL.out)
            have hd2 : decide (0 ≤ st.2) = true := by simpa using h2
            rw [hd2] at q2
            go_wp2_with fail
            go_meet
            exact ⟨st, l, sv, rfl, L4, hi4, HALL⟩
        · have HALL := hid (lines_done (Or.inl h1) HL.out)
          go_wp2_with fail
          go_meet
          exact ⟨st, l, sv, rfl, L4, hi4, HALL⟩
    case rest =>
      obtain ⟨st, l, sv, rfl, LE, hiE, HALL⟩ := hcut
      go_wp2_with fail
      refine (rends_any (w.heap.size + 1) s st _ LE.out.rd hiE hs8).mono ?_
      rintro e w5 ⟨rfl, ⟨st5, hR⟩, hK⟩
      obtain ⟨sa, sc, rfl, -⟩ := own_form LE.out.own
      have L5 := hid (LE.out.call hK hR)
      have hq := read_ends (l := l) (st := st) (kind := wTracers) (word := wTracers) (one := wTracer) (line := tracS s.data.toList) (by rw [size_list]; exact hlong) (by rw [← E1.out, ← E2.out, ← E3.out, ← EN.out]; exact HALL.out)
      have hz := @ends_zero s.data.toList st
      have hok := @readT_ok s.data.toList

      unfold readT at hok
      have hq2 := HQ.out
      generalize endsR s.data.toList st = ec at hq hz ⊢
      rw [hq] at hok hq2
      obtain ⟨ec1, ec2⟩ := ec
      simp only [] at hz hok hq2 ⊢
      clear hq LE hR hK
      have hY : ∀ p ∈ ([(w.heap.size, #[.int .i64 0, .int .i64 0], 41)] : List Fx), p.1 ≠ w5.heap.size := by
        intro p hp
        have := lt_of_block (L5.out.fix p hp)
        omega
      have zAw5 := cell_of_block (L5.out.fix (w.heap.size, #[.int .i64 0, .int .i64 0], 41) (by simp)) 0
      have zBw5 := cell_of_block (L5.out.fix (w.heap.size, #[.int .i64 0, .int .i64 0], 41) (by simp)) 1
      have zaw5 := free_of_block (L5.out.fix (w.heap.size, #[.int .i64 0, .int .i64 0], 41) (by simp)) 0
      have zbw5 := free_of_block (L5.out.fix (w.heap.size, #[.int .i64 0, .int .i64 0], 41) (by simp)) 1
      simp at zAw5 zBw5
      haveI : Has w5 (w.heap.size) := ⟨lt_of_block (L5.out.fix (w.heap.size, #[.int .i64 0, .int .i64 0], 41) (by simp))⟩
      by_cases h0 : ec1 = 0
      · subst h0
        obtain rfl := hz rfl
        obtain ⟨-, hl2, -⟩ := hok rfl
        rw [size_list] at hl2
        rw [if_pos rfl] at hq2
        have L6 := hid (L5.out.allocF #[.int .i64 0, .int .i64 0] 41)
        clear hz hok
        by_cases hc : 4096 < l.length
        · have hc' : (4096 : Int) < (l.length : Int) := by omega
          rw [if_pos hc] at hq2
          have HV := hid hq2
          have L7 := L5
          clear hq2  hY L5 L6
          go_wp2_with fail
          go_region
          all_goals
            go_wp2_with fail
            refine bodyPost_ret (v := .tuple #[.slice none 0 0, .agg #[.int .i64 4, .int .i64 0]]) (by simp [results, Tryz.results12, go_sem, zAw5, zBw5]) rfl ⟨.slice none 0 0, by rw [HV.out], ?_⟩
            rw [HV.out]
            refine Fn.via0 L7.out.fn (fun F8 => ?_)
            (repeat' (first | exact F8 | (refine Fn.set ?_ (by simp) _ _) | (refine Fn.drewN ?_ _) | (refine Fn.drew ?_) | (refine Fn.alloc ?_ _)))
        · have hc' : ¬ (4096 : Int) < (l.length : Int) := by omega
          have hc'' : decide ((4096 : Int) < (l.length : Int)) = false := by rw [decide_eq_false_iff_not]; omega
          have hc3 : decide (4096 < l.length) = false := by rw [decide_eq_false_iff_not]; omega
          rw [if_neg hc] at hq2
          have HV := hid hq2
          have L7 := L5
          clear hq2  hY L5 L6
          go_wp2_with fail
          go_region
          all_goals
            go_wp2_with fail
            refine bodyPost_ret (v := .tuple #[.slice sa l.length sc, .agg #[.int .i64 0, .int .i64 0]]) (by simp [results, Tryz.results12, go_sem, zAw5, zBw5]) rfl ⟨.slice sa l.length sc, by rw [HV.out], ?_⟩
            rw [HV.out]
            refine Fn.via L7.out.fn (fun F8 => ?_)
            (repeat' (first | exact F8 | (refine Fn.set ?_ (by simp) _ _) | (refine Fn.drewN ?_ _) | (refine Fn.drew ?_) | (refine Fn.alloc ?_ _)))
      · rw [if_neg h0] at hq2
        have e1 : (ec1 == 0) = false := by simpa using h0
        have e2 : (ec1 != 0) = true := by simpa using h0
        have HV := hid hq2
        have H0 := hid h0
        have L7 := L5
        clear hq2 hz hok  h0 hY L5
        go_wp2_with fail
        go_region
        all_goals
          go_wp2_with fail
          refine bodyPost_ret (v := .tuple #[.slice none 0 0, .agg #[.int .i64 ec1, .int .i64 ec2]]) (by simp [results, Tryz.results12, go_sem, zAw5, zBw5]) rfl ⟨.slice none 0 0, by rw [HV.out], ?_⟩
          rw [HV.out]
          refine Fn.via0 L7.out.fn (fun F8 => ?_)
          (repeat' (first | exact F8 | (refine Fn.set ?_ (by simp) _ _) | (refine Fn.drewN ?_ _) | (refine Fn.drew ?_) | (refine Fn.alloc ?_ _)))
end Go.Proofs.YtnagagcgmfkjjaaGreatDoor
