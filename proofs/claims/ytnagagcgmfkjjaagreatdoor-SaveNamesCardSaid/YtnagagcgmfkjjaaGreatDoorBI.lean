/- The document's reader of flows. -/
import Derived.Test.YtnagagcgmfkjjaaGreatDoorBH
set_option linter.unusedSimpArgs false
set_option linter.unusedVariables false
namespace Go.Proofs.YtnagagcgmfkjjaaGreatDoor
open Go.RowKit

theorem Dn.hd {B : Nat} {w0 w : World} {rb : Nat} {s : ByteArray} {st : St} {F : List Fx} {E size n g T : Nat} {c : Array Value} {sv : Value} {xs : List Value} (L : Dn B w0 rb s ((g, c, T) :: F) E size st n sv xs w) : w.heap[g]? = some (.cells c T (0, 0)) := L.fix _ List.mem_cons_self
theorem Dn.cast {B : Nat} {w0 w : World} {rb : Nat} {s : ByteArray} {st : St} {F : List Fx} {E size n n' : Nat} {sv : Value} {xs xs' : List Value} (L : Dn B w0 rb s F E size st n sv xs w) (h1 : n = n') (h2 : xs = xs') : Dn B w0 rb s F E size st n' sv xs' w := by subst h1; subst h2; exact L
theorem Dn.start4 (s : ByteArray) (w : World) (E size : Nat) : Dn w.heap.size w (w.heap.size + 2) s [(w.heap.size + 3, #[.slice none 0 0], 25), (w.heap.size + 1, #[.int .i64 0, .int .i64 0], 41), (w.heap.size, #[.slice none 0 0], 25)] E size (0, -1) 0 (.slice none 0 0) []
    ((((w.alloc (.cells #[.slice none 0 0] 25)).alloc (.cells #[.int .i64 0, .int .i64 0] 41)).alloc (.cells #[.string s, .int .i64 0, .bool false, .int .i64 0] 96)).alloc (.cells #[.slice none 0 0] 25)) := by
  refine ⟨by unfold Rr; simp only [block_alloc', block_at]; rfl, fun p hp => ?_, fun p hp => ?_, own_nil _ _ _ _, by simp [Value.ownBlock], fun p hp => by simp [Value.ownBlock], by omega, ((((Keeps.refl _ _ _).alloc (Nat.le_refl _) _).alloc (by simp) _).alloc (by simp; omega) _).alloc (by simp; omega) _⟩
  · simp only [List.mem_cons, List.not_mem_nil, or_false] at hp
    rcases hp with rfl | rfl | rfl <;> simp only [block_alloc', block_at]
  · simp only [List.mem_cons, List.not_mem_nil, or_false] at hp
    rcases hp with rfl | rfl | rfl <;> exact ⟨by simp, by simp⟩
theorem Dn.start2 (s : ByteArray) (w : World) (E size : Nat) : Dn w.heap.size w (w.heap.size + 1) s [(w.heap.size, #[.int .i64 0, .int .i64 0], 41)] E size (0, -1) 0 (.slice none 0 0) []
    ((w.alloc (.cells #[.int .i64 0, .int .i64 0] 41)).alloc (.cells #[.string s, .int .i64 0, .bool false, .int .i64 0] 96)) := by
  refine ⟨by unfold Rr; simp only [block_alloc', block_at]; rfl, fun p hp => ?_, fun p hp => ?_, own_nil _ _ _ _, by simp [Value.ownBlock], fun p hp => by simp [Value.ownBlock], by omega, ((Keeps.refl _ _ _).alloc (Nat.le_refl _) _).alloc (by simp) _⟩
  · simp only [List.mem_cons, List.not_mem_nil, or_false] at hp
    rcases hp with rfl <;> simp only [block_alloc', block_at]
  · simp only [List.mem_cons, List.not_mem_nil, or_false] at hp
    rcases hp with rfl <;> exact ⟨by simp, by simp⟩
theorem ends_zero {s : By} {st : St} (h : (endsR s st).1 = 0) : (endsR s st).2 = 0 := by
  unfold endsR at h ⊢
  split
  · rename_i h1
    rw [if_pos h1] at h
    split
    · rfl
    · rename_i h2
      rw [if_neg h2] at h
      cases h
  · rename_i h1
    rw [if_neg h1] at h
    cases h

/-- What the end of a reading wants: the row, the blocks that are its own. -/
structure Fn (B : Nat) (w0 : World) (F : List Fx) (E size n : Nat) (sv : Value) (xs : List Value) (w : World) : Prop where
  own : w.ownsRow B E size sv n xs
  of : ∀ p ∈ F, sv.ownBlock ≠ some p.1
  nr : ∀ p ∈ F, B ≤ p.1
  kp : Keeps B [] w0 w
  sz : B ≤ w.heap.size
section
variable {B : Nat} {w0 w w' : World} {F : List Fx} {E size n : Nat} {sv : Value} {xs : List Value}
theorem Dn.fn {rb : Nat} {s : ByteArray} {st : St} (L : Dn B w0 rb s F E size st n sv xs w) : Fn B w0 F E size n sv xs w := ⟨L.own, L.of, fun p hp => (L.nr p hp).2, L.kp, by have := L.lt; have := L.br; omega⟩
theorem Fn.set (L : Fn B w0 F E size n sv xs w) {g : Nat} (hg : ∃ p ∈ F, p.1 = g) (o : Nat) (v : Value) : Fn B w0 F E size n sv xs (w.setCell ⟨g, o, none⟩ v) := by
  obtain ⟨p, hp, rfl⟩ := hg
  exact ⟨own_set L.own (L.of p hp), L.of, L.nr, L.kp.set (Or.inr (L.nr p hp)) _ _, by rw [World.size_setCell]; exact L.sz⟩
theorem Fn.drewN (L : Fn B w0 F E size n sv xs w) (m : Nat) : Fn B w0 F E size n sv xs (w.drewN m) := ⟨own_keeps L.own (Keeps.drewN (Keeps.refl w.heap.size [] w) m) (Nat.le_refl _) (by simp), L.of, L.nr, L.kp.drewN m, L.sz⟩
theorem Fn.drew (L : Fn B w0 F E size n sv xs w) : Fn B w0 F E size n sv xs w.drew := ⟨L.own.drew, L.of, L.nr, L.kp.drew, L.sz⟩
theorem Fn.alloc (L : Fn B w0 F E size n sv xs w) (o : Obj) : Fn B w0 F E size n sv xs (w.alloc o) := ⟨own_keeps L.own (Keeps.alloc (Keeps.refl w.heap.size [] w) (Nat.le_refl _) _) (Nat.le_refl _) (by simp), L.of, L.nr, L.kp.alloc L.sz _, by have := L.sz; simp; omega⟩
theorem Fn.via (f : Fn B w0 F E size n sv xs w) (g : Fn B w0 F E size n sv xs w → Fn B w0 F E size n sv xs w') : w'.ownsRow B E size sv n xs ∧ Below B w0 w' := ⟨(g f).own, (g f).kp.below⟩
theorem Fn.via0 {E' size' : Nat} (f : Fn B w0 F E size n sv xs w) (g : Fn B w0 F E size n sv xs w → Fn B w0 F E size n sv xs w') : w'.ownsRow B E' size' (.slice none 0 0) 0 [] ∧ Below B w0 w' := ⟨own_nil _ _ _ _, (g f).kp.below⟩
end
set_option maxRecDepth 100000 in
set_option maxHeartbeats 16000000 in
theorem dreadF_any (s : ByteArray) (hs : s.size ≤ 70000) (w : World) :
    Calls Tryz.prog 11 #[.string s] w fun e w' => ∃ sv, e = .returned (.tuple #[.agg #[sv], .agg #[.int .i64 (flowR s.data.toList).2.1, .int .i64 (flowR s.data.toList).2.2]]) ∧ w'.ownsRow w.heap.size 56 4 sv (flowR s.data.toList).1.length ((flowR s.data.toList).1.flatMap elCells) ∧ Below w.heap.size w w' := by
  obtain ⟨Q, hQ⟩ : ∃ Q, Q = flowR s.data.toList := ⟨_, rfl⟩
  rw [← hQ]
  unfold flowR readF at hQ
  by_cases hlong : 65536 < s.size
  · have hd : decide (65536 < s.size) = true := by simpa using hlong
    have hr : readS s.data.toList wFlow wElements wElement (elemS s.data.toList) = ([], 3, 0) := by unfold readS; rw [if_pos (by rw [size_list]; exact hlong)]
    rw [hr, if_neg (by decide)] at hQ
    rw [hQ]
    clear hQ hr
    go_enter Tryz.func11, Tryz.ntmps11
    go_wp2_with (go_at_call 40; ((with_reducible refine (rlong_any _ _).mono ?_); rintro e w' ⟨rfl, rfl⟩; rw [hd]))
    refine bodyPost_ret (v := .tuple #[.agg #[.slice none 0 0], .agg #[.int .i64 3, .int .i64 0]]) (by simp [results, Tryz.results11, go_sem]) rfl ⟨.slice none 0 0, rfl, own_nil _ _ _ _, ?_⟩
    (repeat' (first | exact Below.refl _ _ | (refine Below.alloc ?_ ?_ _) | (refine Below.drew ?_) | (refine Below.setCell ?_ ?_ _) | (simp; done) | (simp; omega) | assumption))
  · have hd : decide (65536 < s.size) = false := by simpa using hlong
    have hs8 : s.size ≤ 80000 := by omega
    have HQ := hid hQ
    clear hQ
    have L0 := hid (Dn.start4 s w 56 4)
    have i0 : ((0, -1) : St).1 ≤ s.size := Nat.zero_le _
    go_enter Tryz.func11, Tryz.ntmps11
    go_wp2_with (go_at_call 40; ((with_reducible refine (rlong_any _ _).mono ?_); rintro e w' ⟨rfl, rfl⟩; rw [hd]))
    refine (rbegins_any (w.heap.size + 2) s ⟨#[102, 108, 111, 119]⟩ ⟨#[101, 108, 101, 109, 101, 110, 116, 115]⟩ (0, -1) _ L0.out.rd i0 hs8 (by decide) (by decide)).mono ?_
    rintro e w1 ⟨rfl, hR, hK⟩
    obtain ⟨r1, e1⟩ : ∃ x, x = mustS s.data.toList (headL wFlow wElements) (0, -1) := ⟨_, rfl⟩
    have i1 := must_le s.data.toList (headL wFlow wElements) (0, -1) (Nat.zero_le _)
    rw [← e1] at i1
    rw [show mustS s.data.toList (headL (⟨#[102, 108, 111, 119]⟩ : ByteArray).data.toList (⟨#[101, 108, 101, 109, 101, 110, 116, 115]⟩ : ByteArray).data.toList) (0, -1) = r1 from e1.symm] at hR ⊢
    obtain ⟨r2, e2⟩ : ∃ x, x = wholeS s.data.toList 63 r1 := ⟨_, rfl⟩
    have i2 := whole_le s.data.toList 63 r1 i1
    have hw2 := whole_lt s.data.toList 63 r1
    rw [← e2] at hR i2 hw2 ⊢
    obtain ⟨r3, e3⟩ : ∃ x, x = mustS s.data.toList [[10]] r2.2 := ⟨_, rfl⟩
    have i3 := must_le s.data.toList [[10]] r2.2 i2
    rw [← e3] at hR i3
    rw [size_list] at i3
    have L1 := hid (L0.out.call hK hR)
    have E1 := hid e1
    have E2 := hid e2
    have E3 := hid e3
    obtain ⟨NN, hNN⟩ : ∃ NN, NN = r2.1 := ⟨_, rfl⟩
    rw [← hNN] at hw2 ⊢
    have EN := hid hNN
    clear hR hK e1 e2 e3 L0 i1 i2 hNN i0
    go_upto_block 0 with fail
    go_cut [7, 8] from 19 to 55 (fun s7 s8 wx => ∃ (st : St) (l : List El) (sv : Value), Hid (Dn w.heap.size w (w.heap.size + 2) s ([(w.heap.size + 3, #[sv], 25), (w.heap.size + 1, #[.int .i64 0, .int .i64 0], 41), (w.heap.size, #[.slice none 0 0], 25)]) 56 4 st l.length sv (l.flatMap elCells) wx) ∧ st.1 ≤ s.size ∧ Hid (linesS s.data.toList wElement (elemS s.data.toList) NN r3 = (l, st)))
    case first =>
      go_wp2_with fail
      go_loopw [7, 8] (fun s7 s8 wr => ∃ (c : Nat) (st : St) (l : List El) (sv : Value), s7 = .int .i64 c ∧ c ≤ NN ∧ Hid (Dn w.heap.size w (w.heap.size + 2) s ([(w.heap.size + 3, #[sv], 25), (w.heap.size + 1, #[.int .i64 0, .int .i64 0], 41), (w.heap.size, #[.slice none 0 0], 25)]) 56 4 st l.length sv (l.flatMap elCells) wr) ∧ st.1 ≤ s.size ∧ (st.2 < 0 → l.length ≤ st.1) ∧
        Hid (linesS s.data.toList wElement (elemS s.data.toList) NN r3 = (l ++ (linesS s.data.toList wElement (elemS s.data.toList) (NN - c) st).1, (linesS s.data.toList wElement (elemS s.data.toList) (NN - c) st).2))) (fun s7 s8 _ => NN - (intOf s7).toNat)
      case atStart => exact ⟨0, r3, [], .slice none 0 0, rfl, Nat.zero_le _, L1, i3, fun _ => Nat.zero_le _, hid rfl⟩
      case round =>
        obtain ⟨c, st, l, sv, rfl, hc, L4, hi4, hn4, HL⟩ := hrel
        have q2 := cell_of_block L4.out.rd 2
        simp at q2
        have hX : (w.heap.size + 2) < wr.heap.size := L4.out.lt
        have hX3 : w.heap.size + 3 < wr.heap.size := lt_of_block L4.out.hd
        haveI : Has wr (w.heap.size + 2) := ⟨L4.out.lt⟩
        by_cases h1 : c < NN
        · have h1' : (c : Int) < (NN : Int) := by omega
          by_cases h2 : st.2 < 0
          · have hd2 : decide (0 ≤ st.2) = false := by simpa using h2
            rw [hd2] at q2
            have hn := hn4 h2
            have L5 := hid (L4.out.allocF #[.int .u8 0, .complex .f64 0 0, .complex .f64 0 0, .float .f64 0] 56)
            have hXn : ∀ p ∈ ([(w.heap.size + 3, #[sv], 25), (w.heap.size + 1, #[.int .i64 0, .int .i64 0], 41), (w.heap.size, #[.slice none 0 0], 25)] : List Fx), p.1 ≠ wr.heap.size := by
              intro p hp
              have := lt_of_block (L4.out.fix p hp)
              omega
            obtain ⟨X, hXX⟩ : ∃ X, X = wr.heap.size := ⟨_, rfl⟩
            rw [← hXX] at L5 hXn
            have HXX := hid hXX
            clear hXX
            go_wp2_with fail
            rw [← HXX.out]
            clear q2
            refine (rmust_any (w.heap.size + 2) s ⟨#[101, 108, 101, 109, 101, 110, 116]⟩ st _ L5.out.rd hi4 hs8 (by decide)).mono ?_
            rintro e w6 ⟨rfl, hR, hK⟩
            have i6 := must_le s.data.toList [wElement] st (by rw [size_list]; exact hi4)
            rw [size_list] at i6
            obtain ⟨t6, e6⟩ : ∃ x, x = mustS s.data.toList [wElement] st := ⟨_, rfl⟩
            rw [show mustS s.data.toList [(⟨#[101, 108, 101, 109, 101, 110, 116]⟩ : ByteArray).data.toList] st = t6 from e6.symm] at hR
            rw [← e6] at i6
            have L6 := hid (L5.out.call hK hR)
            have E6 := hid e6
            clear hR hK e6 L5
            go_wp2_with fail
            refine (rmust_any (w.heap.size + 2) s ⟨#[32]⟩ t6 _ L6.out.rd i6 hs8 (by decide)).mono ?_
            rintro e w7 ⟨rfl, hR, hK⟩
            have i7 := must_le s.data.toList [[32]] t6 (by rw [size_list]; exact i6)
            rw [size_list] at i7
            obtain ⟨t7, e7⟩ : ∃ x, x = mustS s.data.toList [[32]] t6 := ⟨_, rfl⟩
            rw [show mustS s.data.toList [(⟨#[32]⟩ : ByteArray).data.toList] t6 = t7 from e7.symm] at hR
            rw [← e7] at i7
            have L7 := hid (L6.out.call hK hR)
            have E7 := hid e7
            clear hR hK e7 L6
            go_wp2_with fail
            refine (rwhole_any 8 m255b (by decide) bad255 (by decide) (w.heap.size + 2) s t7.1 t7.2 _ L7.out.rd i7 hs8).mono ?_
            rintro e w8 ⟨rfl, hR, hK⟩
            have i8 := whole_le s.data.toList 8 t7 (by rw [size_list]; exact i7)
            rw [size_list] at i8
            have hw8 := whole_lt s.data.toList 8 t7
            obtain ⟨t8, e8⟩ : ∃ x, x = wholeS s.data.toList 8 t7 := ⟨_, rfl⟩
            rw [show wholeS s.data.toList 8 (t7.1, t7.2) = t8 from e8.symm] at hR ⊢
            rw [← e8] at i8 hw8
            have hu : IntKind.u8.wrap (t8.1 : Int) = (t8.1 : Int) := by rw [IntKind.wrap_u8]; omega
            have L8 := hid (L7.out.call hK hR)
            have E8 := hid e8
            clear hR hK e8 L7
            have x0 := cell_of_block L8.out.hd 0
            have f0 := free_of_block L8.out.hd 0
            simp at x0
            haveI : Has w8 X := ⟨lt_of_block L8.out.hd⟩
            go_wp2_with fail
            have L8p := hid (L8.out.put hXn 0 (.int .u8 t8.1))
            generalize w8.setCell ⟨X, 0, none⟩ (.int .u8 t8.1) = v8 at L8p ⊢
            clear x0 f0 L8
            refine (rnumber_any (w.heap.size + 2) s t8.2 _ L8p.out.rd i8 hs8).mono ?_
            rintro e w9 ⟨rfl, hR, hK⟩
            have i9 := num_le s.data.toList _ (must_le s.data.toList [[32]] t8.2 (by rw [size_list]; exact i8))
            rw [size_list] at i9
            obtain ⟨t9, e9⟩ : ∃ x, x = numS s.data.toList (mustS s.data.toList [[32]] t8.2) := ⟨_, rfl⟩
            rw [← e9] at hR i9 ⊢
            have L9 := hid (L8p.out.call hK hR)
            have E9 := hid e9
            clear hR hK e9 L8p
            have x0 := cell_of_block L9.out.hd 1
            have f0 := free_of_block L9.out.hd 1
            simp at x0
            haveI : Has w9 X := ⟨lt_of_block L9.out.hd⟩
            go_wp2_with fail
            have L9p := hid (L9.out.put hXn 1 (.complex .f64 t9.1.1 t9.1.2))
            generalize w9.setCell ⟨X, 1, none⟩ (.complex .f64 t9.1.1 t9.1.2) = v9 at L9p ⊢
            clear x0 f0 L9
            refine (rnumber_any (w.heap.size + 2) s t9.2 _ L9p.out.rd i9 hs8).mono ?_
            rintro e w10 ⟨rfl, hR, hK⟩
            have i10 := num_le s.data.toList _ (must_le s.data.toList [[32]] t9.2 (by rw [size_list]; exact i9))
            rw [size_list] at i10
            obtain ⟨t10, e10⟩ : ∃ x, x = numS s.data.toList (mustS s.data.toList [[32]] t9.2) := ⟨_, rfl⟩
            rw [← e10] at hR i10 ⊢
            have L10 := hid (L9p.out.call hK hR)
            have E10 := hid e10
            clear hR hK e10 L9p
            have x0 := cell_of_block L10.out.hd 2
            have f0 := free_of_block L10.out.hd 2
            simp at x0
            haveI : Has w10 X := ⟨lt_of_block L10.out.hd⟩
            go_wp2_with fail
            have L10p := hid (L10.out.put hXn 2 (.complex .f64 t10.1.1 t10.1.2))
            generalize w10.setCell ⟨X, 2, none⟩ (.complex .f64 t10.1.1 t10.1.2) = v10 at L10p ⊢
            clear x0 f0 L10
            refine (rfloat_any (w.heap.size + 2) s t10.2 _ L10p.out.rd i10 hs8).mono ?_
            rintro e w11 ⟨rfl, hR, hK⟩
            have i11 := float_le s.data.toList _ (must_le s.data.toList [[32]] t10.2 (by rw [size_list]; exact i10))
            rw [size_list] at i11
            obtain ⟨t11, e11⟩ : ∃ x, x = floatS s.data.toList (mustS s.data.toList [[32]] t10.2) := ⟨_, rfl⟩
            rw [← e11] at hR i11 ⊢
            have L11 := hid (L10p.out.call hK hR)
            have E11 := hid e11
            clear hR hK e11 L10p
            have x0 := cell_of_block L11.out.hd 3
            have f0 := free_of_block L11.out.hd 3
            simp at x0
            haveI : Has w11 X := ⟨lt_of_block L11.out.hd⟩
            go_wp2_with fail
            have L11p := hid (L11.out.put hXn 3 (.float .f64 t11.1))
            generalize w11.setCell ⟨X, 3, none⟩ (.float .f64 t11.1) = v11 at L11p ⊢
            clear x0 f0 L11
            refine (rmust_any (w.heap.size + 2) s ⟨#[10]⟩ t11.2 _ L11p.out.rd i11 hs8 (by decide)).mono ?_
            rintro e w12 ⟨rfl, hR, hK⟩
            have i12 := must_le s.data.toList [[10]] t11.2 (by rw [size_list]; exact i11)
            rw [size_list] at i12
            obtain ⟨t12, e12⟩ : ∃ x, x = mustS s.data.toList [[10]] t11.2 := ⟨_, rfl⟩
            rw [show mustS s.data.toList [(⟨#[10]⟩ : ByteArray).data.toList] t11.2 = t12 from e12.symm] at hR
            rw [← e12] at i12
            have L12 := hid (L11p.out.call hK hR)
            have E12 := hid e12
            clear hR hK e12 L11p
            have bX : w12.heap[X]? = some (.cells #[.int .u8 t8.1, .complex .f64 t9.1.1 t9.1.2, .complex .f64 t10.1.1 t10.1.2, .float .f64 t11.1] 56 (0, 0)) := by have := L12.out.hd; simpa using this
            have x0 := cell_of_block bX 0
            have x1 := cell_of_block bX 1
            have x2 := cell_of_block bX 2
            have x3 := cell_of_block bX 3
            simp at x0 x1 x2 x3
            haveI : Has w12 X := ⟨lt_of_block bX⟩
            have hbs : w.heap.size ≤ w12.heap.size := by have := L12.out.lt; omega
            obtain ⟨ti, hti, htz, hts, htb⟩ := info_parts Tryz.info56
            have L12n := hid ((L12.out.sub (fun p hp => List.mem_cons_of_mem _ hp)).alloc (.cells #[.int .u8 t8.1, .complex .f64 t9.1.1 t9.1.2, .complex .f64 t10.1.1 t10.1.2, .float .f64 t11.1] 56))
            have HE5 : Hid (mustS s.data.toList [wElement, [32]] st = t7) := hid (by rw [must_cons]; rw [← E6.out, ← E7.out])
            have HE6 : Hid (elemS s.data.toList t7 = ((t8.1, t9.1, t10.1, t11.1), t11.2)) := hid (by unfold elemS; simp only [← E8.out, ← E9.out, ← E10.out, ← E11.out])
            have HE7 : Hid (t12 = mustS s.data.toList [[10]] t11.2) := E12
            have hnx := hid (lines_next h1 h2 HE5.out.symm HE6.out.symm HL.out)
            have hfar := hid (line_far (one := wElement) (elem_ok s.data.toList) st)
            have bF := (L12.out.sub (fun p hp => List.mem_cons_of_mem _ hp)).hd
            have l0 := cell_of_block bF 0
            simp at l0
            haveI : Has w12 (w.heap.size + 3) := ⟨lt_of_block bF⟩
            clear bF
            go_wp2_with (at_builtin; refine list_app (by rfl) _ _ _ (by rfl) w.heap.size 56 ti _ 4 48 Tryz.underlying23 hti htz hts htb rfl (by omega) sv l.length (l.flatMap elCells) (by rfl) L12n.out.own [.int .u8 t8.1, .complex .f64 t9.1.1 t9.1.2, .complex .f64 t10.1.1 t10.1.2, .float .f64 t11.1] ⟨_, _, rfl, World.news_of_block (cs := #[.int .u8 t8.1, .complex .f64 t9.1.1 t9.1.2, .complex .f64 t10.1.1 t10.1.2, .float .f64 t11.1]) (t := 56) (fr := (0, 0)) (by simp only [block_at])⟩ (by rfl) (by simp [Value.oneCell']) (by unfold maxLen; omega) (by omega) (by simp; omega) ?_; intro g cp wa hown hgrow hat hlt; have LA := hid (L12n.out.app hown hgrow hat); clear hown hgrow hat; have y0 := cell_of_block LA.out.hd 0; have y1 := free_of_block LA.out.hd 0; simp at y0; haveI : Has wa (w.heap.size + 3) := ⟨lt_of_block LA.out.hd⟩)
            have LB := hid (LA.out.put (by simp) 0 (.slice (some ⟨g, 0, none⟩) (l.length + 1) cp))
            clear L12 L12n x0 x1 x2 x3 bX
            go_roundw
            case rel =>
              refine ⟨c + 1, t12, l ++ [(t8.1, t9.1, t10.1, t11.1)], .slice (some ⟨g, 0, none⟩) (l.length + 1) cp, by rfl, by omega, hid (Dn.cast (by exact LB.out) (by simp) (by simp [elCells])), i12, fun hneg => ?_, ?_⟩
              · have hf := hfar.out
                rw [HE5.out, HE6.out, ← HE7.out] at hf
                have := hf hneg
                simp
                omega
              · rw [HE7.out]
                exact hnx
            case measure => simp [intOf]; omega
          · have HALL := hid (lines_done (Or.inr h2) HL.out)
            have hd2 : decide (0 ≤ st.2) = true := by simpa using h2
            rw [hd2] at q2
            go_wp2_with fail
            go_meet
            exact ⟨st, l, sv, L4, hi4, HALL⟩
        · have HALL := hid (lines_done (Or.inl h1) HL.out)
          go_wp2_with fail
          go_meet
          exact ⟨st, l, sv, L4, hi4, HALL⟩
    case rest =>
      obtain ⟨st, l, sv, LE, hiE, HALL⟩ := hcut
      go_wp2_with fail
      refine (rends_any (w.heap.size + 2) s st _ LE.out.rd hiE hs8).mono ?_
      rintro e w5 ⟨rfl, ⟨st5, hR⟩, hK⟩
      obtain ⟨sa, sc, rfl, -⟩ := own_form LE.out.own
      have L5 := hid (LE.out.call hK hR)
      have hq := read_ends (l := l) (st := st) (kind := wFlow) (word := wElements) (one := wElement) (line := elemS s.data.toList) (by rw [size_list]; exact hlong) (by rw [← E1.out, ← E2.out, ← E3.out, ← EN.out]; exact HALL.out)
      have hz := @ends_zero s.data.toList st
      have hok := @readF_ok s.data.toList
      have hall := read_all (s := s.data.toList) (kind := wFlow) (word := wElements) (one := wElement) (line := elemS s.data.toList) (P := fun x => fits x.2.1.1 ∧ fits x.2.1.2 ∧ fits x.2.2.1.1 ∧ fits x.2.2.1.2 ∧ fits x.2.2.2) (fun st => by have n1 := num_fits s.data.toList (mustS s.data.toList [[32]] (wholeS s.data.toList 8 st).2); have n2 := num_fits s.data.toList (mustS s.data.toList [[32]] (numS s.data.toList (mustS s.data.toList [[32]] (wholeS s.data.toList 8 st).2)).2); refine ⟨n1.1, n1.2, n2.1, n2.2, ?_⟩; simp only [elemS]; exact float_fits _ _)
      unfold readF at hok
      have hq2 := HQ.out
      generalize endsR s.data.toList st = ec at hq hz ⊢
      rw [hq] at hok hall hq2
      obtain ⟨ec1, ec2⟩ := ec
      simp only [] at hz hok hall hq2 ⊢
      clear hq LE hR hK
      have hY : ∀ p ∈ ([(w.heap.size + 3, #[.slice sa l.length sc], 25), (w.heap.size + 1, #[.int .i64 0, .int .i64 0], 41), (w.heap.size, #[.slice none 0 0], 25)] : List Fx), p.1 ≠ w5.heap.size := by
        intro p hp
        have := lt_of_block (L5.out.fix p hp)
        omega
      have zFw5 := cell_of_block (L5.out.fix (w.heap.size + 3, #[.slice sa l.length sc], 25) (by simp)) 0
      have zRw5 := cell_of_block (L5.out.fix (w.heap.size, #[.slice none 0 0], 25) (by simp)) 0
      have zrw5 := free_of_block (L5.out.fix (w.heap.size, #[.slice none 0 0], 25) (by simp)) 0
      simp at zFw5 zRw5
      haveI : Has w5 (w.heap.size + 3) := ⟨lt_of_block (L5.out.fix (w.heap.size + 3, #[.slice sa l.length sc], 25) (by simp))⟩
      haveI : Has w5 w.heap.size := ⟨lt_of_block (L5.out.fix (w.heap.size, #[.slice none 0 0], 25) (by simp))⟩
      have zAw5 := cell_of_block (L5.out.fix (w.heap.size + 1, #[.int .i64 0, .int .i64 0], 41) (by simp)) 0
      have zBw5 := cell_of_block (L5.out.fix (w.heap.size + 1, #[.int .i64 0, .int .i64 0], 41) (by simp)) 1
      have zaw5 := free_of_block (L5.out.fix (w.heap.size + 1, #[.int .i64 0, .int .i64 0], 41) (by simp)) 0
      have zbw5 := free_of_block (L5.out.fix (w.heap.size + 1, #[.int .i64 0, .int .i64 0], 41) (by simp)) 1
      simp at zAw5 zBw5
      haveI : Has w5 (w.heap.size + 1) := ⟨lt_of_block (L5.out.fix (w.heap.size + 1, #[.int .i64 0, .int .i64 0], 41) (by simp))⟩
      by_cases h0 : ec1 = 0
      · subst h0
        obtain rfl := hz rfl
        obtain ⟨-, hl2, -⟩ := hok rfl
        rw [size_list] at hl2
        rw [if_pos rfl] at hq2
        have L6 := hid (L5.out.allocF #[.int .i64 0, .int .i64 0] 41)
        have hck := fun w1 o => rflow_check l hall w.heap.size (.slice sa l.length sc) w1 o (by omega)
        clear hz hok
        by_cases hc : flowChk l = 0
        · rw [if_pos hc] at hq2
          simp only [hc] at hck
          have HV := hid hq2
          have HCK := hid hck
          have HC := hid hc
          have hYh := hid hY
          clear hq2 hck hc hall hY L5
          go_wp2_with fail
          refine (HCK.out _ L6.out.own).mono ?_
          rintro e w7 ⟨rfl, hb⟩
          have L7 := hid (L6.out.quiet hb)
          clear hb L6
          have hY7 : ∀ p ∈ ([(w.heap.size + 3, #[.slice sa l.length sc], 25), (w.heap.size + 1, #[.int .i64 0, .int .i64 0], 41), (w.heap.size, #[.slice none 0 0], 25)] : List Fx), p.1 ≠ w5.heap.size := hYh.out
          have zFw7 := cell_of_block (L7.out.fix (w.heap.size + 3, #[.slice sa l.length sc], 25) (by simp)) 0
          have zRw7 := cell_of_block (L7.out.fix (w.heap.size, #[.slice none 0 0], 25) (by simp)) 0
          have zrw7 := free_of_block (L7.out.fix (w.heap.size, #[.slice none 0 0], 25) (by simp)) 0
          simp at zFw7 zRw7
          haveI : Has w7 (w.heap.size + 3) := ⟨lt_of_block (L7.out.fix (w.heap.size + 3, #[.slice sa l.length sc], 25) (by simp))⟩
          haveI : Has w7 w.heap.size := ⟨lt_of_block (L7.out.fix (w.heap.size, #[.slice none 0 0], 25) (by simp))⟩
          have zAw7 := cell_of_block (L7.out.fix (w.heap.size + 1, #[.int .i64 0, .int .i64 0], 41) (by simp)) 0
          have zBw7 := cell_of_block (L7.out.fix (w.heap.size + 1, #[.int .i64 0, .int .i64 0], 41) (by simp)) 1
          have zaw7 := free_of_block (L7.out.fix (w.heap.size + 1, #[.int .i64 0, .int .i64 0], 41) (by simp)) 0
          have zbw7 := free_of_block (L7.out.fix (w.heap.size + 1, #[.int .i64 0, .int .i64 0], 41) (by simp)) 1
          simp at zAw7 zBw7
          haveI : Has w7 (w.heap.size + 1) := ⟨lt_of_block (L7.out.fix (w.heap.size + 1, #[.int .i64 0, .int .i64 0], 41) (by simp))⟩
          have bY := L7.out.hd
          have y0 := cell_of_block bY 0
          have y1 := cell_of_block bY 1
          have y2 := free_of_block bY 0
          simp at y0 y1
          haveI : Has w7 w5.heap.size := ⟨lt_of_block bY⟩
          clear bY
          go_wp2_with fail
          have L8 := hid (L7.out.put hY7 0 (.int .i64 0))
          generalize w7.setCell ⟨w5.heap.size, 0, none⟩ (.int .i64 0) = w8 at L8 ⊢
          have zFw8 := cell_of_block (L8.out.fix (w.heap.size + 3, #[.slice sa l.length sc], 25) (by simp)) 0
          have zRw8 := cell_of_block (L8.out.fix (w.heap.size, #[.slice none 0 0], 25) (by simp)) 0
          have zrw8 := free_of_block (L8.out.fix (w.heap.size, #[.slice none 0 0], 25) (by simp)) 0
          simp at zFw8 zRw8
          haveI : Has w8 (w.heap.size + 3) := ⟨lt_of_block (L8.out.fix (w.heap.size + 3, #[.slice sa l.length sc], 25) (by simp))⟩
          haveI : Has w8 w.heap.size := ⟨lt_of_block (L8.out.fix (w.heap.size, #[.slice none 0 0], 25) (by simp))⟩
          have zAw8 := cell_of_block (L8.out.fix (w.heap.size + 1, #[.int .i64 0, .int .i64 0], 41) (by simp)) 0
          have zBw8 := cell_of_block (L8.out.fix (w.heap.size + 1, #[.int .i64 0, .int .i64 0], 41) (by simp)) 1
          have zaw8 := free_of_block (L8.out.fix (w.heap.size + 1, #[.int .i64 0, .int .i64 0], 41) (by simp)) 0
          have zbw8 := free_of_block (L8.out.fix (w.heap.size + 1, #[.int .i64 0, .int .i64 0], 41) (by simp)) 1
          simp at zAw8 zBw8
          haveI : Has w8 (w.heap.size + 1) := ⟨lt_of_block (L8.out.fix (w.heap.size + 1, #[.int .i64 0, .int .i64 0], 41) (by simp))⟩
          have bY := L8.out.hd
          have y0 := cell_of_block bY 0
          have y1 := cell_of_block bY 1
          simp at y0 y1
          haveI : Has w8 w5.heap.size := ⟨lt_of_block bY⟩
          have n0a : w.heap.size + 3 ≠ w5.heap.size := hY7 _ List.mem_cons_self
          have n0b : w5.heap.size ≠ w.heap.size + 3 := fun e => n0a e.symm
          have n1a : w.heap.size + 1 ≠ w5.heap.size := hY7 _ (List.mem_cons_of_mem _ List.mem_cons_self)
          have n1b : w5.heap.size ≠ w.heap.size + 1 := fun e => n1a e.symm
          have n2a : w.heap.size ≠ w5.heap.size := hY7 _ (List.mem_cons_of_mem _ (List.mem_cons_of_mem _ List.mem_cons_self))
          have n2b : w5.heap.size ≠ w.heap.size := fun e => n2a e.symm
          clear bY
          go_region
          all_goals
            go_wp2_with fail
            refine bodyPost_ret (v := .tuple #[.agg #[.slice sa l.length sc], .agg #[.int .i64 0, .int .i64 0]]) (by simp [results, Tryz.results11, go_sem, zRw8, zAw8, zBw8]) rfl ⟨.slice sa l.length sc, by rw [HV.out], ?_⟩
            rw [HV.out]
            refine Fn.via L8.out.fn (fun F8 => ?_)
            (repeat' (first | exact F8 | (refine Fn.set ?_ (by simp) _ _) | (refine Fn.drewN ?_ _) | (refine Fn.drew ?_) | (refine Fn.alloc ?_ _)))
        · rw [if_neg hc] at hq2
          have e2 : (flowChk l != 0) = true := by simpa using hc
          have HV := hid hq2
          have HCK := hid hck
          have HC := hid hc
          have hYh := hid hY
          clear hq2 hck hc hall hY L5
          go_wp2_with fail
          refine (HCK.out _ L6.out.own).mono ?_
          rintro e w7 ⟨rfl, hb⟩
          have L7 := hid (L6.out.quiet hb)
          clear hb L6
          have hY7 : ∀ p ∈ ([(w.heap.size + 3, #[.slice sa l.length sc], 25), (w.heap.size + 1, #[.int .i64 0, .int .i64 0], 41), (w.heap.size, #[.slice none 0 0], 25)] : List Fx), p.1 ≠ w5.heap.size := hYh.out
          have zFw7 := cell_of_block (L7.out.fix (w.heap.size + 3, #[.slice sa l.length sc], 25) (by simp)) 0
          have zRw7 := cell_of_block (L7.out.fix (w.heap.size, #[.slice none 0 0], 25) (by simp)) 0
          have zrw7 := free_of_block (L7.out.fix (w.heap.size, #[.slice none 0 0], 25) (by simp)) 0
          simp at zFw7 zRw7
          haveI : Has w7 (w.heap.size + 3) := ⟨lt_of_block (L7.out.fix (w.heap.size + 3, #[.slice sa l.length sc], 25) (by simp))⟩
          haveI : Has w7 w.heap.size := ⟨lt_of_block (L7.out.fix (w.heap.size, #[.slice none 0 0], 25) (by simp))⟩
          have zAw7 := cell_of_block (L7.out.fix (w.heap.size + 1, #[.int .i64 0, .int .i64 0], 41) (by simp)) 0
          have zBw7 := cell_of_block (L7.out.fix (w.heap.size + 1, #[.int .i64 0, .int .i64 0], 41) (by simp)) 1
          have zaw7 := free_of_block (L7.out.fix (w.heap.size + 1, #[.int .i64 0, .int .i64 0], 41) (by simp)) 0
          have zbw7 := free_of_block (L7.out.fix (w.heap.size + 1, #[.int .i64 0, .int .i64 0], 41) (by simp)) 1
          simp at zAw7 zBw7
          haveI : Has w7 (w.heap.size + 1) := ⟨lt_of_block (L7.out.fix (w.heap.size + 1, #[.int .i64 0, .int .i64 0], 41) (by simp))⟩
          have bY := L7.out.hd
          have y0 := cell_of_block bY 0
          have y1 := cell_of_block bY 1
          have y2 := free_of_block bY 0
          simp at y0 y1
          haveI : Has w7 w5.heap.size := ⟨lt_of_block bY⟩
          clear bY
          go_wp2_with fail
          have L8 := hid (L7.out.put hY7 0 (.int .i64 (flowChk l)))
          generalize w7.setCell ⟨w5.heap.size, 0, none⟩ (.int .i64 (flowChk l)) = w8 at L8 ⊢
          have zFw8 := cell_of_block (L8.out.fix (w.heap.size + 3, #[.slice sa l.length sc], 25) (by simp)) 0
          have zRw8 := cell_of_block (L8.out.fix (w.heap.size, #[.slice none 0 0], 25) (by simp)) 0
          have zrw8 := free_of_block (L8.out.fix (w.heap.size, #[.slice none 0 0], 25) (by simp)) 0
          simp at zFw8 zRw8
          haveI : Has w8 (w.heap.size + 3) := ⟨lt_of_block (L8.out.fix (w.heap.size + 3, #[.slice sa l.length sc], 25) (by simp))⟩
          haveI : Has w8 w.heap.size := ⟨lt_of_block (L8.out.fix (w.heap.size, #[.slice none 0 0], 25) (by simp))⟩
          have zAw8 := cell_of_block (L8.out.fix (w.heap.size + 1, #[.int .i64 0, .int .i64 0], 41) (by simp)) 0
          have zBw8 := cell_of_block (L8.out.fix (w.heap.size + 1, #[.int .i64 0, .int .i64 0], 41) (by simp)) 1
          have zaw8 := free_of_block (L8.out.fix (w.heap.size + 1, #[.int .i64 0, .int .i64 0], 41) (by simp)) 0
          have zbw8 := free_of_block (L8.out.fix (w.heap.size + 1, #[.int .i64 0, .int .i64 0], 41) (by simp)) 1
          simp at zAw8 zBw8
          haveI : Has w8 (w.heap.size + 1) := ⟨lt_of_block (L8.out.fix (w.heap.size + 1, #[.int .i64 0, .int .i64 0], 41) (by simp))⟩
          have bY := L8.out.hd
          have y0 := cell_of_block bY 0
          have y1 := cell_of_block bY 1
          simp at y0 y1
          haveI : Has w8 w5.heap.size := ⟨lt_of_block bY⟩
          have n0a : w.heap.size + 3 ≠ w5.heap.size := hY7 _ List.mem_cons_self
          have n0b : w5.heap.size ≠ w.heap.size + 3 := fun e => n0a e.symm
          have n1a : w.heap.size + 1 ≠ w5.heap.size := hY7 _ (List.mem_cons_of_mem _ List.mem_cons_self)
          have n1b : w5.heap.size ≠ w.heap.size + 1 := fun e => n1a e.symm
          have n2a : w.heap.size ≠ w5.heap.size := hY7 _ (List.mem_cons_of_mem _ (List.mem_cons_of_mem _ List.mem_cons_self))
          have n2b : w5.heap.size ≠ w.heap.size := fun e => n2a e.symm
          clear bY
          go_region
          all_goals
            go_wp2_with fail
            refine bodyPost_ret (v := .tuple #[.agg #[.slice none 0 0], .agg #[.int .i64 (flowChk l), .int .i64 0]]) (by simp [results, Tryz.results11, go_sem, zRw8, zAw8, zBw8]) rfl ⟨.slice none 0 0, by rw [HV.out], ?_⟩
            rw [HV.out]
            refine Fn.via0 L8.out.fn (fun F8 => ?_)
            (repeat' (first | exact F8 | (refine Fn.set ?_ (by simp) _ _) | (refine Fn.drewN ?_ _) | (refine Fn.drew ?_) | (refine Fn.alloc ?_ _)))
      · rw [if_neg h0] at hq2
        have e1 : (ec1 == 0) = false := by simpa using h0
        have e2 : (ec1 != 0) = true := by simpa using h0
        have HV := hid hq2
        have H0 := hid h0
        have L7 := L5
        clear hq2 hz hok hall h0 hY L5
        go_wp2_with fail
        go_region
        all_goals
          go_wp2_with fail
          refine bodyPost_ret (v := .tuple #[.agg #[.slice none 0 0], .agg #[.int .i64 ec1, .int .i64 ec2]]) (by simp [results, Tryz.results11, go_sem, zRw5, zAw5, zBw5]) rfl ⟨.slice none 0 0, by rw [HV.out], ?_⟩
          rw [HV.out]
          refine Fn.via0 L7.out.fn (fun F8 => ?_)
          (repeat' (first | exact F8 | (refine Fn.set ?_ (by simp) _ _) | (refine Fn.drewN ?_ _) | (refine Fn.drew ?_) | (refine Fn.alloc ?_ _)))
end Go.Proofs.YtnagagcgmfkjjaaGreatDoor
