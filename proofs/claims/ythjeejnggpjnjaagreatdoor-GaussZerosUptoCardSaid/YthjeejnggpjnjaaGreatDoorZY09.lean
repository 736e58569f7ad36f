/- A part: AF, AG, AH. -/
import Derived.Test.YthjeejnggpjnjaaGreatDoorZY08
import Derived.Laws.Externs
set_option linter.unusedSimpArgs false
set_option linter.unusedVariables false
set_option maxRecDepth 100000
set_option maxHeartbeats 16000000
set_option synthInstance.maxHeartbeats 2000000
set_option synthInstance.maxSize 100000
namespace Go.Proofs.YthjeejnggpjnjaaGreatDoor
open Go.RowKit
theorem Bk.ne {w : World} {g k T S : Nat} {L M : List Value} (h : Bk w g L T) (h2 : Bk w k M S) (hTS : T ≠ S) : g ≠ k := by
 intro e; subst e; have := h.1.symm.trans h2.1; simp only [Option.some.injEq, Obj.cells.injEq] at this; exact hTS this.2.1
theorem Dn.row {w : World} {d : Value} {n : Nat} (h : Dn w d n) : ∃ L : List Nat, Wd w d L ∧ (L = [] ∧ n = 1 ∨ L = words n) := by
 rcases h with ⟨h1, h2⟩ | h
 · exact ⟨[], h1, .inl ⟨rfl, h2⟩⟩
 · exact ⟨_, h, .inr rfl⟩
theorem Dn.of {w : World} {d : Value} {n : Nat} {L : List Nat} (h : Wd w d L) (h2 : L = [] ∧ n = 1 ∨ L = words n) : Dn w d n := by
 rcases h2 with ⟨rfl, h2⟩ | rfl
 · exact .inl ⟨h, h2⟩
 · exact .inr h
theorem Dn.len {n : Nat} {L : List Nat} (h2 : L = [] ∧ n = 1 ∨ L = words n) : L.length ≤ (words n).length := by
 rcases h2 with ⟨rfl, h2⟩ | rfl
 · exact Nat.zero_le _
 · exact Nat.le_refl _
def rabs (r : _root_.Rat) : _root_.Rat := if r.num < 0 then -r else r
theorem rabs_num (r : _root_.Rat) : (rabs r).num = (r.num.natAbs : Int) := by
 unfold rabs
 split
 · rw [Rat.neg_num]; omega
 · omega
theorem rabs_den (r : _root_.Rat) : (rabs r).den = r.den := by
 unfold rabs; split <;> rfl
theorem int_num (x : Int) : ((x : _root_.Rat)).num = x := rfl
theorem int_den (x : Int) : ((x : _root_.Rat)).den = 1 := rfl
theorem Dn.setB {w : World} {d : Value} {n : Nat} {g T : Nat} {L : List Value} (h : Dn w d n) (b : Bk w g L T) (i : Nat) (x : Value) : Dn (w.setCell ⟨g, i, none⟩ x) d n := h.imp (fun h => ⟨h.1.setB b i x, h.2⟩) (fun h => h.setB b i x)
theorem bnewint (x : Int) (w : World) (h1 : -9223372036854775808 ≤ x) (h2 : x < 9223372036854775808) :
 Calls Tryz.prog 116 #[.int .i64 x] w fun e w' => e = .returned (.pointer (some ⟨w.heap.size, 0, none⟩)) ∧ In 86 w' w.heap.size x ∧ Below w.heap.size w w' := by
 have SI := hid (bisetint64 w.heap.size 86 (.bool false) (.slice none 0 0) [] x (w.alloc (.cells #[.bool false, .slice none 0 0] 86)) ⟨by rw [block_at], by decide⟩ h1 h2)
 have hb : Below w.heap.size w (w.alloc (.cells #[.bool false, .slice none 0 0] 86)) := (Below.refl _ _).alloc (Nat.le_refl _) _; clear h1 h2; go_enter Tryz.func116, Tryz.ntmps116; go_wp2_with (go_at_call 172; (with_reducible refine SI.out.mono ?_); rintro e w1 ⟨rfl, hI, hk⟩)
 go_ret
 exact ⟨rfl, hI, below_keeps hb hk (Nat.le_refl _) hb.size⟩
theorem brSet (gz gx : Nat) (z0 z1 z2 : Value) (r : _root_.Rat) (w : World) (hz : Bk w gz [z0, z1, z2] 88) (hx : Ra 88 w gx r) (ln : (words r.num.natAbs).length ≤ 1099511627776) (ld : (words r.den).length ≤ 1099511627776) :
 Calls Tryz.prog 186 #[.pointer (some ⟨gz, 0, none⟩), .pointer (some ⟨gx, 0, none⟩)] w fun e w' => e = .returned (.pointer (some ⟨gz, 0, none⟩)) ∧ Ra 88 w' gz r ∧ Keeps w.heap.size [gz] w w' := by
 have HX := hid hx.ia; obtain ⟨vx, dx, bx, wx, ex⟩ := hx; obtain ⟨L, hL, hL2⟩ := ex.row; have lL := Nat.le_trans (Dn.len hL2) ld; have CP := bcopied dx L w hL lL; have SE := hid (fun w' (h : Below w.heap.size w w') => biSet gz gx 88 z0 z1 [z2] r.num w' (hz.below h) (HX.out.below h) ln r.num rfl)
 obtain ⟨ad, cd, rfl, -, -⟩ := hL.form; have c2 := bx.cell (i := 2) rfl; haveI : Has w gx := ⟨bx.lt⟩; have HZ := hid hz; have HL2 := hid hL2; clear hz bx wx ex hL hL2 lL ln ld HX; go_enter Tryz.func186, Tryz.ntmps186; go_wp2_with (go_at_call 188; (with_reducible refine CP.mono ?_); rintro e w1 ⟨g1, rfl, h1, -, hb1⟩; have hz1 := HZ.out.below hb1)
 go_region_held3 (fun _ => True) (trivial) ((go_at_call 166; (with_reducible refine (SE.out _ (Below.drew hb1)).mono ?_); rintro e w2 ⟨rfl, ⟨v2, hB2, hV2⟩, hk2⟩))
 have f2 := hB2.free 2; have e2 := hB2.cell (i := 2) rfl; haveI : Has w2 gz := ⟨hB2.lt⟩; go_wp2_with fail
 go_ret
 have q1 : Wd w1 (.slice (some ⟨g1, 0, none⟩) L.length L.length) L := h1.wd (Nat.le_refl _); have q2 := (q1.below (Below.drew (Below.refl _ _))).keepB (hz1.below (Below.drew (Below.refl _ _))) hk2; have hB3 := hB2.set 2 (.slice (some ⟨g1, 0, none⟩) L.length L.length); exact ⟨rfl, ⟨_, _, hB3, hV2.setB hB2 _ _, Dn.of (q2.setB hB2 _ _) HL2.out⟩, ((Keeps.of_below hb1).drew.trans (hk2.mono hb1.size (fun _ _ h => h))).set (Or.inl (by simp)) _ _⟩
theorem brSetInt (gz gx : Nat) (z0 z1 z2 : Value) (x : Int) (w : World) (hz : Bk w gz [z0, z1, z2] 88) (hx : Ia w gx x) (lx : (words x.natAbs).length ≤ 1099511627776) :
 Calls Tryz.prog 129 #[.pointer (some ⟨gz, 0, none⟩), .pointer (some ⟨gx, 0, none⟩)] w fun e w' => e = .returned (.pointer (some ⟨gz, 0, none⟩)) ∧ Ra 88 w' gz (x : _root_.Rat) ∧ Keeps w.heap.size [gz] w w' := by
 have SE := biSet gz gx 88 z0 z1 [z2] x w hz hx lx x rfl; haveI : Has w gz := ⟨hz.lt⟩; clear hx hz lx; go_enter Tryz.func129, Tryz.ntmps129; go_wp2_with (go_at_call 166; (with_reducible refine SE.mono ?_); rintro e w1 ⟨rfl, ⟨v1, hB1, hV1⟩, hk1⟩; have f2 := hB1.free 2; have e2 := hB1.cell (i := 2) rfl; haveI : Has w1 gz := ⟨hB1.lt⟩)
 go_ret
 have hB2 := hB1.set 2 (.slice none 0 0); exact ⟨rfl, ⟨_, _, hB2, hV1.setB hB1 _ _, .inl ⟨Wd.nil _, rfl⟩⟩, hk1.set (Or.inl (by simp)) _ _⟩
theorem brsetint64 (gz : Nat) (z0 z1 z2 : Value) (x : Int) (w : World) (hz : Bk w gz [z0, z1, z2] 88) (h1 : -9223372036854775808 ≤ x) (h2 : x < 9223372036854775808) :
 Calls Tryz.prog 80 #[.pointer (some ⟨gz, 0, none⟩), .int .i64 x] w fun e w' => e = .returned (.pointer (some ⟨gz, 0, none⟩)) ∧ Ra 88 w' gz (x : _root_.Rat) ∧ Keeps w.heap.size [gz] w w' := by
 have NI := hid (bnewint x w h1 h2); have SI := hid (fun k w' (h : Below w.heap.size w w') (q : In 86 w' k x) => brSetInt gz k z0 z1 z2 x w' (hz.below h) q.ia (by have := words_len_le (n := x.natAbs) (k := 2) (by omega); omega))
 clear hz h1 h2; go_enter Tryz.func80, Tryz.ntmps80; go_wp2_with (first | (go_at_call 116; (with_reducible refine NI.out.mono ?_); rintro e w1 ⟨rfl, hI1, hb1⟩) | (go_at_call 129; (with_reducible refine (SI.out _ _ hb1 hI1).mono ?_); rintro e w2 ⟨rfl, hR2, hk2⟩))
 go_ret
 exact ⟨rfl, hR2, (Keeps.of_below hb1).trans (hk2.mono hb1.size (fun _ _ h => h))⟩
theorem bnum (gx : Nat) (r : _root_.Rat) (w : World) (hx : Ra 88 w gx r) (ln : (words r.num.natAbs).length ≤ 1099511627776) :
 Calls Tryz.prog 135 #[.pointer (some ⟨gx, 0, none⟩)] w fun e w' => e = .returned (.pointer (some ⟨w.heap.size, 0, none⟩)) ∧ In 86 w' w.heap.size r.num ∧ Below w.heap.size w w' := by
 have hb : Below w.heap.size w (w.alloc (.cells #[.bool false, .slice none 0 0] 86)) := (Below.refl _ _).alloc (Nat.le_refl _) _; have SE := hid (biSet w.heap.size gx 86 (.bool false) (.slice none 0 0) [] r.num (w.alloc (.cells #[.bool false, .slice none 0 0] 86)) ⟨by rw [block_at], by decide⟩ (hx.ia.below hb) ln r.num rfl)
 clear hx ln; go_enter Tryz.func135, Tryz.ntmps135; go_wp2_with (go_at_call 166; (with_reducible refine SE.out.mono ?_); rintro e w1 ⟨rfl, hI, hk⟩)
 go_ret
 exact ⟨rfl, hI.in, below_keeps hb hk (Nat.le_refl _) hb.size⟩
theorem bdenom (gx : Nat) (r : _root_.Rat) (w : World) (hx : Ra 88 w gx r) (ld : (words r.den).length ≤ 1099511627776) :
 Calls Tryz.prog 137 #[.pointer (some ⟨gx, 0, none⟩)] w fun e w' => e = .returned (.pointer (some ⟨w.heap.size, 0, none⟩)) ∧ In 86 w' w.heap.size (r.den : Int) ∧ Below w.heap.size w w' := by
 have hb : Below w.heap.size w (w.alloc (.cells #[.bool false, .slice none 0 0] 86)) := (Below.refl _ _).alloc (Nat.le_refl _) _; obtain ⟨vx, dx, bx, wx, ex⟩ := hx; have BL := hid (bbelow gx _ vx dx r.den (w.alloc (.cells #[.bool false, .slice none 0 0] 86)) (bx.below hb) (ex.below hb) r.den_nz); have HB : Hid (Bk (w.alloc (.cells #[.bool false, .slice none 0 0] 86)) w.heap.size [.bool false, .slice none 0 0] 86) := hid ⟨by rw [block_at], by decide⟩
 have CP := hid (fun v w' (q : Wd w' v (words r.den)) => bcopied v (words r.den) w' q ld)
 have SE := hid (fun v w' (h : Bk w' w.heap.size [.bool false, .slice none 0 0] 86) (q : Wd w' v (words r.den)) => bisetI w.heap.size (.bool false) (.slice none 0 0) false v r.den w' h q ld (r.den : Int) rfl)
 clear bx wx ex ld; go_enter Tryz.func137, Tryz.ntmps137; go_wp2_with (first | (go_at_call 126; (with_reducible refine BL.out.mono ?_); rintro e w1 ⟨v1, rfl, h1, hq1⟩) | (go_at_call 188; (with_reducible refine (CP.out _ _ h1).mono ?_); rintro e w2 ⟨g2, rfl, h2, -, hq2⟩; have c2 := Below.trans hq1 (below_low hq2 hq1.size)) | (go_at_call 171; (with_reducible refine (SE.out _ _ (HB.out.below c2) (h2.wd (Nat.le_refl _))).mono ?_); rintro e w3 ⟨rfl, hI3, hk3⟩))
 go_ret
 have hb2 := Below.trans hb (below_low c2 hb.size); exact ⟨rfl, hI3, below_keeps hb2 hk3 (Nat.le_refl _) hb2.size⟩
theorem brneg (gz gx : Nat) (z0 z1 z2 : Value) (r : _root_.Rat) (w : World) (hz : Bk w gz [z0, z1, z2] 88) (hx : Ra 88 w gx r) (ln : (words r.num.natAbs).length ≤ 1099511627776) (ld : (words r.den).length ≤ 1099511627776) :
 Calls Tryz.prog 134 #[.pointer (some ⟨gz, 0, none⟩), .pointer (some ⟨gx, 0, none⟩)] w fun e w' => e = .returned (.pointer (some ⟨gz, 0, none⟩)) ∧ Ra 88 w' gz (-r) ∧ Keeps w.heap.size [gz] w w' := by
 have SE := hid (brSet gz gx z0 z1 z2 r w hz hx ln ld); clear hz hx ln ld; by_cases h0 : r.num = 0
 · have HS : Hid (decide (-r.num < 0) = false) := hid (decide_eq_false (by omega))
   have H1 : Hid (decide (r.num < 0) = false) := hid (decide_eq_false (by omega))
   have HL : Hid ((words r.num.natAbs).length = 0) := hid (by rw [h0]; show (words 0).length = 0; rw [words_0]; rfl)
   clear h0; go_enter Tryz.func134, Tryz.ntmps134; go_wp2_with (go_at_call 186; (with_reducible refine SE.out.mono ?_); rintro e w1 ⟨rfl, ⟨v1, d1, hB1, hV1, hD1⟩, hk1⟩; obtain ⟨a1, k1, rfl, -, -⟩ := hV1.form; have q0 := hB1.cell (i := 0) rfl; have q1 := hB1.cell (i := 1) rfl; have f0 := hB1.free 0; haveI : Has w1 gz := ⟨hB1.lt⟩; rw [H1.out] at q0; rw [HL.out] at q1)
   go_ret
   have hB3 := hB1.set 0 (.bool false); exact ⟨rfl, ⟨_, _, by rw [Rat.neg_num, HS.out]; exact hB3, by rw [Rat.neg_num, Int.natAbs_neg]; exact hV1.setB hB1 _ _, hD1.setB hB1 _ _⟩, hk1.set (Or.inl (by simp)) _ _⟩
 · by_cases hn : r.num < 0
   · have HS : Hid (decide (-r.num < 0) = false) := hid (decide_eq_false (by omega))
     have H1 : Hid (decide (r.num < 0) = true) := hid (decide_eq_true hn); clear h0 hn; go_enter Tryz.func134, Tryz.ntmps134; go_wp2_with (go_at_call 186; (with_reducible refine SE.out.mono ?_); rintro e w1 ⟨rfl, ⟨v1, d1, hB1, hV1, hD1⟩, hk1⟩; obtain ⟨a1, k1, rfl, -, -⟩ := hV1.form; have q0 := hB1.cell (i := 0) rfl; have q1 := hB1.cell (i := 1) rfl; have f0 := hB1.free 0; haveI : Has w1 gz := ⟨hB1.lt⟩; rw [H1.out] at q0)
     go_ret
     have hB3 := hB1.set 0 (.bool false); exact ⟨rfl, ⟨_, _, by rw [Rat.neg_num, HS.out]; exact hB3, by rw [Rat.neg_num, Int.natAbs_neg]; exact hV1.setB hB1 _ _, hD1.setB hB1 _ _⟩, hk1.set (Or.inl (by simp)) _ _⟩
   · have HS : Hid (decide (-r.num < 0) = true) := hid (decide_eq_true (by omega))
     have H1 : Hid (decide (r.num < 0) = false) := hid (decide_eq_false hn)
     have hp : (0 : Int) < ((words r.num.natAbs).length : Int) := by
      have : (words r.num.natAbs).length ≠ 0 := fun e => h0 (by have := words_len0.1 e; omega)
      omega
     have hpd : decide (0 < (words r.num.natAbs).length) = true := decide_eq_true (by omega)
     clear h0 hn; go_enter Tryz.func134, Tryz.ntmps134; go_wp2_with (go_at_call 186; (with_reducible refine SE.out.mono ?_); rintro e w1 ⟨rfl, ⟨v1, d1, hB1, hV1, hD1⟩, hk1⟩; obtain ⟨a1, k1, rfl, -, -⟩ := hV1.form; have q0 := hB1.cell (i := 0) rfl; have q1 := hB1.cell (i := 1) rfl; have f0 := hB1.free 0; haveI : Has w1 gz := ⟨hB1.lt⟩; rw [H1.out] at q0)
     go_ret
     have hB3 := hB1.set 0 (.bool true); exact ⟨rfl, ⟨_, _, by rw [Rat.neg_num, HS.out]; exact hB3, by rw [Rat.neg_num, Int.natAbs_neg]; exact hV1.setB hB1 _ _, hD1.setB hB1 _ _⟩, hk1.set (Or.inl (by simp)) _ _⟩
theorem bradd (gz gx gy : Nat) (z0 z1 z2 : Value) (x y : _root_.Rat) (w : World) (hz : Bk w gz [z0, z1, z2] 88) (hx : Ra 88 w gx x) (hy : Ra 88 w gy y) (lx : (words x.num.natAbs).length ≤ 17179869184) (mx : (words x.den).length ≤ 17179869184) (ly : (words y.num.natAbs).length ≤ 17179869184) (my : (words y.den).length ≤ 17179869184) (hvr : Vr w) :
 Calls Tryz.prog 108 #[.pointer (some ⟨gz, 0, none⟩), .pointer (some ⟨gx, 0, none⟩), .pointer (some ⟨gy, 0, none⟩)] w fun e w' => e = .returned (.pointer (some ⟨gz, 0, none⟩)) ∧ Ra 88 w' gz (x + y) ∧ Keeps w.heap.size [gz] w w' := by
 have A := hid (badded gz gx gy z0 z1 z2 x y false w hz hx hy lx mx ly my hvr); have e : (x + if false = true then -y else y) = x + y := by rw [if_neg Bool.false_ne_true]
 rw [e] at A; clear e hz hx hy lx mx ly my; go_enter Tryz.func108, Tryz.ntmps108; go_wp2_with (go_at_call 159; (with_reducible refine A.out.mono ?_); rintro e w1 ⟨rfl, hR, hk⟩)
 go_ret
 exact ⟨rfl, hR, hk⟩
theorem brsub (gz gx gy : Nat) (z0 z1 z2 : Value) (x y : _root_.Rat) (w : World) (hz : Bk w gz [z0, z1, z2] 88) (hx : Ra 88 w gx x) (hy : Ra 88 w gy y) (lx : (words x.num.natAbs).length ≤ 17179869184) (mx : (words x.den).length ≤ 17179869184) (ly : (words y.num.natAbs).length ≤ 17179869184) (my : (words y.den).length ≤ 17179869184) (hvr : Vr w) :
 Calls Tryz.prog 107 #[.pointer (some ⟨gz, 0, none⟩), .pointer (some ⟨gx, 0, none⟩), .pointer (some ⟨gy, 0, none⟩)] w fun e w' => e = .returned (.pointer (some ⟨gz, 0, none⟩)) ∧ Ra 88 w' gz (x - y) ∧ Keeps w.heap.size [gz] w w' := by
 have A := hid (badded gz gx gy z0 z1 z2 x y true w hz hx hy lx mx ly my hvr); have e : (x + if true = true then -y else y) = x - y := by rw [if_pos rfl, Rat.sub_eq_add_neg]
 rw [e] at A; clear e hz hx hy lx mx ly my; go_enter Tryz.func107, Tryz.ntmps107; go_wp2_with (go_at_call 159; (with_reducible refine A.out.mono ?_); rintro e w1 ⟨rfl, hR, hk⟩)
 go_ret
 exact ⟨rfl, hR, hk⟩
theorem enewint (x : Int) (w : World) (h1 : -9223372036854775808 ≤ x) (h2 : x < 9223372036854775808) :
 Calls Tryz.prog 131 #[.int .i64 x] w fun e w' => e = .returned (.pointer (some ⟨w.heap.size, 0, none⟩)) ∧ In 123 w' w.heap.size x ∧ Below w.heap.size w w' := by
 have SI := hid (eisetint64 w.heap.size 123 (.bool false) (.slice none 0 0) [] x (w.alloc (.cells #[.bool false, .slice none 0 0] 123)) ⟨by rw [block_at], by decide⟩ h1 h2)
 have hb : Below w.heap.size w (w.alloc (.cells #[.bool false, .slice none 0 0] 123)) := (Below.refl _ _).alloc (Nat.le_refl _) _; clear h1 h2; go_enter Tryz.func131, Tryz.ntmps131; go_wp2_with (go_at_call 183; (with_reducible refine SI.out.mono ?_); rintro e w1 ⟨rfl, hI, hk⟩)
 go_ret
 exact ⟨rfl, hI, below_keeps hb hk (Nat.le_refl _) hb.size⟩
theorem erSet (gz gx : Nat) (z0 z1 z2 : Value) (r : _root_.Rat) (w : World) (hz : Bk w gz [z0, z1, z2] 125) (hx : Ra 125 w gx r) (ln : (words r.num.natAbs).length ≤ 1099511627776) (ld : (words r.den).length ≤ 1099511627776) :
 Calls Tryz.prog 145 #[.pointer (some ⟨gz, 0, none⟩), .pointer (some ⟨gx, 0, none⟩)] w fun e w' => e = .returned (.pointer (some ⟨gz, 0, none⟩)) ∧ Ra 125 w' gz r ∧ Keeps w.heap.size [gz] w w' := by
 have HX := hid hx.ia; obtain ⟨vx, dx, bx, wx, ex⟩ := hx; obtain ⟨L, hL, hL2⟩ := ex.row; have lL := Nat.le_trans (Dn.len hL2) ld; have CP := ecopied dx L w hL lL; have SE := hid (fun w' (h : Below w.heap.size w w') => eiSet gz gx 125 z0 z1 [z2] r.num w' (hz.below h) (HX.out.below h) ln r.num rfl)
 obtain ⟨ad, cd, rfl, -, -⟩ := hL.form; have c2 := bx.cell (i := 2) rfl; haveI : Has w gx := ⟨bx.lt⟩; have HZ := hid hz; have HL2 := hid hL2; clear hz bx wx ex hL hL2 lL ln ld HX; go_enter Tryz.func145, Tryz.ntmps145; go_wp2_with (go_at_call 199; (with_reducible refine CP.mono ?_); rintro e w1 ⟨g1, rfl, h1, -, hb1⟩; have hz1 := HZ.out.below hb1)
 go_region_held3 (fun _ => True) (trivial) ((go_at_call 182; (with_reducible refine (SE.out _ (Below.drew hb1)).mono ?_); rintro e w2 ⟨rfl, ⟨v2, hB2, hV2⟩, hk2⟩))
 have f2 := hB2.free 2; have e2 := hB2.cell (i := 2) rfl; haveI : Has w2 gz := ⟨hB2.lt⟩; go_wp2_with fail
 go_ret
 have q1 : Wd w1 (.slice (some ⟨g1, 0, none⟩) L.length L.length) L := h1.wd (Nat.le_refl _); have q2 := (q1.below (Below.drew (Below.refl _ _))).keepB (hz1.below (Below.drew (Below.refl _ _))) hk2; have hB3 := hB2.set 2 (.slice (some ⟨g1, 0, none⟩) L.length L.length); exact ⟨rfl, ⟨_, _, hB3, hV2.setB hB2 _ _, Dn.of (q2.setB hB2 _ _) HL2.out⟩, ((Keeps.of_below hb1).drew.trans (hk2.mono hb1.size (fun _ _ h => h))).set (Or.inl (by simp)) _ _⟩
theorem erSetInt (gz gx : Nat) (z0 z1 z2 : Value) (x : Int) (w : World) (hz : Bk w gz [z0, z1, z2] 125) (hx : Ia w gx x) (lx : (words x.natAbs).length ≤ 1099511627776) :
 Calls Tryz.prog 130 #[.pointer (some ⟨gz, 0, none⟩), .pointer (some ⟨gx, 0, none⟩)] w fun e w' => e = .returned (.pointer (some ⟨gz, 0, none⟩)) ∧ Ra 125 w' gz (x : _root_.Rat) ∧ Keeps w.heap.size [gz] w w' := by
 have SE := eiSet gz gx 125 z0 z1 [z2] x w hz hx lx x rfl; haveI : Has w gz := ⟨hz.lt⟩; clear hx hz lx; go_enter Tryz.func130, Tryz.ntmps130; go_wp2_with (go_at_call 182; (with_reducible refine SE.mono ?_); rintro e w1 ⟨rfl, ⟨v1, hB1, hV1⟩, hk1⟩; have f2 := hB1.free 2; have e2 := hB1.cell (i := 2) rfl; haveI : Has w1 gz := ⟨hB1.lt⟩)
 go_ret
 have hB2 := hB1.set 2 (.slice none 0 0); exact ⟨rfl, ⟨_, _, hB2, hV1.setB hB1 _ _, .inl ⟨Wd.nil _, rfl⟩⟩, hk1.set (Or.inl (by simp)) _ _⟩
theorem ersetint64 (gz : Nat) (z0 z1 z2 : Value) (x : Int) (w : World) (hz : Bk w gz [z0, z1, z2] 125) (h1 : -9223372036854775808 ≤ x) (h2 : x < 9223372036854775808) :
 Calls Tryz.prog 81 #[.pointer (some ⟨gz, 0, none⟩), .int .i64 x] w fun e w' => e = .returned (.pointer (some ⟨gz, 0, none⟩)) ∧ Ra 125 w' gz (x : _root_.Rat) ∧ Keeps w.heap.size [gz] w w' := by
 have NI := hid (enewint x w h1 h2); have SI := hid (fun k w' (h : Below w.heap.size w w') (q : In 123 w' k x) => erSetInt gz k z0 z1 z2 x w' (hz.below h) q.ia (by have := words_len_le (n := x.natAbs) (k := 2) (by omega); omega))
 clear hz h1 h2; go_enter Tryz.func81, Tryz.ntmps81; go_wp2_with (first | (go_at_call 131; (with_reducible refine NI.out.mono ?_); rintro e w1 ⟨rfl, hI1, hb1⟩) | (go_at_call 130; (with_reducible refine (SI.out _ _ hb1 hI1).mono ?_); rintro e w2 ⟨rfl, hR2, hk2⟩))
 go_ret
 exact ⟨rfl, hR2, (Keeps.of_below hb1).trans (hk2.mono hb1.size (fun _ _ h => h))⟩
theorem erneg (gz gx : Nat) (z0 z1 z2 : Value) (r : _root_.Rat) (w : World) (hz : Bk w gz [z0, z1, z2] 125) (hx : Ra 125 w gx r) (ln : (words r.num.natAbs).length ≤ 1099511627776) (ld : (words r.den).length ≤ 1099511627776) :
 Calls Tryz.prog 98 #[.pointer (some ⟨gz, 0, none⟩), .pointer (some ⟨gx, 0, none⟩)] w fun e w' => e = .returned (.pointer (some ⟨gz, 0, none⟩)) ∧ Ra 125 w' gz (-r) ∧ Keeps w.heap.size [gz] w w' := by
 have SE := hid (erSet gz gx z0 z1 z2 r w hz hx ln ld); clear hz hx ln ld; by_cases h0 : r.num = 0
 · have HS : Hid (decide (-r.num < 0) = false) := hid (decide_eq_false (by omega))
   have H1 : Hid (decide (r.num < 0) = false) := hid (decide_eq_false (by omega))
   have HL : Hid ((words r.num.natAbs).length = 0) := hid (by rw [h0]; show (words 0).length = 0; rw [words_0]; rfl)
   clear h0; go_enter Tryz.func98, Tryz.ntmps98; go_wp2_with (go_at_call 145; (with_reducible refine SE.out.mono ?_); rintro e w1 ⟨rfl, ⟨v1, d1, hB1, hV1, hD1⟩, hk1⟩; obtain ⟨a1, k1, rfl, -, -⟩ := hV1.form; have q0 := hB1.cell (i := 0) rfl; have q1 := hB1.cell (i := 1) rfl; have f0 := hB1.free 0; haveI : Has w1 gz := ⟨hB1.lt⟩; rw [H1.out] at q0; rw [HL.out] at q1)
   go_ret
   have hB3 := hB1.set 0 (.bool false); exact ⟨rfl, ⟨_, _, by rw [Rat.neg_num, HS.out]; exact hB3, by rw [Rat.neg_num, Int.natAbs_neg]; exact hV1.setB hB1 _ _, hD1.setB hB1 _ _⟩, hk1.set (Or.inl (by simp)) _ _⟩
 · by_cases hn : r.num < 0
   · have HS : Hid (decide (-r.num < 0) = false) := hid (decide_eq_false (by omega))
     have H1 : Hid (decide (r.num < 0) = true) := hid (decide_eq_true hn); clear h0 hn; go_enter Tryz.func98, Tryz.ntmps98; go_wp2_with (go_at_call 145; (with_reducible refine SE.out.mono ?_); rintro e w1 ⟨rfl, ⟨v1, d1, hB1, hV1, hD1⟩, hk1⟩; obtain ⟨a1, k1, rfl, -, -⟩ := hV1.form; have q0 := hB1.cell (i := 0) rfl; have q1 := hB1.cell (i := 1) rfl; have f0 := hB1.free 0; haveI : Has w1 gz := ⟨hB1.lt⟩; rw [H1.out] at q0)
     go_ret
     have hB3 := hB1.set 0 (.bool false); exact ⟨rfl, ⟨_, _, by rw [Rat.neg_num, HS.out]; exact hB3, by rw [Rat.neg_num, Int.natAbs_neg]; exact hV1.setB hB1 _ _, hD1.setB hB1 _ _⟩, hk1.set (Or.inl (by simp)) _ _⟩
   · have HS : Hid (decide (-r.num < 0) = true) := hid (decide_eq_true (by omega))
     have H1 : Hid (decide (r.num < 0) = false) := hid (decide_eq_false hn)
     have hp : (0 : Int) < ((words r.num.natAbs).length : Int) := by
      have : (words r.num.natAbs).length ≠ 0 := fun e => h0 (by have := words_len0.1 e; omega)
      omega
     have hpd : decide (0 < (words r.num.natAbs).length) = true := decide_eq_true (by omega)
     clear h0 hn; go_enter Tryz.func98, Tryz.ntmps98; go_wp2_with (go_at_call 145; (with_reducible refine SE.out.mono ?_); rintro e w1 ⟨rfl, ⟨v1, d1, hB1, hV1, hD1⟩, hk1⟩; obtain ⟨a1, k1, rfl, -, -⟩ := hV1.form; have q0 := hB1.cell (i := 0) rfl; have q1 := hB1.cell (i := 1) rfl; have f0 := hB1.free 0; haveI : Has w1 gz := ⟨hB1.lt⟩; rw [H1.out] at q0)
     go_ret
     have hB3 := hB1.set 0 (.bool true); exact ⟨rfl, ⟨_, _, by rw [Rat.neg_num, HS.out]; exact hB3, by rw [Rat.neg_num, Int.natAbs_neg]; exact hV1.setB hB1 _ _, hD1.setB hB1 _ _⟩, hk1.set (Or.inl (by simp)) _ _⟩
theorem eradd (gz gx gy : Nat) (z0 z1 z2 : Value) (x y : _root_.Rat) (w : World) (hz : Bk w gz [z0, z1, z2] 125) (hx : Ra 125 w gx x) (hy : Ra 125 w gy y) (lx : (words x.num.natAbs).length ≤ 17179869184) (mx : (words x.den).length ≤ 17179869184) (ly : (words y.num.natAbs).length ≤ 17179869184) (my : (words y.den).length ≤ 17179869184) :
 Calls Tryz.prog 143 #[.pointer (some ⟨gz, 0, none⟩), .pointer (some ⟨gx, 0, none⟩), .pointer (some ⟨gy, 0, none⟩)] w fun e w' => e = .returned (.pointer (some ⟨gz, 0, none⟩)) ∧ Ra 125 w' gz (x + y) ∧ Keeps w.heap.size [gz] w w' := by
 have A := hid (eadded gz gx gy z0 z1 z2 x y false w hz hx hy lx mx ly my); have e : (x + if false = true then -y else y) = x + y := by rw [if_neg Bool.false_ne_true]
 rw [e] at A; clear e hz hx hy lx mx ly my; go_enter Tryz.func143, Tryz.ntmps143; go_wp2_with (go_at_call 174; (with_reducible refine A.out.mono ?_); rintro e w1 ⟨rfl, hR, hk⟩)
 go_ret
 exact ⟨rfl, hR, hk⟩
theorem ersub (gz gx gy : Nat) (z0 z1 z2 : Value) (x y : _root_.Rat) (w : World) (hz : Bk w gz [z0, z1, z2] 125) (hx : Ra 125 w gx x) (hy : Ra 125 w gy y) (lx : (words x.num.natAbs).length ≤ 17179869184) (mx : (words x.den).length ≤ 17179869184) (ly : (words y.num.natAbs).length ≤ 17179869184) (my : (words y.den).length ≤ 17179869184) :
 Calls Tryz.prog 119 #[.pointer (some ⟨gz, 0, none⟩), .pointer (some ⟨gx, 0, none⟩), .pointer (some ⟨gy, 0, none⟩)] w fun e w' => e = .returned (.pointer (some ⟨gz, 0, none⟩)) ∧ Ra 125 w' gz (x - y) ∧ Keeps w.heap.size [gz] w w' := by
 have A := hid (eadded gz gx gy z0 z1 z2 x y true w hz hx hy lx mx ly my); have e : (x + if true = true then -y else y) = x - y := by rw [if_pos rfl, Rat.sub_eq_add_neg]
 rw [e] at A; clear e hz hx hy lx mx ly my; go_enter Tryz.func119, Tryz.ntmps119; go_wp2_with (go_at_call 174; (with_reducible refine A.out.mono ?_); rintro e w1 ⟨rfl, hR, hk⟩)
 go_ret
 exact ⟨rfl, hR, hk⟩
theorem erabs (gz gx : Nat) (z0 z1 z2 : Value) (r : _root_.Rat) (w : World) (hz : Bk w gz [z0, z1, z2] 125) (hx : Ra 125 w gx r) (ln : (words r.num.natAbs).length ≤ 1099511627776) (ld : (words r.den).length ≤ 1099511627776) :
 Calls Tryz.prog 175 #[.pointer (some ⟨gz, 0, none⟩), .pointer (some ⟨gx, 0, none⟩)] w fun e w' => e = .returned (.pointer (some ⟨gz, 0, none⟩)) ∧ Ra 125 w' gz (rabs r) ∧ Keeps w.heap.size [gz] w w' := by
 have SE := hid (erSet gz gx z0 z1 z2 r w hz hx ln ld); clear hz hx ln ld; go_enter Tryz.func175, Tryz.ntmps175; go_wp2_with (go_at_call 145; (with_reducible refine SE.out.mono ?_); rintro e w1 ⟨rfl, ⟨v1, d1, hB1, hV1, hD1⟩, hk1⟩; have q0 := hB1.cell (i := 0) rfl; have f0 := hB1.free 0; haveI : Has w1 gz := ⟨hB1.lt⟩)
 go_ret
 have hB3 := hB1.set 0 (.bool false); exact ⟨rfl, ⟨_, _, by rw [rabs_num, decide_eq_false (by omega)]; exact hB3, by rw [rabs_num, Int.natAbs_natCast]; exact hV1.setB hB1 _ _, by rw [rabs_den]; exact hD1.setB hB1 _ _⟩, hk1.set (Or.inl (by simp)) _ _⟩
theorem bsetfrac (gz gx gy : Nat) (z0 z1 z2 : Value) (x : Int) (d : Nat) (w : World) (hz : Bk w gz [z0, z1, z2] 88) (hx : Ia w gx x) (hy : Ia w gy (d : Int)) (lx : (words x.natAbs).length ≤ 137438953472) (ld : (words d).length ≤ 137438953472) (h0 : d ≠ 0) (hvr : Vr w) :
 Calls Tryz.prog 193 #[.pointer (some ⟨gz, 0, none⟩), .pointer (some ⟨gx, 0, none⟩), .pointer (some ⟨gy, 0, none⟩)] w fun e w' => e = .returned (.pointer (some ⟨gz, 0, none⟩)) ∧ Ra 88 w' gz (mkRat x d) ∧ Keeps w.heap.size [gz] w w' := by
 obtain ⟨vx, Rx, Tx, bx, wx⟩ := hx; obtain ⟨vy, Ry, Ty, by_, wy⟩ := hy; rw [decide_eq_false (show ¬ ((d : Int) < 0) by omega)] at by_
 rw [Int.natAbs_natCast] at wy; have C1 := hid (fun w' (h : Below w.heap.size w w') => bcopied vx (words x.natAbs) w' (wx.below h) (by omega))
 have C2 := hid (fun w' (h : Below w.heap.size w w') => bcopied vy (words d) w' (wy.below h) (by omega))
 have SE := hid (fun v1 v2 w' (h : Below w.heap.size w w') (q1 : Wd w' v1 (words x.natAbs)) (q2 : Wd w' v2 (words d)) => brset gz z0 z1 z2 (decide (x < 0)) v1 v2 x.natAbs d w' (hz.below h) q1 q2 h0 lx ld (hvr.below h))
 rw [← sg_of] at SE; obtain ⟨ax, cx, rfl, -, -⟩ := wx.form; obtain ⟨ay, cy, rfl, -, -⟩ := wy.form; have BX := hid bx; have BY := hid by_; have x0 := bx.cell (i := 0) rfl; have x1 := bx.cell (i := 1) rfl; have y0 := by_.cell (i := 0) rfl; have y1 := by_.cell (i := 1) rfl; haveI : Has w gx := ⟨bx.lt⟩; haveI : Has w gy := ⟨by_.lt⟩; clear hz bx by_ wx wy lx ld h0; generalize decide (x < 0) = nx at *; obtain ⟨r, hr⟩ : ∃ r, r = mkRat x d := ⟨_, rfl⟩; rw [← hr] at SE ⊢; clear hr; go_enter Tryz.func193, Tryz.ntmps193; go_wp2_with fail
 refine wp_region_late (S := (fun W => W.cell? ⟨gx, 0, none⟩ = some (.bool nx) ∧ W.cell? ⟨gx, 1, none⟩ = some (.slice ax (words x.natAbs).length cx) ∧ W.cell? ⟨gy, 0, none⟩ = some (.bool false) ∧ W.cell? ⟨gy, 1, none⟩ = some (.slice ay (words d).length cy))) 20 (by kernel_rfl) ?_ (fun hHeld => ?_)
 · (refine ⟨?_, ?_, ?_, ?_⟩ <;> (first | assumption | (simp [go_sem, *]; done)))
 refine wpAnyL_q 0 rfl ?_
 try simp only [Act.put, sA, sZ, sS]
 refine wpAnyL_q 1 rfl ?_
 try simp only [Act.put, sA, sZ, sS]
 refine wpAnyL_q 2 rfl ?_
 try simp only [Act.put, sA, sZ, sS]
 refine wpAnyL_q 3 rfl ?_
 try simp only [Act.put, sA, sZ, sS]
 refine wpAnyL_q 5 rfl ?_
 try simp only [Act.put, sA, sZ, sS]
 refine wpAnyL_q 6 rfl ?_
 try simp only [Act.put, sA, sZ, sS]
 refine wpAnyL_q 7 rfl ?_
 try simp only [Act.put, sA, sZ, sS]
 refine wpAnyL_q 10 rfl ?_
 try simp only [Act.put, sA, sZ, sS]
 refine wpAnyL_q 11 rfl ?_
 try simp only [Act.put, sA, sZ, sS]
 refine wpAnyL_q 12 rfl ?_
 try simp only [Act.put, sA, sZ, sS]
 refine wpAnyL_q 15 rfl ?_
 try simp only [Act.put, sA, sZ, sS]
 refine wpAnyL_q 16 rfl ?_
 try simp only [Act.put, sA, sZ, sS]
 refine wpAnyL_q 17 rfl ?_
 try simp only [Act.put, sA, sZ, sS]
 refine wpAnyL_r 4 rfl ?_
 try simp only [Act.put, sA, sZ, sS]
 refine wpAnyL_r 8 rfl ?_
 try simp only [Act.put, sA, sZ, sS]
 refine wpAnyL_q 9 rfl ?_
 try simp only [Act.put, sA, sZ, sS]
 refine wpAnyL_r 13 rfl ?_
 try simp only [Act.put, sA, sZ, sS]
 refine wpAnyL_r 18 rfl ?_
 try simp only [Act.put, sA, sZ, sS]
 refine wpAnyL_ready (rs := [14]) (by kernel_rfl) (by simp) ?_
 refine AllReadyL.early rfl (fun K hK => ?_) AllReadyL.nil
 go_simp
 (go_at_call 188; (with_reducible refine (C1.out _ ?_).mono ?_); (focus (first | exact Below.refl _ _ | exact Below.drew (Below.refl _ _))); rintro e w1 ⟨g1, rfl, h1, -, hq1⟩; have hb1 : Below w.heap.size w w1 := (by first | exact hq1 | exact Below.trans (Below.drew (Below.refl w.heap.size w)) hq1); have x01 := (BX.out.below hb1).cell (i := 0) rfl; have x11 := (BX.out.below hb1).cell (i := 1) rfl; have y01 := (BY.out.below hb1).cell (i := 0) rfl; have y11 := (BY.out.below hb1).cell (i := 1) rfl)
 refine hK.out _ _ ?_ (fun hHeld => ?_)
 · (refine ⟨?_, ?_, ?_, ?_⟩ <;> (first | assumption | (simp [go_sem, *]; done)))
 clear hK K
 try simp only [Act.put, sA, sZ, sS]
 refine wpAnyL_ready (rs := [19]) (by kernel_rfl) (by simp) ?_
 refine AllReadyL.early rfl (fun K hK => ?_) AllReadyL.nil
 go_simp
 (go_at_call 188; (with_reducible refine (C2.out _ hb1).mono ?_); rintro e w2 ⟨g2, rfl, h2, -, hq2⟩; have hb2 := Below.trans hb1 (below_low hq2 hb1.size); have h12 := h1.keep hq2; have x02 := (BX.out.below hb2).cell (i := 0) rfl; have x12 := (BX.out.below hb2).cell (i := 1) rfl; have y02 := (BY.out.below hb2).cell (i := 0) rfl; have y12 := (BY.out.below hb2).cell (i := 1) rfl)
 refine hK.out _ _ ?_ (fun hHeld => ?_)
 · (refine ⟨?_, ?_, ?_, ?_⟩ <;> (first | assumption | (simp [go_sem, *]; done)))
 clear hK K
 try simp only [Act.put, sA, sZ, sS]
 refine wpAnyL_ready (rs := [20]) (by kernel_rfl) (by simp) ?_
 refine AllReadyL.late rfl (by kernel_rfl) (fun K hK => ?_) AllReadyL.nil
 go_simp
 (go_at_call 158; (with_reducible refine (SE.out _ _ _ hb2 (h12.wd (Nat.le_refl _)) (h2.wd (Nat.le_refl _))).mono ?_); rintro e w3 ⟨rfl, hR3, hk3⟩)
 refine hK.out _ _ ?_
 clear hK K
 try simp only [Act.put, sA, sZ, sS]
 refine wpAnyL_ready (rs := [21]) (by kernel_rfl) (by simp) ?_
 refine AllReadyL.late rfl (by kernel_rfl) (fun K hK => ?_) AllReadyL.nil
 go_simp
 refine hK.out _ _ ?_
 clear hK K
 try simp only [Act.put, sA, sZ, sS]
 refine wpAnyL_done (by kernel_rfl) ?_ _
 go_wp2_with fail
 go_ret
 exact ⟨rfl, hR3, (Keeps.of_below hb2).trans (hk3.mono hb2.size (fun _ _ h => h))⟩
theorem biQuoRem (gz gx gy gr T U : Nat) (z0 z1 r0 r1 : Value) (R V : List Value) (x y : Int) (w : World) (hz : Bk w gz (z0 :: z1 :: R) T) (hr : Bk w gr (r0 :: r1 :: V) U) (hx : Ia w gx x) (hy : Ia w gy y) (lx : (words x.natAbs).length ≤ 137438953472) (ly : (words y.natAbs).length ≤ 137438953472) (h0 : y ≠ 0) (hzr : gz ≠ gr) :
 Calls Tryz.prog 211 #[.pointer (some ⟨gz, 0, none⟩), .pointer (some ⟨gx, 0, none⟩), .pointer (some ⟨gy, 0, none⟩), .pointer (some ⟨gr, 0, none⟩)] w fun e w' => e = .returned (.tuple #[.pointer (some ⟨gz, 0, none⟩), .pointer (some ⟨gr, 0, none⟩)]) ∧ Iz R T w' gz (x.tdiv y) ∧ Keeps w.heap.size [gz, gr] w w' := by
 obtain ⟨vx, Rx, Tx, bx, wx⟩ := hx; obtain ⟨vy, Ry, Ty, by_, wy⟩ := hy; have DV := hid (fun w' (h : Below w.heap.size w w') => bdiv vx vy x.natAbs y.natAbs w' (wx.below h) (wy.below h) lx ly (by omega))
 have SR := hid (fun v w' (h : Below w.heap.size w w') (q : Wd w' v (words (x.natAbs % y.natAbs))) => biset gr U r0 r1 V (decide (x < 0)) v (x.natAbs % y.natAbs) w' (hr.below h) q (by have := len_mono (Nat.mod_le x.natAbs y.natAbs); omega))
 have SZ := hid (fun v w' (h : Bk w' gz (z0 :: z1 :: R) T) (q : Wd w' v (words (x.natAbs / y.natAbs))) => biset gz T z0 z1 R (!(decide (x < 0) == decide (y < 0))) v (x.natAbs / y.natAbs) w' h q (by have := len_mono (Nat.div_le_self x.natAbs y.natAbs); omega))
 rw [← sg_neg, sg_tdiv] at SZ; have hq : x.natAbs / y.natAbs = (x.tdiv y).natAbs := by rw [← sg_tdiv, sg_abs]
 rw [hq] at DV SZ; unfold Iz; generalize x.tdiv y = s at *; obtain ⟨ax, cx, rfl, -, -⟩ := wx.form; obtain ⟨ay, cy, rfl, -, -⟩ := wy.form; have BX := hid bx; have BY := hid by_; have x0 := bx.cell (i := 0) rfl; have x1 := bx.cell (i := 1) rfl; have y0 := by_.cell (i := 0) rfl; have y1 := by_.cell (i := 1) rfl; haveI : Has w gx := ⟨bx.lt⟩; haveI : Has w gy := ⟨by_.lt⟩; have HZ := hid hz; have HR := hid hr; have NE := hid hzr; clear hz hr bx by_ wx wy lx ly h0 hq hzr; generalize decide (s < 0) = ns at *; generalize decide (x < 0) = nx at *; generalize decide (y < 0) = ny at *; go_enter Tryz.func211, Tryz.ntmps211; go_wp2_with fail
 go_region_held3 (fun W => W.cell? ⟨gx, 0, none⟩ = some (.bool nx) ∧ W.cell? ⟨gx, 1, none⟩ = some (.slice ax (words x.natAbs).length cx) ∧ W.cell? ⟨gy, 0, none⟩ = some (.bool ny) ∧ W.cell? ⟨gy, 1, none⟩ = some (.slice ay (words y.natAbs).length cy)) (refine ⟨?_, ?_, ?_, ?_⟩ <;> (first | assumption | (simp [go_sem, *]; done))) (fail)
 have hbd := Below.drew (Below.refl w.heap.size w); have x0d := (BX.out.below hbd).cell (i := 0) rfl; have x1d := (BX.out.below hbd).cell (i := 1) rfl; have y1d := (BY.out.below hbd).cell (i := 1) rfl; haveI : Has w.drew gx := ⟨lt_of_block (BX.out.below hbd).1⟩; haveI : Has w.drew gy := ⟨lt_of_block (BY.out.below hbd).1⟩; go_wp2_with fail
 go_region_held3 (fun W => W.cell? ⟨gx, 1, none⟩ = some (.slice ax (words x.natAbs).length cx) ∧ W.cell? ⟨gy, 1, none⟩ = some (.slice ay (words y.natAbs).length cy)) (refine ⟨?_, ?_⟩ <;> (first | assumption | (simp [go_sem, *]; done))) ((go_at_call 177; (with_reducible refine (DV.out _ ?_).mono ?_); (focus (first | exact Below.drew hbd | exact hbd)); rintro e w1 ⟨vq, vr, rfl, hq1, hr1, -, -, hw1⟩; have hb1 : Below w.heap.size w w1 := (by first | exact Below.trans (Below.drew hbd) hw1 | exact Below.trans hbd hw1); have x11 := (BX.out.below hb1).cell (i := 1) rfl; have y11 := (BY.out.below hb1).cell (i := 1) rfl))
 go_wp2_with (first | (go_at_call 171; (with_reducible refine (SR.out _ _ hb1 hr1).mono ?_); rintro e w2 ⟨v2, rfl, hR2, -, -, hk2⟩; have hz2 := (HZ.out.below hb1).keep hk2 (Nat.le_refl _) (by simpa using NE.out); have hq2 := hq1.keepB (HR.out.below hb1) hk2) | (go_at_call 171; (with_reducible refine (SZ.out _ _ hz2 hq2).mono ?_); rintro e w3 ⟨v3, rfl, hB3, hV3, -, hk3⟩))
 go_ret2
 refine ⟨rfl, ⟨v3, hB3, hV3⟩, ((Keeps.of_below hb1).trans (hk2.mono hb1.size (fun i _ h => by rw [List.mem_singleton] at h; subst h; simp))).trans (hk3.mono (Nat.le_trans hb1.size hk2.size) (fun i _ h => by rw [List.mem_singleton] at h; subst h; simp))⟩
theorem biQuo (gz gx gy T : Nat) (z0 z1 : Value) (R : List Value) (x y : Int) (w : World) (hz : Bk w gz (z0 :: z1 :: R) T) (hx : Ia w gx x) (hy : Ia w gy y) (lx : (words x.natAbs).length ≤ 137438953472) (ly : (words y.natAbs).length ≤ 137438953472) (h0 : y ≠ 0) :
 Calls Tryz.prog 162 #[.pointer (some ⟨gz, 0, none⟩), .pointer (some ⟨gx, 0, none⟩), .pointer (some ⟨gy, 0, none⟩)] w fun e w' => e = .returned (.pointer (some ⟨gz, 0, none⟩)) ∧ Iz R T w' gz (x.tdiv y) ∧ Keeps w.heap.size [gz] w w' := by
 have hb : Below w.heap.size w (w.alloc (.cells #[.bool false, .slice none 0 0] 86)) := (Below.refl _ _).alloc (Nat.le_refl _) _; have QR := hid (biQuoRem gz gx gy w.heap.size T 86 z0 z1 (.bool false) (.slice none 0 0) R [] x y (w.alloc (.cells #[.bool false, .slice none 0 0] 86)) (hz.below hb) ⟨by rw [block_at], by decide⟩ (hx.below hb) (hy.below hb) lx ly h0 (by have := hz.lt; omega))
 clear hz hx hy lx ly h0; go_enter Tryz.func162, Tryz.ntmps162; go_wp2_with (go_at_call 211; (with_reducible refine QR.out.mono ?_); rintro e w1 ⟨rfl, hI, hk⟩)
 go_ret
 exact ⟨rfl, hI, (Keeps.of_below hb).trans (hk.mono hb.size (fun i hi h => by simp only [List.mem_cons, List.not_mem_nil, or_false] at h ⊢; omega))⟩
def fexp (b : Nat) : Nat := b / 4503599627370496 % 2048
def fman (b : Nat) : Nat := b % 4503599627370496
def fnum (b : Nat) : Nat := if fexp b = 0 then fman b else fman b + 4503599627370496
def fpow (b : Nat) : Nat := if fexp b = 0 then 1 else fexp b
def fneg (b : Nat) : Bool := decide (b / 9223372036854775808 = 1)
def frat (b : Nat) : _root_.Rat := mkRat (sg (fneg b) (fnum b * 2 ^ (fpow b - 1075))) (2 ^ (1075 - fpow b))
@[go_sem] theorem run_bits (b : Nat) (w : World) : (callFunc 62 #[Value.float .f64 b]).run Tryz.prog w = .ok (.value (.int .u64 b)) w := by
  have h := @run_callFunc_extern Tryz.prog 62 _ Extern.MathFloatBits.float64bits Tryz.func62 (by kernel_rfl) (by kernel_rfl) (by kernel_rfl) (by kernel_rfl)
  rw [h]; rfl
@[go_sem] theorem run_frombits (n : Int) (w : World) : (callFunc 25 #[Value.int .u64 n]).run Tryz.prog w = .ok (.value (.float .f64 n.toNat)) w := by
  have h := @run_callFunc_extern Tryz.prog 25 _ Extern.MathFloatBits.float64frombits Tryz.func25 (by kernel_rfl) (by kernel_rfl) (by kernel_rfl) (by kernel_rfl)
  rw [h]; rfl
theorem and2047 (p : Nat) (hp : p < 18446744073709551616) : bits BinOp.and IntKind.u64 (p : Int) 2047 = ((p % 2048 : Nat) : Int) := by
 have h := u64_and_nat p 2047 hp (by decide)
 rw [show (2047 : Nat) = 2 ^ 11 - 1 by decide, Nat.and_two_pow_sub_one_eq_mod] at h
 exact h
theorem and52 (p : Nat) (hp : p < 18446744073709551616) : bits BinOp.and IntKind.u64 (p : Int) 4503599627370495 = ((p % 4503599627370496 : Nat) : Int) := by
 have h := u64_and_nat p 4503599627370495 hp (by decide)
 rw [show (4503599627370495 : Nat) = 2 ^ 52 - 1 by decide, Nat.and_two_pow_sub_one_eq_mod] at h
 exact h
theorem or52 (p : Nat) (hp : p < 4503599627370496) : bits BinOp.or IntKind.u64 (p : Int) 4503599627370496 = ((p + 4503599627370496 : Nat) : Int) := by
 have h := u64_or_nat p 4503599627370496 (by omega) (by decide)
 have e := Nat.two_pow_add_eq_or_of_lt (i := 52) (show p < 2 ^ 52 from hp) 1
 rw [Nat.or_comm] at h; rw [Nat.mul_one, show (2 : Nat) ^ 52 = 4503599627370496 from rfl] at e
 rw [← e, Nat.add_comm] at h; exact h
theorem two_len (k : Nat) : (words (2 ^ k)).length ≤ k + 1 := by
 refine words_len_le ?_
 have e : (4294967296 : Nat) = 2 ^ 32 := rfl; rw [e, ← Nat.pow_mul]; exact Nat.pow_lt_pow_right (by decide) (by omega)
theorem bsetfloat (gz : Nat) (z0 z1 z2 : Value) (b : Nat) (w : World) (hz : Bk w gz [z0, z1, z2] 88) (hb : b < 18446744073709551616) (hf : fexp b ≠ 2047) (hvr : Vr w) :
 Calls Tryz.prog 105 #[.pointer (some ⟨gz, 0, none⟩), .float .f64 b] w fun e w' => e = .returned (.pointer (some ⟨gz, 0, none⟩)) ∧ Ra 88 w' gz (frat b) ∧ Keeps w.heap.size [gz] w w' := by
 obtain ⟨E, hE⟩ : ∃ E, E = fexp b := ⟨_, rfl⟩; obtain ⟨M, hM⟩ : ∃ M, M = fman b := ⟨_, rfl⟩; obtain ⟨F, hF⟩ : ∃ F, F = fnum b := ⟨_, rfl⟩; obtain ⟨S, hS⟩ : ∃ S, S = fneg b := ⟨_, rfl⟩; have hE1 : E < 2048 := by rw [hE]; unfold fexp; omega
 have hM1 : M < 4503599627370496 := by rw [hM]; unfold fman; omega
 have hF1 : F < 9007199254740992 := by rw [hF]; unfold fnum; rw [← hE, ← hM]; split <;> omega
 have a1 : bits BinOp.and IntKind.u64 ((b : Int) / 4503599627370496) 2047 = (E : Int) := by
  have := and2047 (b / 4503599627370496) (by omega)
  rw [Int.natCast_ediv] at this; rw [hE]; exact this
 have a2 : bits BinOp.and IntKind.u64 (b : Int) 4503599627370495 = (M : Int) := by rw [hM]; exact and52 b hb
 have a3 := or52 M hM1
 have a4 : ((b : Int) / 9223372036854775808 == 1) = S := by
  rw [hS, fneg, Bool.eq_iff_iff, beq_iff_eq, decide_eq_true_iff]; omega
 have hfr : frat b = mkRat (sg S (F * 2 ^ ((if E = 0 then 1 else E) - 1075))) (2 ^ (1075 - (if E = 0 then 1 else E))) := by
  rw [frat, ← hS, ← hF, fpow, ← hE]
 obtain ⟨r, hr⟩ : ∃ r, r = frat b := ⟨_, rfl⟩; rw [← hr] at hfr ⊢; have FU := bfromUint F (by omega) w
 have lF : (words F).length ≤ 2 := words_len_le (by omega)
 have One : ∀ w1 : World, Wd (w1.alloc (.cells #[.int .u32 1] 190)) (.slice (some ⟨w1.heap.size, 0, none⟩) 1 1) (words 1) := fun w1 => by
  have q : Ro (w1.alloc (.cells #[.int .u32 1] 190)) w1.heap.size [1] := by unfold Ro; simp only [block_at]; rfl
  rw [words_one]; exact q.wd (cap := 1) (Nat.le_refl _)
 have hf' : E ≠ 2047 := by rw [hE]; exact hf
 have e2047 : ((E : Int) == 2047) = false := beq_eq_false_iff_ne.2 (by omega)
 have hFE : F = if E = 0 then M else M + 4503599627370496 := by rw [hF, fnum, ← hE, ← hM]
 clear hE hM hF hS hr hf hf'; by_cases hbig : 1075 ≤ E
 · rw [if_neg (by omega), show 1075 - E = 0 by omega, Nat.pow_zero] at hfr
   rw [if_neg (by omega)] at hFE
   obtain ⟨k, hk⟩ : ∃ k, k = E - 1075 := ⟨_, rfl⟩; rw [← hk] at hfr; have lU := mul_len F (2 ^ k); have lk := two_len k; have UP := hid (fun v w' (q : Wd w' v (words F)) => bup v F k w' q (by omega) (by omega))
   have SE := hid (fun v1 v2 w' (h : Below w.heap.size w w') (q1 : Wd w' v1 (words (F * 2 ^ k))) (q2 : Wd w' v2 (words 1)) => brset gz z0 z1 z2 S v1 v2 (F * 2 ^ k) 1 w' (hz.below h) q1 q2 (by decide) (by omega) (by rw [words_one]; simp) (hvr.below h))
   rw [← hfr] at SE; have a5 : bits BinOp.or IntKind.u64 (M : Int) 4503599627370496 = (F : Int) := by rw [a3, hFE]
   clear a3 hFE; have hp : (0 : Int) < (E : Int) := by omega
   have hq : (1075 : Int) ≤ (E : Int) := by omega
   have hs : (E : Int) - 1075 = k := by omega
   have HK : Hid ((1074 : Int) = (1074 : Int)) := hid rfl; clear hfr lU lk hk lF hbig hz; go_enter Tryz.func105, Tryz.ntmps105; go_wp2_with (first | (go_at_call 156; (with_reducible refine FU.mono ?_); rintro e w1 ⟨v1, rfl, h1, -, hb1⟩; have q1 := One w1; have ba1 : Below w1.heap.size w1 (w1.alloc (.cells #[.int .u32 1] 190)) := (Below.refl _ _).alloc (Nat.le_refl _) _; have bb1 := Below.trans hb1 (below_low ba1 hb1.size); have h1a := h1.below ba1) | (go_at_call 157; (try rw [HK.out]); (with_reducible refine (UP.out _ _ h1a).mono ?_); rintro e w2 ⟨v2, rfl, h2, -, hq2⟩; have hb2 := Below.trans bb1 (below_low hq2 bb1.size); have h12 := q1.below hq2) | (go_at_call 158; (with_reducible refine (SE.out _ _ _ hb2 h2 h12).mono ?_); rintro e w3 ⟨rfl, hR3, hk3⟩))
   go_ret
   exact ⟨rfl, hR3, (Keeps.of_below hb2).trans (hk3.mono hb2.size (fun _ _ h => h))⟩
 · by_cases h0 : E = 0
   · subst h0; rw [if_pos rfl] at hfr hFE; obtain rfl := hFE; obtain ⟨k, hk⟩ : ∃ k : Nat, k = 1074 := ⟨_, rfl⟩; have HK : Hid ((1074 : Int) = (k : Int)) := hid (by omega)
     rw [show (1 : Nat) - 1075 = 0 from rfl, Nat.pow_zero, Nat.mul_one, show 1075 - 1 = 1074 from rfl, ← hk, ← Nat.one_mul (2 ^ k)] at hfr
     have SE := hid (fun v1 v2 w' (h : Below w.heap.size w w') (q1 : Wd w' v1 (words F)) (q2 : Wd w' v2 (words (1 * 2 ^ k))) => brset gz z0 z1 z2 S v1 v2 F (1 * 2 ^ k) w' (hz.below h) q1 q2 (by rw [Nat.one_mul]; exact Nat.pos_iff_ne_zero.1 (Nat.pow_pos (by decide))) (by omega) (by rw [Nat.one_mul]; have := two_len k; omega) (hvr.below h))
     rw [← hfr] at SE; have UP := hid (fun v w' (q : Wd w' v (words 1)) => bup v 1 k w' q (by rw [words_one]; simp) (by omega))
     clear hfr lF hbig hz hk; go_enter Tryz.func105, Tryz.ntmps105; go_wp2_with (first | (go_at_call 156; (with_reducible refine FU.mono ?_); rintro e w1 ⟨v1, rfl, h1, -, hb1⟩; have q1 := One w1; have ba1 : Below w1.heap.size w1 (w1.alloc (.cells #[.int .u32 1] 190)) := (Below.refl _ _).alloc (Nat.le_refl _) _; have bb1 := Below.trans hb1 (below_low ba1 hb1.size); have h1a := h1.below ba1) | (go_at_call 157; (try rw [HK.out]); (with_reducible refine (UP.out _ _ q1).mono ?_); rintro e w2 ⟨v2, rfl, h2, -, hq2⟩; have hb2 := Below.trans bb1 (below_low hq2 bb1.size); have h12 := h1a.below hq2) | (go_at_call 158; (with_reducible refine (SE.out _ _ _ hb2 h12 h2).mono ?_); rintro e w3 ⟨rfl, hR3, hk3⟩))
     go_ret
     exact ⟨rfl, hR3, (Keeps.of_below hb2).trans (hk3.mono hb2.size (fun _ _ h => h))⟩
   · rw [if_neg h0] at hfr hFE; obtain ⟨k, hk⟩ : ∃ k, k = 1075 - E := ⟨_, rfl⟩; rw [← hk, show E - 1075 = 0 by omega, Nat.pow_zero, Nat.mul_one, ← Nat.one_mul (2 ^ k)] at hfr
     have SE := hid (fun v1 v2 w' (h : Below w.heap.size w w') (q1 : Wd w' v1 (words F)) (q2 : Wd w' v2 (words (1 * 2 ^ k))) => brset gz z0 z1 z2 S v1 v2 F (1 * 2 ^ k) w' (hz.below h) q1 q2 (by rw [Nat.one_mul]; exact Nat.pos_iff_ne_zero.1 (Nat.pow_pos (by decide))) (by omega) (by rw [Nat.one_mul]; have := two_len k; omega) (hvr.below h))
     rw [← hfr] at SE; have UP := hid (fun v w' (q : Wd w' v (words 1)) => bup v 1 k w' q (by rw [words_one]; simp) (by omega))
     have a5 : bits BinOp.or IntKind.u64 (M : Int) 4503599627370496 = (F : Int) := by rw [a3, hFE]
     clear a3 hFE; have hp : (0 : Int) < (E : Int) := by omega
     have hs : (1075 : Int) - (E : Int) = k := by omega
     have HK : Hid ((1074 : Int) = (1074 : Int)) := hid rfl; clear hfr lF hz hk h0; go_enter Tryz.func105, Tryz.ntmps105; go_wp2_with (first | (go_at_call 156; (with_reducible refine FU.mono ?_); rintro e w1 ⟨v1, rfl, h1, -, hb1⟩; have q1 := One w1; have ba1 : Below w1.heap.size w1 (w1.alloc (.cells #[.int .u32 1] 190)) := (Below.refl _ _).alloc (Nat.le_refl _) _; have bb1 := Below.trans hb1 (below_low ba1 hb1.size); have h1a := h1.below ba1) | (go_at_call 157; (try rw [HK.out]); (with_reducible refine (UP.out _ _ q1).mono ?_); rintro e w2 ⟨v2, rfl, h2, -, hq2⟩; have hb2 := Below.trans bb1 (below_low hq2 bb1.size); have h12 := h1a.below hq2) | (go_at_call 158; (with_reducible refine (SE.out _ _ _ hb2 h12 h2).mono ?_); rintro e w3 ⟨rfl, hR3, hk3⟩))
     go_ret
     exact ⟨rfl, hR3, (Keeps.of_below hb2).trans (hk3.mono hb2.size (fun _ _ h => h))⟩
theorem esetfloat (gz : Nat) (z0 z1 z2 : Value) (b : Nat) (w : World) (hz : Bk w gz [z0, z1, z2] 125) (hb : b < 18446744073709551616) (hf : fexp b ≠ 2047) :
 Calls Tryz.prog 160 #[.pointer (some ⟨gz, 0, none⟩), .float .f64 b] w fun e w' => e = .returned (.pointer (some ⟨gz, 0, none⟩)) ∧ Ra 125 w' gz (frat b) ∧ Keeps w.heap.size [gz] w w' := by
 obtain ⟨E, hE⟩ : ∃ E, E = fexp b := ⟨_, rfl⟩; obtain ⟨M, hM⟩ : ∃ M, M = fman b := ⟨_, rfl⟩; obtain ⟨F, hF⟩ : ∃ F, F = fnum b := ⟨_, rfl⟩; obtain ⟨S, hS⟩ : ∃ S, S = fneg b := ⟨_, rfl⟩; have hE1 : E < 2048 := by rw [hE]; unfold fexp; omega
 have hM1 : M < 4503599627370496 := by rw [hM]; unfold fman; omega
 have hF1 : F < 9007199254740992 := by rw [hF]; unfold fnum; rw [← hE, ← hM]; split <;> omega
 have a1 : bits BinOp.and IntKind.u64 ((b : Int) / 4503599627370496) 2047 = (E : Int) := by
  have := and2047 (b / 4503599627370496) (by omega)
  rw [Int.natCast_ediv] at this; rw [hE]; exact this
 have a2 : bits BinOp.and IntKind.u64 (b : Int) 4503599627370495 = (M : Int) := by rw [hM]; exact and52 b hb
 have a3 := or52 M hM1
 have a4 : ((b : Int) / 9223372036854775808 == 1) = S := by
  rw [hS, fneg, Bool.eq_iff_iff, beq_iff_eq, decide_eq_true_iff]; omega
 have hfr : frat b = mkRat (sg S (F * 2 ^ ((if E = 0 then 1 else E) - 1075))) (2 ^ (1075 - (if E = 0 then 1 else E))) := by
  rw [frat, ← hS, ← hF, fpow, ← hE]
 obtain ⟨r, hr⟩ : ∃ r, r = frat b := ⟨_, rfl⟩; rw [← hr] at hfr ⊢; have FU := efromUint F (by omega) w
 have lF : (words F).length ≤ 2 := words_len_le (by omega)
 have One : ∀ w1 : World, Wd (w1.alloc (.cells #[.int .u32 1] 190)) (.slice (some ⟨w1.heap.size, 0, none⟩) 1 1) (words 1) := fun w1 => by
  have q : Ro (w1.alloc (.cells #[.int .u32 1] 190)) w1.heap.size [1] := by unfold Ro; simp only [block_at]; rfl
  rw [words_one]; exact q.wd (cap := 1) (Nat.le_refl _)
 have hf' : E ≠ 2047 := by rw [hE]; exact hf
 have e2047 : ((E : Int) == 2047) = false := beq_eq_false_iff_ne.2 (by omega)
 have hFE : F = if E = 0 then M else M + 4503599627370496 := by rw [hF, fnum, ← hE, ← hM]
 clear hE hM hF hS hr hf hf'; by_cases hbig : 1075 ≤ E
 · rw [if_neg (by omega), show 1075 - E = 0 by omega, Nat.pow_zero] at hfr
   rw [if_neg (by omega)] at hFE
   obtain ⟨k, hk⟩ : ∃ k, k = E - 1075 := ⟨_, rfl⟩; rw [← hk] at hfr; have lU := mul_len F (2 ^ k); have lk := two_len k; have UP := hid (fun v w' (q : Wd w' v (words F)) => eup v F k w' q (by omega) (by omega))
   have SE := hid (fun v1 v2 w' (h : Below w.heap.size w w') (q1 : Wd w' v1 (words (F * 2 ^ k))) (q2 : Wd w' v2 (words 1)) => erset gz z0 z1 z2 S v1 v2 (F * 2 ^ k) 1 w' (hz.below h) q1 q2 (by decide) (by omega) (by rw [words_one]; simp))
   rw [← hfr] at SE; have a5 : bits BinOp.or IntKind.u64 (M : Int) 4503599627370496 = (F : Int) := by rw [a3, hFE]
   clear a3 hFE; have hp : (0 : Int) < (E : Int) := by omega
   have hq : (1075 : Int) ≤ (E : Int) := by omega
   have hs : (E : Int) - 1075 = k := by omega
   have HK : Hid ((1074 : Int) = (1074 : Int)) := hid rfl; clear hfr lU lk hk lF hbig hz; go_enter Tryz.func160, Tryz.ntmps160; go_wp2_with (first | (go_at_call 209; (with_reducible refine FU.mono ?_); rintro e w1 ⟨v1, rfl, h1, -, hb1⟩; have q1 := One w1; have ba1 : Below w1.heap.size w1 (w1.alloc (.cells #[.int .u32 1] 190)) := (Below.refl _ _).alloc (Nat.le_refl _) _; have bb1 := Below.trans hb1 (below_low ba1 hb1.size); have h1a := h1.below ba1) | (go_at_call 210; (try rw [HK.out]); (with_reducible refine (UP.out _ _ h1a).mono ?_); rintro e w2 ⟨v2, rfl, h2, -, hq2⟩; have hb2 := Below.trans bb1 (below_low hq2 bb1.size); have h12 := q1.below hq2) | (go_at_call 146; (with_reducible refine (SE.out _ _ _ hb2 h2 h12).mono ?_); rintro e w3 ⟨rfl, hR3, hk3⟩))
   go_ret
   exact ⟨rfl, hR3, (Keeps.of_below hb2).trans (hk3.mono hb2.size (fun _ _ h => h))⟩
 · by_cases h0 : E = 0
   · subst h0; rw [if_pos rfl] at hfr hFE; obtain rfl := hFE; obtain ⟨k, hk⟩ : ∃ k : Nat, k = 1074 := ⟨_, rfl⟩; have HK : Hid ((1074 : Int) = (k : Int)) := hid (by omega)
     rw [show (1 : Nat) - 1075 = 0 from rfl, Nat.pow_zero, Nat.mul_one, show 1075 - 1 = 1074 from rfl, ← hk, ← Nat.one_mul (2 ^ k)] at hfr
     have SE := hid (fun v1 v2 w' (h : Below w.heap.size w w') (q1 : Wd w' v1 (words F)) (q2 : Wd w' v2 (words (1 * 2 ^ k))) => erset gz z0 z1 z2 S v1 v2 F (1 * 2 ^ k) w' (hz.below h) q1 q2 (by rw [Nat.one_mul]; exact Nat.pos_iff_ne_zero.1 (Nat.pow_pos (by decide))) (by omega) (by rw [Nat.one_mul]; have := two_len k; omega))
     rw [← hfr] at SE; have UP := hid (fun v w' (q : Wd w' v (words 1)) => eup v 1 k w' q (by rw [words_one]; simp) (by omega))
     clear hfr lF hbig hz hk; go_enter Tryz.func160, Tryz.ntmps160; go_wp2_with (first | (go_at_call 209; (with_reducible refine FU.mono ?_); rintro e w1 ⟨v1, rfl, h1, -, hb1⟩; have q1 := One w1; have ba1 : Below w1.heap.size w1 (w1.alloc (.cells #[.int .u32 1] 190)) := (Below.refl _ _).alloc (Nat.le_refl _) _; have bb1 := Below.trans hb1 (below_low ba1 hb1.size); have h1a := h1.below ba1) | (go_at_call 210; (try rw [HK.out]); (with_reducible refine (UP.out _ _ q1).mono ?_); rintro e w2 ⟨v2, rfl, h2, -, hq2⟩; have hb2 := Below.trans bb1 (below_low hq2 bb1.size); have h12 := h1a.below hq2) | (go_at_call 146; (with_reducible refine (SE.out _ _ _ hb2 h12 h2).mono ?_); rintro e w3 ⟨rfl, hR3, hk3⟩))
     go_ret
     exact ⟨rfl, hR3, (Keeps.of_below hb2).trans (hk3.mono hb2.size (fun _ _ h => h))⟩
   · rw [if_neg h0] at hfr hFE; obtain ⟨k, hk⟩ : ∃ k, k = 1075 - E := ⟨_, rfl⟩; rw [← hk, show E - 1075 = 0 by omega, Nat.pow_zero, Nat.mul_one, ← Nat.one_mul (2 ^ k)] at hfr
     have SE := hid (fun v1 v2 w' (h : Below w.heap.size w w') (q1 : Wd w' v1 (words F)) (q2 : Wd w' v2 (words (1 * 2 ^ k))) => erset gz z0 z1 z2 S v1 v2 F (1 * 2 ^ k) w' (hz.below h) q1 q2 (by rw [Nat.one_mul]; exact Nat.pos_iff_ne_zero.1 (Nat.pow_pos (by decide))) (by omega) (by rw [Nat.one_mul]; have := two_len k; omega))
     rw [← hfr] at SE; have UP := hid (fun v w' (q : Wd w' v (words 1)) => eup v 1 k w' q (by rw [words_one]; simp) (by omega))
     have a5 : bits BinOp.or IntKind.u64 (M : Int) 4503599627370496 = (F : Int) := by rw [a3, hFE]
     clear a3 hFE; have hp : (0 : Int) < (E : Int) := by omega
     have hs : (1075 : Int) - (E : Int) = k := by omega
     have HK : Hid ((1074 : Int) = (1074 : Int)) := hid rfl; clear hfr lF hz hk h0; go_enter Tryz.func160, Tryz.ntmps160; go_wp2_with (first | (go_at_call 209; (with_reducible refine FU.mono ?_); rintro e w1 ⟨v1, rfl, h1, -, hb1⟩; have q1 := One w1; have ba1 : Below w1.heap.size w1 (w1.alloc (.cells #[.int .u32 1] 190)) := (Below.refl _ _).alloc (Nat.le_refl _) _; have bb1 := Below.trans hb1 (below_low ba1 hb1.size); have h1a := h1.below ba1) | (go_at_call 210; (try rw [HK.out]); (with_reducible refine (UP.out _ _ q1).mono ?_); rintro e w2 ⟨v2, rfl, h2, -, hq2⟩; have hb2 := Below.trans bb1 (below_low hq2 bb1.size); have h12 := h1a.below hq2) | (go_at_call 146; (with_reducible refine (SE.out _ _ _ hb2 h12 h2).mono ?_); rintro e w3 ⟨rfl, hR3, hk3⟩))
     go_ret
     exact ⟨rfl, hR3, (Keeps.of_below hb2).trans (hk3.mono hb2.size (fun _ _ h => h))⟩
end Go.Proofs.YthjeejnggpjnjaaGreatDoor
