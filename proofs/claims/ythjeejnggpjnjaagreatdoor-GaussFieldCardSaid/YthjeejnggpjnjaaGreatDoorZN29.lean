/- A part: DW, DX, DY. -/
import Derived.Test.YthjeejnggpjnjaaGreatDoorZN25
set_option linter.unusedSimpArgs false
set_option linter.unusedVariables false
set_option maxRecDepth 100000
set_option maxHeartbeats 16000000
set_option synthInstance.maxHeartbeats 2000000
set_option synthInstance.maxSize 100000
namespace Go.Proofs.YthjeejnggpjnjaaGreatDoor
open Go.RowKit
def Tx (x y : _root_.Rat) (s0 s1 s2 s3 : ByteArray) : Prop := toldE x y = 0 ∧ s0 = strN x.num ∧ s1 = strN (x.den : Int) ∧ s2 = strN y.num ∧ s3 = strN (y.den : Int)
def TD (x y : _root_.Rat) (r0 r1 r2 r3 : ByteArray) (E : Int) : Prop := r0 = tS x y (strN x.num) ∧ r1 = tS x y (strN (x.den : Int)) ∧ r2 = tS x y (strN y.num) ∧ r3 = tS x y (strN (y.den : Int)) ∧ E = toldE x y
def ND (x : _root_.Rat) (r0 r1 : ByteArray) (E : Int) : Prop := r0 = rS x (strN x.num) ∧ r1 = rS x (strN (x.den : Int)) ∧ E = tellE x
theorem Tx.td {x y : _root_.Rat} {s0 s1 s2 s3 : ByteArray} (h : Tx x y s0 s1 s2 s3) : TD x y s0 s1 s2 s3 0 := by
 obtain ⟨h0, rfl, rfl, rfl, rfl⟩ := h; unfold TD tS; rw [h0]; exact ⟨rfl, rfl, rfl, rfl, rfl⟩
theorem TD.tx {x y : _root_.Rat} {s0 s1 s2 s3 : ByteArray} {E : Int} (h : TD x y s0 s1 s2 s3 E) (h0 : E = 0) : Tx x y s0 s1 s2 s3 := by
 obtain ⟨e0, e1, e2, e3, e4⟩ := h; have h1 : toldE x y = 0 := e4.symm.trans h0; unfold tS at e0 e1 e2 e3; rw [h1] at e0 e1 e2 e3; exact ⟨h1, e0, e1, e2, e3⟩
theorem TD.empty {x y : _root_.Rat} {s0 s1 s2 s3 : ByteArray} {E : Int} (h : TD x y s0 s1 s2 s3 E) (h0 : E ≠ 0) : s0 = ⟨#[]⟩ ∧ s1 = ⟨#[]⟩ ∧ s2 = ⟨#[]⟩ ∧ s3 = ⟨#[]⟩ := by
 obtain ⟨e0, e1, e2, e3, e4⟩ := h; have h1 : toldE x y ≠ 0 := fun k => h0 (e4.trans k)
 unfold tS at e0 e1 e2 e3; rw [if_neg h1] at e0 e1 e2 e3; exact ⟨e0, e1, e2, e3⟩
theorem Tx.check {x y : _root_.Rat} {s0 s1 s2 s3 : ByteArray} (h : Tx x y s0 s1 s2 s3) : checkE s0 s1 s2 s3 = 0 ∧ rval s0 s1 = x ∧ rval s2 s3 = y := by
 obtain ⟨h0, rfl, rfl, rfl, rfl⟩ := h; exact ⟨check_told h0, rval_strN x, rval_strN y⟩
theorem Tx.sz {x y : _root_.Rat} {s0 s1 s2 s3 : ByteArray} (h : Tx x y s0 s1 s2 s3) : SzC s0 ∧ SzC s1 ∧ SzC s2 ∧ SzC s3 := by
 obtain ⟨h0, rfl, rfl, rfl, rfl⟩ := h; exact told_fit h0
theorem check_tx {a b c d : ByteArray} (h : checkE a b c d = 0) : Tx (rval a b) (rval c d) a b c d := by
 obtain ⟨e1, e2, e3, e4⟩ := check_same h; exact ⟨check_toldE h, e1, e2, e3, e4⟩
theorem ex_td (x y : _root_.Rat) : ∃ r0 r1 r2 r3 E, TD x y r0 r1 r2 r3 E := ⟨_, _, _, _, _, rfl, rfl, rfl, rfl, rfl⟩
theorem ex_nd (x : _root_.Rat) : ∃ r0 r1 E, ND x r0 r1 E := ⟨_, _, _, rfl, rfl, rfl⟩
theorem longN_0 : longN 0 = false := by kernel_rfl
theorem longN_1 : longN 1 = false := by kernel_rfl
theorem toldE_x0 (x : _root_.Rat) : toldE x 0 = tellE x := by
 unfold toldE tellE; rw [show (0 : _root_.Rat).num = 0 from rfl, show (((0 : _root_.Rat).den : Nat) : Int) = 1 from rfl, longN_0, longN_1, Bool.or_false, Bool.or_false]
theorem strN_0 : strN 0 = ⟨#[48]⟩ := by kernel_rfl
theorem strN_1 : strN 1 = ⟨#[49]⟩ := by kernel_rfl
theorem TD.real {x : _root_.Rat} {s0 s1 s2 s3 : ByteArray} {E : Int} (h : TD x 0 s0 s1 s2 s3 E) {n0 n1 : ByteArray} {F : Int} (k : ND x n0 n1 F) (h0 : F = 0) : E = 0 ∧ s0 = n0 ∧ s1 = n1 ∧ s2 = ⟨#[48]⟩ ∧ s3 = ⟨#[49]⟩ := by
 obtain ⟨e0, e1, e2, e3, e4⟩ := h; obtain ⟨k0, k1, k2⟩ := k; have t : tellE x = 0 := k2.symm.trans h0; have u : toldE x 0 = 0 := (toldE_x0 x).trans t; unfold tS at e0 e1 e2 e3; unfold rS at k0 k1; rw [u] at e0 e1 e2 e3 e4; rw [t] at k0 k1; refine ⟨e4, e0.trans k0.symm, e1.trans k1.symm, e2.trans strN_0, e3.trans strN_1⟩
theorem ND.tx {x : _root_.Rat} {n0 n1 : ByteArray} {F : Int} (k : ND x n0 n1 F) (h0 : F = 0) : Tx x 0 n0 n1 ⟨#[48]⟩ ⟨#[49]⟩ := by
 obtain ⟨k0, k1, k2⟩ := k; have t : tellE x = 0 := k2.symm.trans h0; unfold rS at k0 k1; rw [t] at k0 k1; exact ⟨(toldE_x0 x).trans t, k0, k1, strN_0.symm, strN_1.symm⟩
theorem itext_neg_after (n : Int) : (afterS (strN (-n))).size = (afterS (strN n)).size := by
 rw [bytes_len _ _ (after_strN n), bytes_len _ _ (after_strN (-n)), Int.natAbs_neg]
theorem toldE_neg (x y : _root_.Rat) : toldE x (-y) = toldE x y := by
 unfold toldE longN; rw [Rat.neg_num, Rat.neg_den, itext_neg_after]
theorem rat_sq (x : _root_.Rat) : 0 ≤ x * x := by
 rcases Rat.le_total (a := 0) (b := x) with h | h
 · exact Rat.mul_nonneg h h
 · have h2 : 0 ≤ -x := by grind
   have := Rat.mul_nonneg h2 h2
   grind
theorem divD_zero {x y : _root_.Rat} (h : (divD x y).num = 0) : x = 0 ∧ y = 0 := by
 have h0 : divD x y = 0 := Rat.num_eq_zero.1 h; unfold divD at h0; have hx := rat_sq x; have hy := rat_sq y; have ex : x * x = 0 := Rat.le_antisymm (by grind) hx
 have ey : y * y = 0 := Rat.le_antisymm (by grind) hy
 constructor
 · rcases Rat.mul_eq_zero.1 ex with h | h <;> exact h
 · rcases Rat.mul_eq_zero.1 ey with h | h <;> exact h
theorem div_back {x1 y1 x2 y2 : _root_.Rat} (h : (divD x2 y2).num ≠ 0) : divX (x1 * x2 - y1 * y2) (x1 * y2 + y1 * x2) x2 y2 = x1 ∧ divY (x1 * x2 - y1 * y2) (x1 * y2 + y1 * x2) x2 y2 = y1 := by
 have hD : divD x2 y2 ≠ 0 := fun e => h (Rat.num_eq_zero.2 e)
 unfold divX divY; have e1 : (x1 * x2 - y1 * y2) * x2 + (x1 * y2 + y1 * x2) * y2 = x1 * divD x2 y2 := by unfold divD; grind
 have e2 : (x1 * y2 + y1 * x2) * x2 - (x1 * x2 - y1 * y2) * y2 = y1 * divD x2 y2 := by unfold divD; grind
 rw [e1, e2]; exact ⟨Rat.mul_div_cancel hD, Rat.mul_div_cancel hD⟩
theorem addC {x y x' y' X Y : _root_.Rat} {s0 s1 s2 s3 t0 t1 t2 t3 r0 r1 r2 r3 : ByteArray} {E : Int} (h : Tx x y s0 s1 s2 s3) (h' : Tx x' y' t0 t1 t2 t3) (d : TD X Y r0 r1 r2 r3 E) (e : x + x' = X) (f : y + y' = Y) : Hid (∀ W, VrC W → Calls Tryz.prog 34 #[.agg #[.string s0, .string s1, .string s2, .string s3], .agg #[.string t0, .string t1, .string t2, .string t3]] W (fun e w' => e = .returned (.tuple #[.agg #[.string r0, .string r1, .string r2, .string r3], .int .i64 E]) ∧ Kp0 W w')) := hid (fun W v => by
 obtain ⟨c1, v1, v2⟩ := h.check; obtain ⟨z0, z1, z2, z3⟩ := h.sz; obtain ⟨c2, v3, v4⟩ := h'.check; obtain ⟨z4, z5, z6, z7⟩ := h'.sz; obtain ⟨rfl, rfl, rfl, rfl, rfl⟩ := d; have := gaAddXOk (w := W) (hv := ⟨v.out⟩) c1 c2; rw [v1, v2, v3, v4, e, f] at this; exact this)
theorem subC {x y x' y' X Y : _root_.Rat} {s0 s1 s2 s3 t0 t1 t2 t3 r0 r1 r2 r3 : ByteArray} {E : Int} (h : Tx x y s0 s1 s2 s3) (h' : Tx x' y' t0 t1 t2 t3) (d : TD X Y r0 r1 r2 r3 E) (e : x - x' = X) (f : y - y' = Y) : Hid (∀ W, VrC W → Calls Tryz.prog 36 #[.agg #[.string s0, .string s1, .string s2, .string s3], .agg #[.string t0, .string t1, .string t2, .string t3]] W (fun e w' => e = .returned (.tuple #[.agg #[.string r0, .string r1, .string r2, .string r3], .int .i64 E]) ∧ Kp0 W w')) := hid (fun W v => by
 obtain ⟨c1, v1, v2⟩ := h.check; obtain ⟨z0, z1, z2, z3⟩ := h.sz; obtain ⟨c2, v3, v4⟩ := h'.check; obtain ⟨z4, z5, z6, z7⟩ := h'.sz; obtain ⟨rfl, rfl, rfl, rfl, rfl⟩ := d; have := gaSubXOk (w := W) (hv := ⟨v.out⟩) c1 c2; rw [v1, v2, v3, v4, e, f] at this; exact this)
theorem mulC {x y x' y' X Y : _root_.Rat} {s0 s1 s2 s3 t0 t1 t2 t3 r0 r1 r2 r3 : ByteArray} {E : Int} (h : Tx x y s0 s1 s2 s3) (h' : Tx x' y' t0 t1 t2 t3) (d : TD X Y r0 r1 r2 r3 E) (e : x * x' - y * y' = X) (f : x * y' + y * x' = Y) : Hid (∀ W, VrC W → Calls Tryz.prog 35 #[.agg #[.string s0, .string s1, .string s2, .string s3], .agg #[.string t0, .string t1, .string t2, .string t3]] W (fun e w' => e = .returned (.tuple #[.agg #[.string r0, .string r1, .string r2, .string r3], .int .i64 E]) ∧ Kp0 W w')) := hid (fun W v => by
 obtain ⟨c1, v1, v2⟩ := h.check; obtain ⟨z0, z1, z2, z3⟩ := h.sz; obtain ⟨c2, v3, v4⟩ := h'.check; obtain ⟨z4, z5, z6, z7⟩ := h'.sz; obtain ⟨rfl, rfl, rfl, rfl, rfl⟩ := d; have := gaMulXOk (w := W) (hv := ⟨v.out⟩) c1 c2; rw [v1, v2, v3, v4, e, f] at this; exact this)
theorem divC {x y x' y' X Y : _root_.Rat} {s0 s1 s2 s3 t0 t1 t2 t3 r0 r1 r2 r3 : ByteArray} {E : Int} (h : Tx x y s0 s1 s2 s3) (h' : Tx x' y' t0 t1 t2 t3) (d : TD X Y r0 r1 r2 r3 E) (h0 : (divD x' y').num ≠ 0) (e : divX x y x' y' = X) (f : divY x y x' y' = Y) : Hid (∀ W, VrC W → Calls Tryz.prog 38 #[.agg #[.string s0, .string s1, .string s2, .string s3], .agg #[.string t0, .string t1, .string t2, .string t3]] W (fun e w' => e = .returned (.tuple #[.agg #[.string r0, .string r1, .string r2, .string r3], .int .i64 E]) ∧ Kp0 W w')) := hid (fun W v => by
 obtain ⟨c1, v1, v2⟩ := h.check; obtain ⟨z0, z1, z2, z3⟩ := h.sz; obtain ⟨c2, v3, v4⟩ := h'.check; obtain ⟨z4, z5, z6, z7⟩ := h'.sz; obtain ⟨rfl, rfl, rfl, rfl, rfl⟩ := d; have := gaDivOk (w := W) (hv := ⟨v.out⟩) c1 c2 (by rw [v3, v4]; exact h0)
 rw [v1, v2, v3, v4, e, f] at this; exact this)
theorem conjC {x y : _root_.Rat} {s0 s1 s2 s3 r0 r1 r2 r3 : ByteArray} {E : Int} (h : Tx x y s0 s1 s2 s3) (d : TD x (-y) r0 r1 r2 r3 E) : Hid (∀ W, VrC W → Calls Tryz.prog 40 #[.agg #[.string s0, .string s1, .string s2, .string s3]] W (fun e w' => e = .returned (.tuple #[.agg #[.string r0, .string r1, .string r2, .string r3], .int .i64 E]) ∧ Kp0 W w')) := hid (fun W v => by
 obtain ⟨c1, v1, v2⟩ := h.check; obtain ⟨z0, z1, z2, z3⟩ := h.sz; obtain ⟨rfl, rfl, rfl, rfl, rfl⟩ := d; have := gaConjOk (w := W) (hv := ⟨v.out⟩) c1; rw [v1, v2] at this; exact this)
theorem normC {x y : _root_.Rat} {s0 s1 s2 s3 r0 r1 : ByteArray} {E : Int} (h : Tx x y s0 s1 s2 s3) (d : ND (x * x + y * y) r0 r1 E) : Hid (∀ W, VrC W → Calls Tryz.prog 39 #[.agg #[.string s0, .string s1, .string s2, .string s3]] W (fun e w' => e = .returned (.tuple #[.agg #[.string r0, .string r1], .int .i64 E]) ∧ Kp0 W w')) := hid (fun W v => by
 obtain ⟨c1, v1, v2⟩ := h.check; obtain ⟨z0, z1, z2, z3⟩ := h.sz; obtain ⟨rfl, rfl, rfl⟩ := d; have := gaNormOk (w := W) (hv := ⟨v.out⟩) c1; rw [v1, v2, norm_eq] at this; exact this)
theorem normP {x y : _root_.Rat} {s0 s1 s2 s3 : ByteArray} {E : Int} (d : TD x y s0 s1 s2 s3 E) : ∃ (k0 k1 : ByteArray) (H : Int), Hid (∀ W, VrC W → Calls Tryz.prog 39 #[.agg #[.string s0, .string s1, .string s2, .string s3]] W (fun e w' => e = .returned (.tuple #[.agg #[.string k0, .string k1], .int .i64 H]) ∧ Kp0 W w')) ∧ (E = 0 → ND (x * x + y * y) k0 k1 H) := by
 by_cases h0 : E = 0
 · obtain ⟨k0, k1, H, n⟩ := ex_nd (x * x + y * y); exact ⟨k0, k1, H, normC (d.tx h0) n, fun _ => n⟩
 · obtain ⟨rfl, rfl, rfl, rfl⟩ := d.empty h0; haveI : SzC ⟨#[]⟩ := ⟨Nat.zero_le _⟩; exact ⟨_, _, _, hid (fun W v => gaNormBad (w := W) (hv := ⟨v.out⟩) (E := 30) (by kernel_rfl) (by decide)), fun h => absurd h h0⟩
theorem sameC {x y x' y' : _root_.Rat} {s0 s1 s2 s3 t0 t1 t2 t3 : ByteArray} (h : Tx x y s0 s1 s2 s3) (h' : Tx x' y' t0 t1 t2 t3) : Hid (∀ W, VrC W → Calls Tryz.prog 37 #[.agg #[.string s0, .string s1, .string s2, .string s3], .agg #[.string t0, .string t1, .string t2, .string t3]] W (fun e w' => e = .returned (.tuple #[.bool (decide (s0 = t0 ∧ s1 = t1 ∧ s2 = t2 ∧ s3 = t3)), .int .i64 0]) ∧ Kp0 W w')) := hid (fun W v => by
 obtain ⟨c1, v1, v2⟩ := h.check; obtain ⟨z0, z1, z2, z3⟩ := h.sz; obtain ⟨c2, v3, v4⟩ := h'.check; obtain ⟨z4, z5, z6, z7⟩ := h'.sz; exact gaSameOk (w := W) (hv := ⟨v.out⟩) c1 c2)
theorem tx_0 : Tx 0 0 ⟨#[48]⟩ ⟨#[49]⟩ ⟨#[48]⟩ ⟨#[49]⟩ := ⟨by kernel_rfl, by kernel_rfl, by kernel_rfl, by kernel_rfl, by kernel_rfl⟩
theorem tx_nought {x y : _root_.Rat} {s0 s1 s2 s3 : ByteArray} (h : Tx x y s0 s1 s2 s3) (hx : x = 0) (hy : y = 0) : s0 = ⟨#[48]⟩ ∧ s1 = ⟨#[49]⟩ ∧ s2 = ⟨#[48]⟩ ∧ s3 = ⟨#[49]⟩ := by
 subst hx; subst hy; obtain ⟨-, a1, a2, a3, a4⟩ := h; obtain ⟨-, b1, b2, b3, b4⟩ := tx_0; exact ⟨a1.trans b1.symm, a2.trans b2.symm, a3.trans b3.symm, a4.trans b4.symm⟩
theorem lawField {w : World} {a b c d a' b' c' d' p q r s : ByteArray} [sa : SzC a] [sb : SzC b] [sc : SzC c] [sd : SzC d] [sa' : SzC a'] [sb' : SzC b'] [sc' : SzC c'] [sd' : SzC d'] [sp : SzC p] [sq : SzC q] [sr : SzC r] [ss : SzC s] [hv : VrB w] :
 Calls Tryz.prog 9 #[.agg #[.string a, .string b, .string c, .string d], .agg #[.string a', .string b', .string c', .string d'], .agg #[.string p, .string q, .string r, .string s]] w fun e w' => e = .returned (.bool true) ∧ Kp0 w w' := by
 go_enter Tryz.func9, Tryz.ntmps9; go_upto_region 4 with (go_at_call 12; (with_reducible refine Calls.mono (lwAwake (hv := ⟨VrC.out⟩)) ?_); rintro e wc ⟨rfl, _⟩)
 by_cases h1 : checkE a b c d = 0
 case' neg =>
  have K1 := hid (fun (W : World) (v : VrC W) => gaCheckX (a := a) (b := b) (c := c) (d := d) (hv := v))
  generalize checkE a b c d = E at *; have b1 : (E != 0) = true := bne_iff_ne.2 h1; go_wp2_with (first | (go_at_call 33; (with_reducible refine Calls.mono (K1.out _ inferInstance) ?_); rintro e wc ⟨rfl, _⟩))
  go_ret
  exact ⟨rfl, ⟨Gr.out⟩⟩
 by_cases h2 : checkE a' b' c' d' = 0
 case' neg =>
  have K1 := hid (fun (W : World) (v : VrC W) => h1 ▸ gaCheckX (a := a) (b := b) (c := c) (d := d) (hv := v))
  have K2 := hid (fun (W : World) (v : VrC W) => gaCheckX (a := a') (b := b') (c := c') (d := d') (hv := v))
  generalize checkE a' b' c' d' = E at *; have b1 : (E != 0) = true := bne_iff_ne.2 h2; go_wp2_with (first | (go_at_call 33; (with_reducible refine Calls.mono (K1.out _ inferInstance) ?_); rintro e wc ⟨rfl, _⟩) | (go_at_call 33; (with_reducible refine Calls.mono (K2.out _ inferInstance) ?_); rintro e wc ⟨rfl, _⟩))
  go_ret
  exact ⟨rfl, ⟨Gr.out⟩⟩
 by_cases h3 : checkE p q r s = 0
 case' neg =>
  have K1 := hid (fun (W : World) (v : VrC W) => h1 ▸ gaCheckX (a := a) (b := b) (c := c) (d := d) (hv := v))
  have K2 := hid (fun (W : World) (v : VrC W) => h2 ▸ gaCheckX (a := a') (b := b') (c := c') (d := d') (hv := v))
  have K3 := hid (fun (W : World) (v : VrC W) => gaCheckX (a := p) (b := q) (c := r) (d := s) (hv := v))
  generalize checkE p q r s = E at *; have b1 : (E != 0) = true := bne_iff_ne.2 h3; go_wp2_with (first | (go_at_call 33; (with_reducible refine Calls.mono (K1.out _ inferInstance) ?_); rintro e wc ⟨rfl, _⟩) | (go_at_call 33; (with_reducible refine Calls.mono (K2.out _ inferInstance) ?_); rintro e wc ⟨rfl, _⟩) | (go_at_call 33; (with_reducible refine Calls.mono (K3.out _ inferInstance) ?_); rintro e wc ⟨rfl, _⟩))
  go_ret
  exact ⟨rfl, ⟨Gr.out⟩⟩
 have K1 := hid (fun (W : World) (v : VrC W) => h1 ▸ gaCheckX (a := a) (b := b) (c := c) (d := d) (hv := v))
 have K2 := hid (fun (W : World) (v : VrC W) => h2 ▸ gaCheckX (a := a') (b := b') (c := c') (d := d') (hv := v))
 have K3 := hid (fun (W : World) (v : VrC W) => h3 ▸ gaCheckX (a := p) (b := q) (c := r) (d := s) (hv := v))
 have TA := check_tx h1; have TB := check_tx h2; have TC := check_tx h3; generalize rval a b = x1 at *; generalize rval c d = y1 at *; generalize rval a' b' = x2 at *; generalize rval c' d' = y2 at *; generalize rval p q = x3 at *; generalize rval r s = y3 at *; obtain ⟨S0, S1, S2, S3, E1, S⟩ := ex_td (x1 + x2) (y1 + y2); have PA1 := addC TA TB S rfl rfl; have PA2 := addC TB TA S (Rat.add_comm _ _) (Rat.add_comm _ _); obtain ⟨P0, P1, P2, P3, E3, P⟩ := ex_td (x1 * x2 - y1 * y2) (x1 * y2 + y1 * x2); have PM1 := mulC TA TB P rfl rfl; have PM2 := mulC TB TA P (by grind) (by grind)
 have HSB := hid (fun (h : E1 = 0) => subC (S.tx h) TB TA.td (by grind) (by grind))
 obtain ⟨NB, hNB⟩ : ∃ NB, NB = decide (a' = ⟨#[48]⟩ ∧ b' = ⟨#[49]⟩ ∧ c' = ⟨#[48]⟩ ∧ d' = ⟨#[49]⟩) := ⟨_, rfl⟩; have SM := sameC TB tx_0; rw [← hNB] at SM
 have HDV := hid (fun (h : E3 = 0) (hn : NB = false) => divC (P.tx h) TB TA.td (fun h0 => by
  obtain ⟨hx, hy⟩ := divD_zero h0; rw [hNB, decide_eq_false_iff_not] at hn; exact hn (tx_nought TB hx hy)) (div_back (x1 := x1) (y1 := y1) (fun h0 => by
  obtain ⟨hx, hy⟩ := divD_zero h0; rw [hNB, decide_eq_false_iff_not] at hn; exact hn (tx_nought TB hx hy))).1 (div_back (x1 := x1) (y1 := y1) (fun h0 => by
  obtain ⟨hx, hy⟩ := divD_zero h0; rw [hNB, decide_eq_false_iff_not] at hn; exact hn (tx_nought TB hx hy))).2)
 obtain ⟨b0, b1, b2, b3, E5, BC⟩ := ex_td (x2 + x3) (y2 + y3); obtain ⟨c0, c1, c2, c3, E6, AC⟩ := ex_td (x1 * x3 - y1 * y3) (x1 * y3 + y1 * x3); obtain ⟨l0, l1, l2, l3, E7, L⟩ := ex_td (x1 * (x2 + x3) - y1 * (y2 + y3)) (x1 * (y2 + y3) + y1 * (x2 + x3)); have PB := addC TB TC BC rfl rfl; have PC := mulC TA TC AC rfl rfl; have HLL := hid (fun (h5 : E5 = 0) => mulC TA (BC.tx h5) L rfl rfl)
 have HRR := hid (fun (h3 : E3 = 0) (h6 : E6 = 0) => addC (P.tx h3) (AC.tx h6) L (by grind) (by grind))
 obtain ⟨n0, n1, F, NA⟩ := ex_nd (x1 * x1 + y1 * y1); obtain ⟨m0, m1, G, NM⟩ := ex_nd (x2 * x2 + y2 * y2); have QA := normC TA NA; have QB := normC TB NM; obtain ⟨k0, k1, H, QP, HP⟩ := normP P; obtain ⟨j0, j1, j2, j3, EJ, J⟩ := ex_td x1 (-y1); have hJ : EJ = 0 := J.2.2.2.2.trans ((toldE_neg x1 y1).trans TA.1); subst hJ; have CJ := conjC TA J; obtain ⟨g0, g1, g2, g3, EQ, SQ⟩ := ex_td (x1 * x1 + y1 * y1) 0; have MQ := mulC TA (J.tx rfl) SQ (by grind) (by grind)
 have HSQ := hid (fun (h : F = 0) => SQ.real NA h)
 have HPR := hid (fun (h3 : E3 = 0) (hF : F = 0) (hG : G = 0) (hH : H = 0) => mulC (NA.tx hF) (NM.tx hG) ((HP h3).tx hH).td (by grind) (by grind))
 clear TA TB TC S P BC AC L NA NM HP J SQ hNB h1 h2 h3; go_upto_if 102 with (first | (go_at_call 33; (with_reducible refine Calls.mono (K1.out _ inferInstance) ?_); rintro e wc ⟨rfl, _⟩) | (go_at_call 33; (with_reducible refine Calls.mono (K2.out _ inferInstance) ?_); rintro e wc ⟨rfl, _⟩) | (go_at_call 33; (with_reducible refine Calls.mono (K3.out _ inferInstance) ?_); rintro e wc ⟨rfl, _⟩) | (go_at_call 34; (with_reducible refine Calls.mono (PA1.out _ inferInstance) ?_); rintro e wa1 ⟨rfl, _⟩) | (go_at_call 34; (with_reducible refine Calls.mono (PA2.out _ inferInstance) ?_); rintro e wa2 ⟨rfl, _⟩) | (go_at_call 35; (with_reducible refine Calls.mono (PM1.out _ inferInstance) ?_); rintro e wm1 ⟨rfl, _⟩) | (go_at_call 35; (with_reducible refine Calls.mono (PM2.out _ inferInstance) ?_); rintro e wm2 ⟨rfl, _⟩))
 clear K1 K2 K3 PA1 PA2 PM1 PM2; go_cut [16, 17] from 101 (fun s16 s17 wx => Kp0 (wm2.alloc (.cells #[.string P0, .string P1, .string P2, .string P3] 33)) wx)
 case first =>
  by_cases h : E1 = 0
  · have SB := HSB.out h; subst h; go_wp2_with (go_at_call 36; (with_reducible refine Calls.mono (SB.out _ inferInstance) ?_); rintro e wc ⟨rfl, _⟩)
    go_meet
    exact ⟨Gr.out⟩
  · have b1 : (E1 == 0) = false := beq_eq_false_iff_ne.2 h; go_wp2_with fail
    go_meet
    exact ⟨Gr.out⟩
 case rest =>
 have iq1 := hcut; generalize hwq1 : wc = wq1 at *; clear hwq1 HSB; go_upto_region 16 with fail
 go_cut [18, 19] from 117 (fun s18 s19 wx => s18 = .bool NB ∧ s19 = .int .i64 0 ∧ Kp0 wq1 wx)
 case first =>
  go_region_held3 (fun W => W.cell? ⟨w.heap.size + 1, 0, none⟩ = some (.string a') ∧ W.cell? ⟨w.heap.size + 1, 1, none⟩ = some (.string b') ∧ W.cell? ⟨w.heap.size + 1, 2, none⟩ = some (.string c') ∧ W.cell? ⟨w.heap.size + 1, 3, none⟩ = some (.string d')) (refine ⟨?_, ?_, ?_, ?_⟩ <;> (first | exact Bk.cell BkC.out rfl | (simp [go_sem]; done))) (first | (go_at_call 31; (with_reducible refine Calls.mono (aw00) ?_); rintro e wd ⟨rfl, _⟩) | (go_at_call 37; (with_reducible refine Calls.mono (SM.out _ inferInstance) ?_); rintro e wc ⟨rfl, _⟩))
  all_goals (go_wp2_with fail; go_meet; exact ⟨rfl, rfl, ⟨Gr.out⟩⟩)
 case rest =>
 obtain ⟨rfl, rfl, iq2⟩ := hcut; generalize hwq2 : wc = wq2 at *; clear hwq2 SM; obtain ⟨CB, hCB⟩ : ∃ CB, CB = ((E3 == 0) && !NB) := ⟨_, rfl⟩; have HCB := hid hCB; clear hCB; go_upto_region 17 with fail
 go_cut [127] from 122 (fun s wx => s = .bool CB ∧ wq2 = wx)
 case first =>
  by_cases h : E3 = 0
  · subst h; go_wp2_with fail
    go_meet
    exact ⟨by rw [HCB.out]; rfl, rfl⟩
  · have b1 : (E3 == 0) = false := beq_eq_false_iff_ne.2 h; go_wp2_with fail
    go_meet
    exact ⟨by rw [HCB.out, b1]; rfl, rfl⟩
 case rest =>
 obtain ⟨rfl, rfl⟩ := hcut; go_upto_if 127 with fail
 go_cut [20, 21] from 128 (fun s20 s21 wx => Kp0 wq2 wx)
 case first =>
  cases CB with
  | true =>
    have hb := HCB.out.symm; rw [Bool.and_eq_true, beq_iff_eq, Bool.not_eq_true'] at hb; have DV := HDV.out hb.1 hb.2; clear hb HCB HDV; go_wp2_with (go_at_call 38; (with_reducible refine Calls.mono (DV.out _ inferInstance) ?_); rintro e wc ⟨rfl, _⟩)
    go_meet
    exact ⟨Gr.out⟩
  | false =>
    clear HCB HDV; go_wp2_with fail
    go_meet
    exact ⟨Gr.out⟩
 case rest =>
 have iq3 := hcut; generalize hwq3 : wc = wq3 at *; clear hwq3 HDV HCB; obtain ⟨CL, hCL⟩ : ∃ CL, CL = (((E3 == 0) && (E5 == 0)) && (E6 == 0)) := ⟨_, rfl⟩; have HCL := hid hCL; clear hCL; go_upto_region 23 with (first | (go_at_call 34; (with_reducible refine Calls.mono (PB.out _ inferInstance) ?_); rintro e wb3 ⟨rfl, _⟩) | (go_at_call 35; (with_reducible refine Calls.mono (PC.out _ inferInstance) ?_); rintro e wm3 ⟨rfl, _⟩))
 go_cut [162] from 153 (fun s wx => s = .bool CL ∧ (wm3.alloc (.cells #[.string c0, .string c1, .string c2, .string c3] 33)) = wx)
 case first =>
  by_cases h3 : E3 = 0
  · by_cases h5 : E5 = 0
    · subst h3; subst h5; go_wp2_with fail
      go_meet
      exact ⟨by rw [HCL.out]; rfl, rfl⟩
    · have d1 : (E5 == 0) = false := beq_eq_false_iff_ne.2 h5; subst h3; go_wp2_with fail
      go_meet
      exact ⟨by rw [HCL.out, d1]; rfl, rfl⟩
  · have d1 : (E3 == 0) = false := beq_eq_false_iff_ne.2 h3; go_wp2_with fail
    go_meet
    exact ⟨by rw [HCL.out, d1]; rfl, rfl⟩
 case rest =>
 obtain ⟨rfl, rfl⟩ := hcut; go_upto_if 162 with fail
 go_cut [26, 27, 28, 29] from 163 (fun s26 s27 s28 s29 wx => Kp0 (wm3.alloc (.cells #[.string c0, .string c1, .string c2, .string c3] 33)) wx)
 case first =>
  cases CL with
  | true =>
    have hb := HCL.out.symm; rw [Bool.and_eq_true, Bool.and_eq_true, beq_iff_eq, beq_iff_eq, beq_iff_eq] at hb; have ML := HLL.out hb.1.2; have MR := HRR.out hb.1.1 hb.2; clear HLL HRR hb HCL; go_wp2_with (first | (go_at_call 35; (with_reducible refine Calls.mono (ML.out _ inferInstance) ?_); rintro e wc ⟨rfl, _⟩) | (go_at_call 34; (with_reducible refine Calls.mono (MR.out _ inferInstance) ?_); rintro e wc ⟨rfl, _⟩))
    go_meet
    exact ⟨Gr.out⟩
  | false =>
    clear HLL HRR HCL; go_wp2_with fail
    go_meet
    exact ⟨Gr.out⟩
 case rest =>
 have iq4 := hcut; generalize hwq4 : wc = wq4 at *; clear hwq4 HLL HRR PB PC HCL; go_upto_region 33 with (first | (go_at_call 39; (with_reducible refine Calls.mono (QA.out _ inferInstance) ?_); rintro e wn1 ⟨rfl, _⟩) | (go_at_call 39; (with_reducible refine Calls.mono (QB.out _ inferInstance) ?_); rintro e wn2 ⟨rfl, _⟩) | (go_at_call 39; (with_reducible refine Calls.mono (QP.out _ inferInstance) ?_); rintro e wn3 ⟨rfl, _⟩) | (go_at_call 40; (with_reducible refine Calls.mono (CJ.out _ inferInstance) ?_); rintro e wn4 ⟨rfl, _⟩) | (go_at_call 35; (with_reducible refine Calls.mono (MQ.out _ inferInstance) ?_); rintro e wn5 ⟨rfl, _⟩))
 clear QA QB QP CJ MQ; go_cut [221] from 209 (fun s wx => s = .bool false ∧ (wn5.alloc (.cells #[.string g0, .string g1, .string g2, .string g3] 33)) = wx)
 case first =>
  by_cases hF : F = 0
  · obtain ⟨hq, rfl, rfl, rfl, rfl⟩ := HSQ.out hF; subst hq; subst hF; go_wp2_with fail
    go_meet
    exact ⟨rfl, rfl⟩
  · have d0 : (F == 0) = false := beq_eq_false_iff_ne.2 hF; go_wp2_with fail
    go_meet
    exact ⟨rfl, rfl⟩
 case rest =>
 obtain ⟨rfl, rfl⟩ := hcut; clear HSQ; by_cases hF : F = 0
 · skip
   by_cases h3 : E3 = 0
   · by_cases hG : G = 0
     · by_cases hH : H = 0
       · have PR := HPR.out h3 hF hG hH; clear HPR; subst h3; subst hF; subst hG; subst hH; go_wp2_with (go_at_call 35; (with_reducible refine Calls.mono (PR.out _ inferInstance) ?_); rintro e wc ⟨rfl, _⟩)
         go_ret
         exact ⟨rfl, ⟨Gr.out⟩⟩
       · have d1 : (H != 0) = true := bne_iff_ne.2 hH; clear HPR; subst h3; subst hF; subst hG; go_wp2_with fail
         go_ret
         exact ⟨rfl, ⟨Gr.out⟩⟩
     · have d1 : (G != 0) = true := bne_iff_ne.2 hG; clear HPR; subst h3; subst hF; go_wp2_with fail
       go_ret
       exact ⟨rfl, ⟨Gr.out⟩⟩
   · have d1 : (E3 != 0) = true := bne_iff_ne.2 h3; clear HPR; subst hF; go_wp2_with fail
     go_ret
     exact ⟨rfl, ⟨Gr.out⟩⟩
 · have d0 : (F == 0) = false := beq_eq_false_iff_ne.2 hF; have d1 : (F != 0) = true := bne_iff_ne.2 hF; clear HPR; by_cases h3 : E3 = 0
   · subst h3; go_wp2_with fail
     go_ret
     exact ⟨rfl, ⟨Gr.out⟩⟩
   · have d2 : (E3 != 0) = true := bne_iff_ne.2 h3; go_wp2_with fail
     go_ret
     exact ⟨rfl, ⟨Gr.out⟩⟩
end Go.Proofs.YthjeejnggpjnjaaGreatDoor
