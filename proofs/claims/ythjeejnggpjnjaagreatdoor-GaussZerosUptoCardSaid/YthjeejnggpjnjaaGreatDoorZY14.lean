/- A part: BC, BJ, BM, BE, BD, BF, BK. -/
import Derived.Test.YthjeejnggpjnjaaGreatDoorZY13
import Derived.Laws.ResultCell
import Derived.Laws.Rows
set_option linter.unusedSimpArgs false
set_option linter.unusedVariables false
set_option maxRecDepth 100000
set_option maxHeartbeats 16000000
set_option synthInstance.maxHeartbeats 2000000
set_option synthInstance.maxSize 100000
namespace Go.Proofs.YthjeejnggpjnjaaGreatDoor
open Go.RowKit
def Sm (L : Nat) (x : _root_.Rat) : Prop := (words x.num.natAbs).length ≤ L ∧ (words x.den).length ≤ L
theorem Sm.mono {L M : Nat} {x : _root_.Rat} (h : Sm L x) (k : L ≤ M) : Sm M x := ⟨Nat.le_trans h.1 k, Nat.le_trans h.2 k⟩
theorem mkRat_le (x : Int) (d : Nat) (h : d ≠ 0) : (mkRat x d).num.natAbs ≤ x.natAbs ∧ (mkRat x d).den ≤ d := by
 rw [Rat.num_mkRat, Rat.den_mkRat, if_neg h, if_neg h]
 constructor
 · rw [Int.natAbs_ediv_of_dvd]
   · exact Nat.div_le_self _ _
   · exact Int.ofNat_dvd_left.2 (Nat.gcd_dvd_right _ _)
 · exact Nat.div_le_self _ _
theorem Sm.mk {L : Nat} {x : Int} {d : Nat} (h : d ≠ 0) (h1 : (words x.natAbs).length ≤ L) (h2 : (words d).length ≤ L) : Sm L (mkRat x d) :=
 ⟨Nat.le_trans (len_mono (mkRat_le x d h).1) h1, Nat.le_trans (len_mono (mkRat_le x d h).2) h2⟩
theorem Sm.mul {L M : Nat} {x y : _root_.Rat} (h : Sm L x) (k : Sm M y) : Sm (L + M) (x * y) := by
 rw [Rat.mul_def, Rat.normalize_eq_mkRat]; refine Sm.mk (Nat.mul_ne_zero x.den_nz y.den_nz) ?_ ?_
 · rw [Int.natAbs_mul]; exact Nat.le_trans (mul_len _ _) (Nat.add_le_add h.1 k.1)
 · exact Nat.le_trans (mul_len _ _) (Nat.add_le_add h.2 k.2)
theorem Sm.add {L M : Nat} {x y : _root_.Rat} (h : Sm L x) (k : Sm M y) : Sm (2 * (L + M) + 1) (x + y) := by
 rw [Rat.add_def, Rat.normalize_eq_mkRat]; refine Sm.mk (Nat.mul_ne_zero x.den_nz y.den_nz) ?_ ?_
 · have h1 := Int.natAbs_add_le (x.num * (y.den : Int)) (y.num * (x.den : Int)); rw [Int.natAbs_mul, Int.natAbs_mul, Int.natAbs_natCast, Int.natAbs_natCast] at h1; have h2 := len_mono h1; have h3 := add_len (x.num.natAbs * y.den) (y.num.natAbs * x.den); have h4 := mul_len x.num.natAbs y.den; have h5 := mul_len y.num.natAbs x.den; have h6 := h.1; have h7 := h.2; have h8 := k.1; have h9 := k.2; omega
 · have h4 := mul_len x.den y.den; have h7 := h.2; have h9 := k.2; omega
theorem Sm.neg {L : Nat} {x : _root_.Rat} (h : Sm L x) : Sm L (-x) := ⟨by rw [Rat.neg_num, Int.natAbs_neg]; exact h.1, by rw [Rat.neg_den]; exact h.2⟩
theorem Sm.sub {L M : Nat} {x y : _root_.Rat} (h : Sm L x) (k : Sm M y) : Sm (2 * (L + M) + 1) (x - y) := by
 rw [Rat.sub_eq_add_neg]; exact h.add k.neg
theorem Sm.div {L M : Nat} {x y : _root_.Rat} (h : Sm L x) (k : Sm M y) (h0 : y.num ≠ 0) : Sm (L + M) (x / y) := by
 rw [← rat_div_mk x y h0]; refine Sm.mk (Nat.mul_ne_zero x.den_nz (by omega)) ?_ ?_
 · rw [sg_abs]; exact Nat.le_trans (mul_len _ _) (Nat.add_le_add h.1 k.2)
 · exact Nat.le_trans (mul_len _ _) (Nat.add_le_add h.2 k.1)
theorem Ra.lt {R : Nat} {w : World} {g : Nat} {x : _root_.Rat} (h : Ra R w g x) : g < w.heap.size := by
 obtain ⟨_, _, hb, -, -⟩ := h; exact hb.lt
class NotW (T : Nat) : Prop where
 out : T ≠ 190
instance notW31 : NotW 31 := ⟨by decide⟩
instance notW33 : NotW 33 := ⟨by decide⟩
instance notW80 : NotW 80 := ⟨by decide⟩
instance notW82 : NotW 82 := ⟨by decide⟩
instance notW86 : NotW 86 := ⟨by decide⟩
instance notW88 : NotW 88 := ⟨by decide⟩
instance notW92 : NotW 92 := ⟨by decide⟩
instance notW94 : NotW 94 := ⟨by decide⟩
instance notW123 : NotW 123 := ⟨by decide⟩
instance notW125 : NotW 125 := ⟨by decide⟩
instance notW174 : NotW 174 := ⟨by decide⟩
class Kp0 (W : outParam World) (w' : World) : Prop where
 out : Below W.heap.size W w'
class Kp1 (W : outParam World) (k : outParam Nat) (w' : World) : Prop where
 out : Keeps W.heap.size [k] W w'
class NeN (a b : Nat) : Prop where
 out : a ≠ b
instance neN_lt (a b : Nat) [h : LtN a b] : NeN a b := ⟨Nat.ne_of_lt h.lt⟩
instance neN_gt (a b : Nat) [h : LtN b a] : NeN a b := ⟨Ne.symm (Nat.ne_of_lt h.lt)⟩
instance (priority := 800) ltN_has (w : World) (b : Nat) [h : Has w b] : LtN b w.heap.size := ⟨h.lt⟩
instance has_kp0 (W w' : World) (n : Nat) [k : Kp0 W w'] [h : Has W n] : Has w' n := ⟨Nat.lt_of_lt_of_le h.lt k.out.size⟩
instance has_kp1 (W w' : World) (g n : Nat) [k : Kp1 W g w'] [h : Has W n] : Has w' n := ⟨Nat.lt_of_lt_of_le h.lt k.out.size⟩
def cq (w : World) (a : Addr) : Option Value := w.cell? a
def fq (w : World) (a : Addr) : Bool := w.frozen? a
@[go_sem] theorem cq_def (w : World) (a : Addr) : cq w a = w.cell? a := rfl
@[go_sem] theorem fq_def (w : World) (a : Addr) : fq w a = w.frozen? a := rfl
theorem frozen_of_heap {w w' : World} {n i : Nat} (h : w'.heap[n]? = w.heap[n]?) : w'.frozen? ⟨n, i, none⟩ = w.frozen? ⟨n, i, none⟩ := by simp only [World.frozen?, h]
section
variable (w' : World) {W : World} (n i : Nat)
@[go_sem] theorem cell_kp0 [k : Kp0 W w'] [h : Has W n] : w'.cell? ⟨n, i, none⟩ = cq W ⟨n, i, none⟩ := World.cell?_of_block (w := W) (k.out.block n h.lt)
@[go_sem] theorem cell_kp1 {g : Nat} [k : Kp1 W g w'] [h : Has W n] [e : NeN n g] : w'.cell? ⟨n, i, none⟩ = cq W ⟨n, i, none⟩ := World.cell?_of_block (w := W) (k.out.block n h.lt (by simpa using e.out))
@[go_sem] theorem frozen_kp0 [k : Kp0 W w'] [h : Has W n] : w'.frozen? ⟨n, i, none⟩ = fq W ⟨n, i, none⟩ := frozen_of_heap (k.out.block n h.lt)
@[go_sem] theorem frozen_kp1 {g : Nat} [k : Kp1 W g w'] [h : Has W n] [e : NeN n g] : w'.frozen? ⟨n, i, none⟩ = fq W ⟨n, i, none⟩ := frozen_of_heap (k.out.block n h.lt (by simpa using e.out))
end
class BkC (w : World) (g : Nat) (L : outParam (List Value)) (T : outParam Nat) : Prop where
 out : Bk w g L T
instance (priority := 1100) bkC_new (w : World) (s : Nat) (L : List Value) (T : Nat) [hs : HasSize w s] [hT : NotW T] : BkC (w.alloc (.cells L.toArray T)) s L T := ⟨⟨block_at w _ s, hT.out⟩⟩
instance bkC_alloc (w : World) (g : Nat) (L : List Value) (T : Nat) (o : Obj) [h : BkC w g L T] : BkC (w.alloc o) g L T := ⟨h.out.below ((Below.refl _ _).alloc (Nat.le_refl _) _)⟩
instance bkC_drew (w : World) (g : Nat) (L : List Value) (T : Nat) [h : BkC w g L T] : BkC w.drew g L T := ⟨h.out.below (Below.drew (Below.refl _ _))⟩
instance bkC_kp0 (W w' : World) (g : Nat) (L : List Value) (T : Nat) [k : Kp0 W w'] [h : BkC W g L T] : BkC w' g L T := ⟨h.out.below k.out⟩
instance bkC_kp1 (W w' : World) (g n : Nat) (L : List Value) (T : Nat) [k : Kp1 W n w'] [e : NeN g n] [h : BkC W g L T] : BkC w' g L T := ⟨h.out.keep k.out (Nat.le_refl _) (by simpa using e.out)⟩
class SetC (L : List Value) (i : Nat) (x : Value) (M : outParam (List Value)) : Prop where
 out : L.set i x = M
instance setC_0 (a : Value) (L : List Value) (x : Value) : SetC (a :: L) 0 x (x :: L) := ⟨rfl⟩
instance setC_s (a : Value) (L M : List Value) (i : Nat) (x : Value) [h : SetC L i x M] : SetC (a :: L) (i + 1) x (a :: M) := ⟨by rw [List.set_cons_succ, h.out]⟩
instance bkC_set (w : World) (g i : Nat) (x : Value) (L M : List Value) (T : Nat) [h : BkC w g L T] [k : SetC L i x M] : BkC (w.setCell ⟨g, i, none⟩ x) g M T := ⟨k.out ▸ h.out.set i x⟩
instance bkC_setN (w : World) (g n i : Nat) (x : Value) (L : List Value) (T : Nat) [e : NeN g n] [h : BkC w g L T] : BkC (w.setCell ⟨n, i, none⟩ x) g L T := ⟨⟨(block_ne _ _ _ _ _ e.out).trans h.out.1, h.out.2⟩⟩
class Blk (w : World) (g : Nat) : Prop where
 out : ∃ L T, Bk w g L T
instance blk_bk (w : World) (g : Nat) (L : List Value) (T : Nat) [h : BkC w g L T] : Blk w g := ⟨⟨_, _, h.out⟩⟩
class Fr (R : Nat) (W : World) (g : Nat) : Prop where
 out : Bk W g [.bool false, .slice none 0 0, .slice none 0 0] R
instance fr_bk (R : Nat) (W : World) (g : Nat) [h : BkC W g [.bool false, .slice none 0 0, .slice none 0 0] R] : Fr R W g := ⟨h.out⟩
class RaC (R : outParam Nat) (w : World) (g : Nat) (x : outParam _root_.Rat) : Prop where
 out : Ra R w g x
instance blk_ra (R : Nat) (w : World) (g : Nat) (x : _root_.Rat) [h : RaC R w g x] : Blk w g := ⟨by obtain ⟨_, _, hb, -, -⟩ := h.out; exact ⟨_, _, hb⟩⟩
instance raC_alloc (R : Nat) (w : World) (g : Nat) (x : _root_.Rat) (o : Obj) [h : RaC R w g x] : RaC R (w.alloc o) g x := ⟨h.out.below ((Below.refl _ _).alloc (Nat.le_refl _) _)⟩
instance raC_drew (R : Nat) (w : World) (g : Nat) (x : _root_.Rat) [h : RaC R w g x] : RaC R w.drew g x := ⟨h.out.below (Below.drew (Below.refl _ _))⟩
instance raC_kp0 (R : Nat) (W w' : World) (g : Nat) (x : _root_.Rat) [k : Kp0 W w'] [h : RaC R W g x] : RaC R w' g x := ⟨h.out.below k.out⟩
instance raC_kp1 (R : Nat) (W w' : World) (g n : Nat) (x : _root_.Rat) [k : Kp1 W n w'] [e : NeN g n] [b : Blk W n] [h : RaC R W g x] : RaC R w' g x := ⟨by
 obtain ⟨L, T, hb⟩ := b.out; exact h.out.keep hb k.out e.out⟩
instance raC_set (R : Nat) (w : World) (g n i : Nat) (v : Value) (x : _root_.Rat) [e : NeN g n] [b : Blk w n] [h : RaC R w g x] : RaC R (w.setCell ⟨n, i, none⟩ v) g x := ⟨by
 obtain ⟨L, T, hb⟩ := b.out; exact h.out.keep hb ((Keeps.refl _ _ _).set (Or.inl (List.mem_singleton.2 rfl)) i v) e.out⟩
class NeT (R T : Nat) : Prop where
 out : T ≠ R
instance neT_88_31 : NeT 88 31 := ⟨by decide⟩
instance neT_88_33 : NeT 88 33 := ⟨by decide⟩
instance neT_88_80 : NeT 88 80 := ⟨by decide⟩
instance neT_88_82 : NeT 88 82 := ⟨by decide⟩
instance neT_88_92 : NeT 88 92 := ⟨by decide⟩
instance neT_88_94 : NeT 88 94 := ⟨by decide⟩
instance neT_88_174 : NeT 88 174 := ⟨by decide⟩
instance neT_125_31 : NeT 125 31 := ⟨by decide⟩
instance neT_125_33 : NeT 125 33 := ⟨by decide⟩
instance neT_125_80 : NeT 125 80 := ⟨by decide⟩
instance neT_125_82 : NeT 125 82 := ⟨by decide⟩
instance neT_125_92 : NeT 125 92 := ⟨by decide⟩
instance neT_125_94 : NeT 125 94 := ⟨by decide⟩
instance neT_125_174 : NeT 125 174 := ⟨by decide⟩
instance neT_86_31 : NeT 86 31 := ⟨by decide⟩
instance neT_86_33 : NeT 86 33 := ⟨by decide⟩
instance neT_86_80 : NeT 86 80 := ⟨by decide⟩
instance neT_86_82 : NeT 86 82 := ⟨by decide⟩
instance neT_86_92 : NeT 86 92 := ⟨by decide⟩
instance neT_86_94 : NeT 86 94 := ⟨by decide⟩
instance neT_86_174 : NeT 86 174 := ⟨by decide⟩
instance neT_123_31 : NeT 123 31 := ⟨by decide⟩
instance neT_123_33 : NeT 123 33 := ⟨by decide⟩
instance neT_123_80 : NeT 123 80 := ⟨by decide⟩
instance neT_123_82 : NeT 123 82 := ⟨by decide⟩
instance neT_123_92 : NeT 123 92 := ⟨by decide⟩
instance neT_123_94 : NeT 123 94 := ⟨by decide⟩
instance neT_123_174 : NeT 123 174 := ⟨by decide⟩
instance (priority := 1100) raC_setT (R : Nat) (w : World) (g n i : Nat) (v : Value) (x : _root_.Rat) (L : List Value) (T : Nat) [h : RaC R w g x] [b : BkC w n L T] [t : NeT R T] : RaC R (w.setCell ⟨n, i, none⟩ v) g x := ⟨by
 obtain ⟨_, _, hb, -, -⟩ := h.out; exact h.out.keep b.out ((Keeps.refl _ _ _).set (Or.inl (List.mem_singleton.2 rfl)) i v) (hb.ne b.out (Ne.symm t.out))⟩
instance has_ra (R : Nat) (w : World) (g : Nat) (x : _root_.Rat) [h : RaC R w g x] : Has w g := ⟨h.out.lt⟩
class Up (B g : Nat) : Prop where
 out : B ≤ g
instance up_le (B g : Nat) [h : LeN B g] : Up B g := ⟨h.le⟩
instance (priority := 700) leN_size (v : World) (o : Obj) (s n : Nat) [h : HasSize (v.alloc o) s] [k : LeN s n] : LeN (v.alloc o).heap.size n := ⟨by rw [h.eq]; exact k.le⟩
class Gr (v : World) (W : World) : Prop where
 out : Below v.heap.size v W
instance gr_refl (v : World) : Gr v v := ⟨Below.refl _ _⟩
instance gr_alloc (v W : World) (o : Obj) [h : Gr v W] : Gr v (W.alloc o) := ⟨h.out.alloc h.out.size _⟩
instance gr_drew (v W : World) [h : Gr v W] : Gr v W.drew := ⟨Below.drew h.out⟩
instance gr_kp0 (v W w' : World) [k : Kp0 W w'] [h : Gr v W] : Gr v w' := ⟨Below.trans h.out (below_low k.out h.out.size)⟩
instance gr_kp1 (v W w' : World) (n : Nat) [k : Kp1 W n w'] [h : Gr v W] [u : Up v.heap.size n] : Gr v w' := ⟨below_keeps h.out k.out u.out h.out.size⟩
instance gr_set (v W : World) (n i : Nat) (x : Value) [h : Gr v W] [u : Up v.heap.size n] : Gr v (W.setCell ⟨n, i, none⟩ x) := ⟨below_store h.out u.out⟩
instance leN_gr (v W : World) [h : Gr v W] : LeN v.heap.size W.heap.size := ⟨h.out.size⟩
class UpW (w : outParam World) (j : Nat) : Prop where
 out : w.heap.size ≤ j
instance (priority := 900) ltN_upW (w : World) (b j : Nat) [u : UpW w j] [h : Has w b] : LtN b j := ⟨Nat.lt_of_lt_of_le h.lt u.out⟩
instance up_upW (v w : World) (j : Nat) [u : UpW w j] [g : Gr v w] : Up v.heap.size j := ⟨Nat.le_trans g.out.size u.out⟩
class VrB (w : outParam World) : Prop where
 out : Vr w
class VrC (w : World) : Prop where
 out : Vr w
instance vrC_gr (v W : World) [b : VrB v] [h : Gr v W] : VrC W := ⟨b.out.below h.out⟩
class SmC (x : _root_.Rat) (L : outParam Nat) : Prop where
 out : Sm L x
instance smC_mul (x y : _root_.Rat) (L M : Nat) [h : SmC x L] [k : SmC y M] : SmC (x * y) (L + M) := ⟨h.out.mul k.out⟩
instance smC_add (x y : _root_.Rat) (L M : Nat) [h : SmC x L] [k : SmC y M] : SmC (x + y) (2 * (L + M) + 1) := ⟨h.out.add k.out⟩
instance smC_sub (x y : _root_.Rat) (L M : Nat) [h : SmC x L] [k : SmC y M] : SmC (x - y) (2 * (L + M) + 1) := ⟨h.out.sub k.out⟩
instance smC_neg (x : _root_.Rat) (L : Nat) [h : SmC x L] : SmC (-x) L := ⟨h.out.neg⟩
theorem Fr.ra {R : Nat} {W : World} {g : Nat} (h : Fr R W g) : Ra R W g 0 := by
 have hw : ∀ w : World, Wd w (.slice none 0 0) [] := fun w => .inl ⟨rfl, rfl⟩
 refine ⟨.slice none 0 0, .slice none 0 0, h.out, ?_, .inl ⟨hw _, rfl⟩⟩
 rw [show (0 : _root_.Rat).num.natAbs = 0 from rfl, words_0]
 exact hw _
abbrev nuV (i j : Nat) : Value := .agg #[.pointer (some ⟨i, 0, none⟩), .pointer (some ⟨j, 0, none⟩)]
section
variable {P : Program} {fn : Func} {R : Ending → World → Prop} {a : Act} {w : World} {p u : Tmp} {ty : TypeId} {g : Nat} {L : List Value} {T : Nat} {d : TypeDesc}
theorem ret_cell (h : fn.results = #[.cell p ty]) (hd0 : a.defers = []) (hp : a.tmps.getD p undef = .pointer (some ⟨g, 0, none⟩)) [hb : BkC w g L T] (hu : P.underlying ty = some d) (hd : (match d with | .struct _ | .array _ _ => true | _ => false) = true) (hi : (P.info? ty).map (·.size) = some L.toArray.size)
 (hR : R (.returned (.agg L.toArray)) w) : bodyPost P fn R .ret a w :=
 bodyPost_ret (results_cell_row h _ _ g T L.toArray (0, 0) d hp hb.out.1 hu hd hi) hd0 hR
theorem ret_cell_tmp (h : fn.results = #[.cell p ty, .tmp u]) (hd0 : a.defers = []) (hp : a.tmps.getD p undef = .pointer (some ⟨g, 0, none⟩)) [hb : BkC w g L T] (hu : P.underlying ty = some d) (hd : (match d with | .struct _ | .array _ _ => true | _ => false) = true) (hi : (P.info? ty).map (·.size) = some L.toArray.size)
 (hR : R (.returned (.tuple #[.agg L.toArray, a.tmps.getD u undef])) w) : bodyPost P fn R .ret a w := by
 refine bodyPost_ret (v := .tuple #[.agg L.toArray, a.tmps.getD u undef]) ?_ hd0 hR
 rw [results_cell_tmp h, hp]; simp [asAddr, Result.andThen, run_loadVar_row w g T ty L.toArray (0, 0) d hb.out.1 hu hd hi]
end
class Blk' (R : Nat) (W : World) (g : Nat) : Prop where
 out : ∃ a b c, Bk W g [a, b, c] R
instance blkF (R : Nat) (W : World) (g : Nat) [h : Fr R W g] : Blk' R W g := ⟨⟨_, _, _, h.out⟩⟩
instance blkR (R : Nat) (W : World) (g : Nat) (x : _root_.Rat) [h : RaC R W g x] : Blk' R W g := ⟨by obtain ⟨_, _, hb, -, -⟩ := h.out; exact ⟨_, _, _, hb⟩⟩
theorem brMulC {W : World} {gz gx gy : Nat} {x y : _root_.Rat} {L M : Nat} [hz : Blk' 88 W gz] [hx : RaC 88 W gx x] [hy : RaC 88 W gy y] [sx : SmC x L] [sy : SmC y M] [nx : NeN gx gz] [ny : NeN gy gz] [vr : VrC W] (hL : L ≤ 34359738368) (hM : M ≤ 34359738368) :
 Calls Tryz.prog 106 #[.pointer (some ⟨gz, 0, none⟩), .pointer (some ⟨gx, 0, none⟩), .pointer (some ⟨gy, 0, none⟩)] W fun e w' => e = .returned (.pointer (some ⟨gz, 0, none⟩)) ∧ RaC 88 w' gz (x * y) ∧ Kp1 W gz w' := by
 obtain ⟨z0, z1, z2, bz⟩ := hz.out; refine (brmul gz gx gy _ _ _ x y _ bz hx.out hy.out (Nat.le_trans sx.out.1 hL) (Nat.le_trans sx.out.2 hL) (Nat.le_trans sy.out.1 hM) (Nat.le_trans sy.out.2 hM) vr.out nx.out ny.out).mono ?_
 rintro e w' ⟨rfl, h1, h2⟩; exact ⟨rfl, ⟨h1⟩, ⟨h2⟩⟩
theorem brQuoC {W : World} {gz gx gy : Nat} {x y : _root_.Rat} {L M : Nat} [hz : Blk' 88 W gz] [hx : RaC 88 W gx x] [hy : RaC 88 W gy y] [sx : SmC x L] [sy : SmC y M] [nx : NeN gx gz] [ny : NeN gy gz] [vr : VrC W] (hL : L ≤ 34359738368) (hM : M ≤ 34359738368) (hy0 : y.num ≠ 0) :
 Calls Tryz.prog 87 #[.pointer (some ⟨gz, 0, none⟩), .pointer (some ⟨gx, 0, none⟩), .pointer (some ⟨gy, 0, none⟩)] W fun e w' => e = .returned (.pointer (some ⟨gz, 0, none⟩)) ∧ RaC 88 w' gz (x / y) ∧ Kp1 W gz w' := by
 obtain ⟨z0, z1, z2, bz⟩ := hz.out; refine (brquo gz gx gy _ _ _ x y _ bz hx.out hy.out (Nat.le_trans sx.out.1 hL) (Nat.le_trans sx.out.2 hL) (Nat.le_trans sy.out.1 hM) (Nat.le_trans sy.out.2 hM) nx.out ny.out vr.out hy0).mono ?_
 rintro e w' ⟨rfl, h1, h2⟩; exact ⟨rfl, ⟨h1⟩, ⟨h2⟩⟩
theorem brAddC {W : World} {gz gx gy : Nat} {x y : _root_.Rat} {L M : Nat} [hz : Blk' 88 W gz] [hx : RaC 88 W gx x] [hy : RaC 88 W gy y] [sx : SmC x L] [sy : SmC y M] [vr : VrC W] (hL : L ≤ 17179869184) (hM : M ≤ 17179869184) :
 Calls Tryz.prog 108 #[.pointer (some ⟨gz, 0, none⟩), .pointer (some ⟨gx, 0, none⟩), .pointer (some ⟨gy, 0, none⟩)] W fun e w' => e = .returned (.pointer (some ⟨gz, 0, none⟩)) ∧ RaC 88 w' gz (x + y) ∧ Kp1 W gz w' := by
 obtain ⟨z0, z1, z2, bz⟩ := hz.out; refine (bradd gz gx gy _ _ _ x y _ bz hx.out hy.out (Nat.le_trans sx.out.1 hL) (Nat.le_trans sx.out.2 hL) (Nat.le_trans sy.out.1 hM) (Nat.le_trans sy.out.2 hM) vr.out).mono ?_
 rintro e w' ⟨rfl, h1, h2⟩; exact ⟨rfl, ⟨h1⟩, ⟨h2⟩⟩
theorem brSubC {W : World} {gz gx gy : Nat} {x y : _root_.Rat} {L M : Nat} [hz : Blk' 88 W gz] [hx : RaC 88 W gx x] [hy : RaC 88 W gy y] [sx : SmC x L] [sy : SmC y M] [vr : VrC W] (hL : L ≤ 17179869184) (hM : M ≤ 17179869184) :
 Calls Tryz.prog 107 #[.pointer (some ⟨gz, 0, none⟩), .pointer (some ⟨gx, 0, none⟩), .pointer (some ⟨gy, 0, none⟩)] W fun e w' => e = .returned (.pointer (some ⟨gz, 0, none⟩)) ∧ RaC 88 w' gz (x - y) ∧ Kp1 W gz w' := by
 obtain ⟨z0, z1, z2, bz⟩ := hz.out; refine (brsub gz gx gy _ _ _ x y _ bz hx.out hy.out (Nat.le_trans sx.out.1 hL) (Nat.le_trans sx.out.2 hL) (Nat.le_trans sy.out.1 hM) (Nat.le_trans sy.out.2 hM) vr.out).mono ?_
 rintro e w' ⟨rfl, h1, h2⟩; exact ⟨rfl, ⟨h1⟩, ⟨h2⟩⟩
theorem erMulC {W : World} {gz gx gy : Nat} {x y : _root_.Rat} {L M : Nat} [hz : Blk' 125 W gz] [hx : RaC 125 W gx x] [hy : RaC 125 W gy y] [sx : SmC x L] [sy : SmC y M] [nx : NeN gx gz] [ny : NeN gy gz] (hL : L ≤ 34359738368) (hM : M ≤ 34359738368) :
 Calls Tryz.prog 124 #[.pointer (some ⟨gz, 0, none⟩), .pointer (some ⟨gx, 0, none⟩), .pointer (some ⟨gy, 0, none⟩)] W fun e w' => e = .returned (.pointer (some ⟨gz, 0, none⟩)) ∧ RaC 125 w' gz (x * y) ∧ Kp1 W gz w' := by
 obtain ⟨z0, z1, z2, bz⟩ := hz.out; refine (ermul gz gx gy _ _ _ x y _ bz hx.out hy.out (Nat.le_trans sx.out.1 hL) (Nat.le_trans sx.out.2 hL) (Nat.le_trans sy.out.1 hM) (Nat.le_trans sy.out.2 hM) nx.out ny.out).mono ?_
 rintro e w' ⟨rfl, h1, h2⟩; exact ⟨rfl, ⟨h1⟩, ⟨h2⟩⟩
theorem erQuoC {W : World} {gz gx gy : Nat} {x y : _root_.Rat} {L M : Nat} [hz : Blk' 125 W gz] [hx : RaC 125 W gx x] [hy : RaC 125 W gy y] [sx : SmC x L] [sy : SmC y M] (hL : L ≤ 34359738368) (hM : M ≤ 34359738368) (hy0 : y.num ≠ 0) :
 Calls Tryz.prog 99 #[.pointer (some ⟨gz, 0, none⟩), .pointer (some ⟨gx, 0, none⟩), .pointer (some ⟨gy, 0, none⟩)] W fun e w' => e = .returned (.pointer (some ⟨gz, 0, none⟩)) ∧ RaC 125 w' gz (x / y) ∧ Kp1 W gz w' := by
 obtain ⟨z0, z1, z2, bz⟩ := hz.out; refine (erquo gz gx gy _ _ _ x y _ bz hx.out hy.out (Nat.le_trans sx.out.1 hL) (Nat.le_trans sx.out.2 hL) (Nat.le_trans sy.out.1 hM) (Nat.le_trans sy.out.2 hM) hy0).mono ?_
 rintro e w' ⟨rfl, h1, h2⟩; exact ⟨rfl, ⟨h1⟩, ⟨h2⟩⟩
theorem erAddC {W : World} {gz gx gy : Nat} {x y : _root_.Rat} {L M : Nat} [hz : Blk' 125 W gz] [hx : RaC 125 W gx x] [hy : RaC 125 W gy y] [sx : SmC x L] [sy : SmC y M] (hL : L ≤ 17179869184) (hM : M ≤ 17179869184) :
 Calls Tryz.prog 143 #[.pointer (some ⟨gz, 0, none⟩), .pointer (some ⟨gx, 0, none⟩), .pointer (some ⟨gy, 0, none⟩)] W fun e w' => e = .returned (.pointer (some ⟨gz, 0, none⟩)) ∧ RaC 125 w' gz (x + y) ∧ Kp1 W gz w' := by
 obtain ⟨z0, z1, z2, bz⟩ := hz.out; refine (eradd gz gx gy _ _ _ x y _ bz hx.out hy.out (Nat.le_trans sx.out.1 hL) (Nat.le_trans sx.out.2 hL) (Nat.le_trans sy.out.1 hM) (Nat.le_trans sy.out.2 hM) ).mono ?_
 rintro e w' ⟨rfl, h1, h2⟩; exact ⟨rfl, ⟨h1⟩, ⟨h2⟩⟩
theorem erSubC {W : World} {gz gx gy : Nat} {x y : _root_.Rat} {L M : Nat} [hz : Blk' 125 W gz] [hx : RaC 125 W gx x] [hy : RaC 125 W gy y] [sx : SmC x L] [sy : SmC y M] (hL : L ≤ 17179869184) (hM : M ≤ 17179869184) :
 Calls Tryz.prog 119 #[.pointer (some ⟨gz, 0, none⟩), .pointer (some ⟨gx, 0, none⟩), .pointer (some ⟨gy, 0, none⟩)] W fun e w' => e = .returned (.pointer (some ⟨gz, 0, none⟩)) ∧ RaC 125 w' gz (x - y) ∧ Kp1 W gz w' := by
 obtain ⟨z0, z1, z2, bz⟩ := hz.out; refine (ersub gz gx gy _ _ _ x y _ bz hx.out hy.out (Nat.le_trans sx.out.1 hL) (Nat.le_trans sx.out.2 hL) (Nat.le_trans sy.out.1 hM) (Nat.le_trans sy.out.2 hM) ).mono ?_
 rintro e w' ⟨rfl, h1, h2⟩; exact ⟨rfl, ⟨h1⟩, ⟨h2⟩⟩
theorem brNegC {W : World} {gz gx : Nat} {x : _root_.Rat} {L : Nat} [hz : Blk' 88 W gz] [hx : RaC 88 W gx x] [sx : SmC x L] (hL : L ≤ 1099511627776) :
 Calls Tryz.prog 134 #[.pointer (some ⟨gz, 0, none⟩), .pointer (some ⟨gx, 0, none⟩)] W fun e w' => e = .returned (.pointer (some ⟨gz, 0, none⟩)) ∧ RaC 88 w' gz (-x) ∧ Kp1 W gz w' := by
 obtain ⟨z0, z1, z2, bz⟩ := hz.out; refine (brneg gz gx _ _ _ x _ bz hx.out (Nat.le_trans sx.out.1 hL) (Nat.le_trans sx.out.2 hL)).mono ?_
 rintro e w' ⟨rfl, h1, h2⟩; exact ⟨rfl, ⟨h1⟩, ⟨h2⟩⟩
theorem erNegC {W : World} {gz gx : Nat} {x : _root_.Rat} {L : Nat} [hz : Blk' 125 W gz] [hx : RaC 125 W gx x] [sx : SmC x L] (hL : L ≤ 1099511627776) :
 Calls Tryz.prog 98 #[.pointer (some ⟨gz, 0, none⟩), .pointer (some ⟨gx, 0, none⟩)] W fun e w' => e = .returned (.pointer (some ⟨gz, 0, none⟩)) ∧ RaC 125 w' gz (-x) ∧ Kp1 W gz w' := by
 obtain ⟨z0, z1, z2, bz⟩ := hz.out; refine (erneg gz gx _ _ _ x _ bz hx.out (Nat.le_trans sx.out.1 hL) (Nat.le_trans sx.out.2 hL)).mono ?_
 rintro e w' ⟨rfl, h1, h2⟩; exact ⟨rfl, ⟨h1⟩, ⟨h2⟩⟩
theorem erAbsC {W : World} {gz gx : Nat} {x : _root_.Rat} {L : Nat} [hz : Blk' 125 W gz] [hx : RaC 125 W gx x] [sx : SmC x L] (hL : L ≤ 1099511627776) :
 Calls Tryz.prog 175 #[.pointer (some ⟨gz, 0, none⟩), .pointer (some ⟨gx, 0, none⟩)] W fun e w' => e = .returned (.pointer (some ⟨gz, 0, none⟩)) ∧ RaC 125 w' gz (rabs x) ∧ Kp1 W gz w' := by
 obtain ⟨z0, z1, z2, bz⟩ := hz.out; refine (erabs gz gx _ _ _ x _ bz hx.out (Nat.le_trans sx.out.1 hL) (Nat.le_trans sx.out.2 hL)).mono ?_
 rintro e w' ⟨rfl, h1, h2⟩; exact ⟨rfl, ⟨h1⟩, ⟨h2⟩⟩
theorem erSetC {W : World} {gz gx : Nat} {x : _root_.Rat} {L : Nat} [hz : Blk' 125 W gz] [hx : RaC 125 W gx x] [sx : SmC x L] (hL : L ≤ 1099511627776) :
 Calls Tryz.prog 145 #[.pointer (some ⟨gz, 0, none⟩), .pointer (some ⟨gx, 0, none⟩)] W fun e w' => e = .returned (.pointer (some ⟨gz, 0, none⟩)) ∧ RaC 125 w' gz (x) ∧ Kp1 W gz w' := by
 obtain ⟨z0, z1, z2, bz⟩ := hz.out; refine (erSet gz gx _ _ _ x _ bz hx.out (Nat.le_trans sx.out.1 hL) (Nat.le_trans sx.out.2 hL)).mono ?_
 rintro e w' ⟨rfl, h1, h2⟩; exact ⟨rfl, ⟨h1⟩, ⟨h2⟩⟩
theorem bFloatC {W : World} {gz : Nat} {b : Nat} [hz : Blk' 88 W gz] [vr : VrC W] (hb : b < 18446744073709551616) (hf : fexp b ≠ 2047) :
 Calls Tryz.prog 105 #[.pointer (some ⟨gz, 0, none⟩), .float .f64 b] W fun e w' => e = .returned (.pointer (some ⟨gz, 0, none⟩)) ∧ RaC 88 w' gz (frat b) ∧ Kp1 W gz w' := by
 obtain ⟨z0, z1, z2, bz⟩ := hz.out; refine (bsetfloat gz _ _ _ _ _ bz hb hf vr.out).mono ?_
 rintro e w' ⟨rfl, h1, h2⟩; exact ⟨rfl, ⟨h1⟩, ⟨h2⟩⟩
theorem eFloatC {W : World} {gz : Nat} {b : Nat} [hz : Blk' 125 W gz] (hb : b < 18446744073709551616) (hf : fexp b ≠ 2047) :
 Calls Tryz.prog 160 #[.pointer (some ⟨gz, 0, none⟩), .float .f64 b] W fun e w' => e = .returned (.pointer (some ⟨gz, 0, none⟩)) ∧ RaC 125 w' gz (frat b) ∧ Kp1 W gz w' := by
 obtain ⟨z0, z1, z2, bz⟩ := hz.out; refine (esetfloat gz _ _ _ _ _ bz hb hf).mono ?_
 rintro e w' ⟨rfl, h1, h2⟩; exact ⟨rfl, ⟨h1⟩, ⟨h2⟩⟩
theorem bInt64C {W : World} {gz : Nat} {x : Int} [hz : Blk' 88 W gz] (h1 : -9223372036854775808 ≤ x) (h2 : x < 9223372036854775808) :
 Calls Tryz.prog 80 #[.pointer (some ⟨gz, 0, none⟩), .int .i64 x] W fun e w' => e = .returned (.pointer (some ⟨gz, 0, none⟩)) ∧ RaC 88 w' gz ((x : _root_.Rat)) ∧ Kp1 W gz w' := by
 obtain ⟨z0, z1, z2, bz⟩ := hz.out; refine (brsetint64 gz _ _ _ _ _ bz h1 h2).mono ?_
 rintro e w' ⟨rfl, h1, h2⟩; exact ⟨rfl, ⟨h1⟩, ⟨h2⟩⟩
theorem eInt64C {W : World} {gz : Nat} {x : Int} [hz : Blk' 125 W gz] (h1 : -9223372036854775808 ≤ x) (h2 : x < 9223372036854775808) :
 Calls Tryz.prog 81 #[.pointer (some ⟨gz, 0, none⟩), .int .i64 x] W fun e w' => e = .returned (.pointer (some ⟨gz, 0, none⟩)) ∧ RaC 125 w' gz ((x : _root_.Rat)) ∧ Kp1 W gz w' := by
 obtain ⟨z0, z1, z2, bz⟩ := hz.out; refine (ersetint64 gz _ _ _ _ _ bz h1 h2).mono ?_
 rintro e w' ⟨rfl, h1, h2⟩; exact ⟨rfl, ⟨h1⟩, ⟨h2⟩⟩
def strN (n : Int) : ByteArray := ⟨(itext n).toArray⟩
theorem padf1_0 : padf 1 0 = [48] := by unfold padf; rw [figs_0]; rfl
def longN (n : Int) : Bool := decide (16384 < (afterS (strN n)).size)
def toldE (x y : _root_.Rat) : Int := if longN x.num || longN x.den || longN y.num || longN y.den then 4 else 0
theorem check_zero {a b c d : ByteArray} (h : checkE a b c d = 0) : textE a false = 0 ∧ textE b true = 0 ∧ textE c false = 0 ∧ textE d true = 0 ∧ sameT a b = true ∧ sameT c d = true := by
 unfold checkE at h; by_cases h1 : textE a false = 0
 · rw [if_neg (by omega)] at h
   by_cases h2 : textE b true = 0
   · rw [if_neg (by omega)] at h
     by_cases h3 : textE c false = 0
     · rw [if_neg (by omega)] at h
       by_cases h4 : textE d true = 0
       · rw [if_neg (by omega)] at h
         by_cases h5 : sameT a b = true ∧ sameT c d = true
         · exact ⟨h1, h2, h3, h4, h5⟩
         · rw [if_neg h5] at h; cases h
       · rw [if_pos h4] at h; exact absurd h h4
     · rw [if_pos h3] at h; exact absurd h h3
   · rw [if_pos h2] at h; exact absurd h h2
 · rw [if_pos h1] at h; exact absurd h h1
theorem check_okT {a b c d : ByteArray} (h : checkE a b c d = 0) : okT a b ∧ okT c d := by
 obtain ⟨h1, h2, h3, h4, -, -⟩ := check_zero h; exact ⟨⟨h1, h2⟩, ⟨h3, h4⟩⟩
@[go_sem] theorem cell_setNN (w : World) (n k i j : Nat) (v : Value) [e : NeN n k] : (w.setCell ⟨k, i, none⟩ v).cell? ⟨n, j, none⟩ = w.cell? ⟨n, j, none⟩ := World.cell?_of_block (w := w) (block_ne _ _ _ _ _ e.out)
instance has_bk (w : World) (g : Nat) (L : List Value) (T : Nat) [h : BkC w g L T] : Has w g := ⟨h.out.lt⟩
theorem strN_size {n : Int} {L : Nat} (h : (words n.natAbs).length ≤ L) (hL : L ≤ 67108864) : (strN n).size ≤ maxLen := by
 have h1 : (padf 1 n.natAbs).length ≤ 32 * L + 1 := by
  by_cases h0 : n.natAbs = 0
  · rw [h0, padf1_0, List.length_singleton]; omega
  · rw [padf1 h0]; have h2 := words_lt n.natAbs
    have h3 : n.natAbs < 10 ^ (32 * L) := by
     refine Nat.lt_of_lt_of_le h2 ?_
     rw [show (4294967296 : Nat) = 2 ^ 32 from rfl, ← Nat.pow_mul]
     exact Nat.le_trans (Nat.pow_le_pow_right (by decide) (Nat.mul_le_mul_left 32 h)) (Nat.pow_le_pow_left (by decide) _)
    have := figs_len.1 h3; omega
 have h4 : (strN n).size = (itext n).length := bytes_len _ _ rfl; rw [h4]; unfold itext maxLen
 split
 · rw [List.length_cons]; omega
 · omega
def tS (x y : _root_.Rat) (s : ByteArray) : ByteArray := if toldE x y = 0 then s else ⟨#[]⟩
theorem btellC {W : World} {g : Nat} {r : _root_.Rat} {L : Nat} [h : RaC 88 W g r] [s : SmC r L] (hL : L ≤ 67108864) : Calls Tryz.prog 89 #[.pointer (some ⟨g, 0, none⟩)] W fun e w' => e = .returned (.agg #[.string (strN r.num), .string (strN r.den)]) ∧ Kp0 W w' := by
 refine (btellF g r W h.out (Nat.le_trans s.out.1 hL) (Nat.le_trans s.out.2 hL)).mono ?_
 rintro e w' ⟨rfl, hb⟩; exact ⟨rfl, ⟨hb⟩⟩
theorem toldE_4 {x y : _root_.Rat} (h : 16384 < (afterS (strN x.num)).size ∨ 16384 < (afterS (strN x.den)).size ∨ 16384 < (afterS (strN y.num)).size ∨ 16384 < (afterS (strN y.den)).size) : toldE x y = 4 := by
 unfold toldE longN; rw [if_pos]; simp only [Bool.or_eq_true, decide_eq_true_eq]; omega
theorem toldE_0 {x y : _root_.Rat} (h1 : ¬ 16384 < (afterS (strN x.num)).size) (h2 : ¬ 16384 < (afterS (strN x.den)).size) (h3 : ¬ 16384 < (afterS (strN y.num)).size) (h4 : ¬ 16384 < (afterS (strN y.den)).size) : toldE x y = 0 := by
 unfold toldE longN; rw [if_neg]; simp only [Bool.or_eq_true, decide_eq_true_eq]; omega
class SzC (s : ByteArray) : Prop where
 out : s.size ≤ maxLen
section
variable {P : Program} {fn : Func} {R : Ending → World → Prop} {a : Act} {w : World} {p q u : Tmp} {ty : TypeId} {g k : Nat} {L M : List Value} {T T' : Nat} {d : TypeDesc}
theorem ret_cell2_tmp (h : fn.results = #[.cell p ty, .cell q ty, .tmp u]) (hd0 : a.defers = []) (hp : a.tmps.getD p undef = .pointer (some ⟨g, 0, none⟩)) (hq : a.tmps.getD q undef = .pointer (some ⟨k, 0, none⟩)) [hb : BkC w g L T] [hc : BkC w k M T'] (hu : P.underlying ty = some d) (hd : (match d with | .struct _ | .array _ _ => true | _ => false) = true) (hi : (P.info? ty).map (·.size) = some L.toArray.size) (hi' : (P.info? ty).map (·.size) = some M.toArray.size)
 (hR : R (.returned (.tuple #[.agg L.toArray, .agg M.toArray, a.tmps.getD u undef])) w) : bodyPost P fn R .ret a w :=
 bodyPost_ret (results_row2_tmp h _ _ g k T T' L.toArray M.toArray (0, 0) (0, 0) d hp hb.out.1 hq hc.out.1 hu hd hi hi') hd0 hR
end
theorem smC_rval {a b c d : ByteArray} (h : checkE a b c d = 0) : SmC (rval a b) 16384 ∧ SmC (rval c d) 16384 := by
 obtain ⟨h1, h2⟩ := check_okT h; exact ⟨⟨rval_small h1⟩, ⟨rval_small h2⟩⟩
theorem gaOneBad {a b c d : ByteArray} {E : Int} {w : World} [sa : SzC a] [sb : SzC b] [sc : SzC c] [sd : SzC d] [hv : VrC w] (h : checkE a b c d = E) (h0 : E ≠ 0) :
 Calls Tryz.prog 75 #[.agg #[.string a, .string b, .string c, .string d]] w fun e w' => e = .returned (.tuple #[.agg #[.pointer none, .pointer none], .int .i64 E]) ∧ Kp0 w w' := by
 refine (boneX a b c d w sa.out sb.out sc.out sd.out hv.out).mono ?_
 rintro e w' ⟨hb, v, rfl, h1, -⟩; rw [h] at h1; rw [h1 h0, h]; exact ⟨rfl, ⟨hb⟩⟩
theorem gaOneOk {a b c d : ByteArray} {w : World} [sa : SzC a] [sb : SzC b] [sc : SzC c] [sd : SzC d] [hv : VrC w] (h : checkE a b c d = 0) :
 Calls Tryz.prog 75 #[.agg #[.string a, .string b, .string c, .string d]] w fun e w' => ∃ i j, e = .returned (.tuple #[.agg #[.pointer (some ⟨i, 0, none⟩), .pointer (some ⟨j, 0, none⟩)], .int .i64 0]) ∧ RaC 88 w' i (rval a b) ∧ RaC 88 w' j (rval c d) ∧ Kp0 w w' := by
 refine (boneX a b c d w sa.out sb.out sc.out sd.out hv.out).mono ?_
 rintro e w' ⟨hb, v, rfl, -, h2⟩; obtain ⟨i, j, rfl, -, -, hx, hy⟩ := h2 h; rw [h]; exact ⟨i, j, rfl, ⟨hx⟩, ⟨hy⟩, ⟨hb⟩⟩
theorem gaTwoOkB {a b c d a' b' c' d' : ByteArray} {w : World} [sa : SzC a] [sb : SzC b] [sc : SzC c] [sd : SzC d] [sa' : SzC a'] [sb' : SzC b'] [sc' : SzC c'] [sd' : SzC d'] [hv : VrB w] (h1 : checkE a b c d = 0) (h2 : checkE a' b' c' d' = 0) :
 Calls Tryz.prog 83 #[.agg #[.string a, .string b, .string c, .string d], .agg #[.string a', .string b', .string c', .string d']] w fun e w' => ∃ i j i' j', e = .returned (.tuple #[.agg #[.pointer (some ⟨i, 0, none⟩), .pointer (some ⟨j, 0, none⟩)], .agg #[.pointer (some ⟨i', 0, none⟩), .pointer (some ⟨j', 0, none⟩)], .int .i64 0]) ∧ RaC 88 w' i (rval a b) ∧ RaC 88 w' j (rval c d) ∧ RaC 88 w' i' (rval a' b') ∧ RaC 88 w' j' (rval c' d') ∧ Kp0 w w' := by
 go_enter Tryz.func83, Tryz.ntmps83; go_wp2_with (first | (go_at_call 75; (with_reducible refine Calls.mono (gaOneOk (a := a) (b := b) (c := c) (d := d) h1) ?_); rintro e wc ⟨i, j, rfl, _, _, _⟩) | (go_at_call 75; (with_reducible refine Calls.mono (gaOneOk (a := a') (b := b') (c := c') (d := d') h2) ?_); rintro e wc ⟨i', j', rfl, _, _, _⟩))
 go_region_held3 (fun W => W.cell? ⟨w.heap.size + 1 + 1, 0, none⟩ = some (.pointer (some ⟨i, 0, none⟩)) ∧ W.cell? ⟨w.heap.size + 1 + 1, 1, none⟩ = some (.pointer (some ⟨j, 0, none⟩)) ∧ W.cell? ⟨w.heap.size + 1 + 1 + 1, 0, none⟩ = some (.pointer (some ⟨i', 0, none⟩)) ∧ W.cell? ⟨w.heap.size + 1 + 1 + 1, 1, none⟩ = some (.pointer (some ⟨j', 0, none⟩))) (refine ⟨?_, ?_, ?_, ?_⟩ <;> (first | exact Bk.cell BkC.out rfl | (simp [go_sem]; done))) (fail)
 all_goals (go_wp2_with fail)
 all_goals (refine ret_cell2_tmp rfl rfl rfl rfl (by rfl) (by rfl) (by rfl) (by rfl) ?_; exact ⟨_, _, _, _, rfl, inferInstance, inferInstance, inferInstance, inferInstance, ⟨Gr.out⟩⟩)
theorem gaTwoOk {a b c d a' b' c' d' : ByteArray} {w : World} [sa : SzC a] [sb : SzC b] [sc : SzC c] [sd : SzC d] [sa' : SzC a'] [sb' : SzC b'] [sc' : SzC c'] [sd' : SzC d'] [hv : VrC w] (h1 : checkE a b c d = 0) (h2 : checkE a' b' c' d' = 0) :
 Calls Tryz.prog 83 #[.agg #[.string a, .string b, .string c, .string d], .agg #[.string a', .string b', .string c', .string d']] w fun e w' => ∃ i j i' j', e = .returned (.tuple #[.agg #[.pointer (some ⟨i, 0, none⟩), .pointer (some ⟨j, 0, none⟩)], .agg #[.pointer (some ⟨i', 0, none⟩), .pointer (some ⟨j', 0, none⟩)], .int .i64 0]) ∧ RaC 88 w' i (rval a b) ∧ RaC 88 w' j (rval c d) ∧ RaC 88 w' i' (rval a' b') ∧ RaC 88 w' j' (rval c' d') ∧ Kp0 w w' := gaTwoOkB (hv := ⟨hv.out⟩) h1 h2
theorem gaBothA {w : World} {g k g' k' : Nat} {x y x' y' : _root_.Rat} [hx : RaC 88 w g x] [hy : RaC 88 w k y] [hx' : RaC 88 w g' x'] [hy' : RaC 88 w k' y'] [sx : SmC x 4294967296] [sy : SmC y 4294967296] [sx' : SmC x' 4294967296] [sy' : SmC y' 4294967296] [hvr : VrB w] :
 Calls Tryz.prog 109 #[.func (.func 108) #[] #[], .agg #[.pointer (some ⟨g, 0, none⟩), .pointer (some ⟨k, 0, none⟩)], .agg #[.pointer (some ⟨g', 0, none⟩), .pointer (some ⟨k', 0, none⟩)]] w fun e w' => ∃ i j, e = .returned (.agg #[.pointer (some ⟨i, 0, none⟩), .pointer (some ⟨j, 0, none⟩)]) ∧ RaC 88 w' i (x + x') ∧ RaC 88 w' j (y + y') ∧ Kp0 w w' := by
 go_enter Tryz.func109, Tryz.ntmps109; go_wp2_with fail
 go_region_held3 (fun W => W.cell? ⟨w.heap.size, 0, none⟩ = some (.pointer (some ⟨g, 0, none⟩)) ∧ W.cell? ⟨w.heap.size, 1, none⟩ = some (.pointer (some ⟨k, 0, none⟩)) ∧ W.cell? ⟨w.heap.size + 1, 0, none⟩ = some (.pointer (some ⟨g', 0, none⟩)) ∧ W.cell? ⟨w.heap.size + 1, 1, none⟩ = some (.pointer (some ⟨k', 0, none⟩))) (refine ⟨?_, ?_, ?_, ?_⟩ <;> (first | exact Bk.cell BkC.out rfl | (simp [go_sem]; done))) (first | (go_at_call 106; (with_reducible refine Calls.mono (brMulC (by decide) (by decide)) ?_); rintro e wc ⟨rfl, _, _⟩) | (go_at_call 107; (with_reducible refine Calls.mono (brSubC (by decide) (by decide)) ?_); rintro e wc ⟨rfl, _, _⟩) | (go_at_call 108; (with_reducible refine Calls.mono (brAddC (by decide) (by decide)) ?_); rintro e wc ⟨rfl, _, _⟩))
 all_goals (go_wp2_with fail; refine ret_cell rfl rfl rfl (by rfl) (by rfl) (by rfl) ?_; exact ⟨_, _, rfl, inferInstance, inferInstance, ⟨Gr.out⟩⟩)
theorem gaBothAC {w : World} {g k g' k' : Nat} {x y x' y' : _root_.Rat} {L M L' M' : Nat} [hx : RaC 88 w g x] [hy : RaC 88 w k y] [hx' : RaC 88 w g' x'] [hy' : RaC 88 w k' y'] [sx : SmC x L] [sy : SmC y M] [sx' : SmC x' L'] [sy' : SmC y' M'] [hvr : VrC w] (h1 : L ≤ 4294967296) (h2 : M ≤ 4294967296) (h3 : L' ≤ 4294967296) (h4 : M' ≤ 4294967296) :
 Calls Tryz.prog 109 #[.func (.func 108) #[] #[], .agg #[.pointer (some ⟨g, 0, none⟩), .pointer (some ⟨k, 0, none⟩)], .agg #[.pointer (some ⟨g', 0, none⟩), .pointer (some ⟨k', 0, none⟩)]] w fun e w' => ∃ i j, e = .returned (.agg #[.pointer (some ⟨i, 0, none⟩), .pointer (some ⟨j, 0, none⟩)]) ∧ RaC 88 w' i (x + x') ∧ RaC 88 w' j (y + y') ∧ Kp0 w w' := gaBothA (sx := ⟨sx.out.mono h1⟩) (sy := ⟨sy.out.mono h2⟩) (sx' := ⟨sx'.out.mono h3⟩) (sy' := ⟨sy'.out.mono h4⟩) (hvr := ⟨hvr.out⟩)
theorem gaBothS {w : World} {g k g' k' : Nat} {x y x' y' : _root_.Rat} [hx : RaC 88 w g x] [hy : RaC 88 w k y] [hx' : RaC 88 w g' x'] [hy' : RaC 88 w k' y'] [sx : SmC x 4294967296] [sy : SmC y 4294967296] [sx' : SmC x' 4294967296] [sy' : SmC y' 4294967296] [hvr : VrB w] :
 Calls Tryz.prog 109 #[.func (.func 107) #[] #[], .agg #[.pointer (some ⟨g, 0, none⟩), .pointer (some ⟨k, 0, none⟩)], .agg #[.pointer (some ⟨g', 0, none⟩), .pointer (some ⟨k', 0, none⟩)]] w fun e w' => ∃ i j, e = .returned (.agg #[.pointer (some ⟨i, 0, none⟩), .pointer (some ⟨j, 0, none⟩)]) ∧ RaC 88 w' i (x - x') ∧ RaC 88 w' j (y - y') ∧ Kp0 w w' := by
 go_enter Tryz.func109, Tryz.ntmps109; go_wp2_with fail
 go_region_held3 (fun W => W.cell? ⟨w.heap.size, 0, none⟩ = some (.pointer (some ⟨g, 0, none⟩)) ∧ W.cell? ⟨w.heap.size, 1, none⟩ = some (.pointer (some ⟨k, 0, none⟩)) ∧ W.cell? ⟨w.heap.size + 1, 0, none⟩ = some (.pointer (some ⟨g', 0, none⟩)) ∧ W.cell? ⟨w.heap.size + 1, 1, none⟩ = some (.pointer (some ⟨k', 0, none⟩))) (refine ⟨?_, ?_, ?_, ?_⟩ <;> (first | exact Bk.cell BkC.out rfl | (simp [go_sem]; done))) (first | (go_at_call 106; (with_reducible refine Calls.mono (brMulC (by decide) (by decide)) ?_); rintro e wc ⟨rfl, _, _⟩) | (go_at_call 107; (with_reducible refine Calls.mono (brSubC (by decide) (by decide)) ?_); rintro e wc ⟨rfl, _, _⟩) | (go_at_call 108; (with_reducible refine Calls.mono (brAddC (by decide) (by decide)) ?_); rintro e wc ⟨rfl, _, _⟩))
 all_goals (go_wp2_with fail; refine ret_cell rfl rfl rfl (by rfl) (by rfl) (by rfl) ?_; exact ⟨_, _, rfl, inferInstance, inferInstance, ⟨Gr.out⟩⟩)
theorem gaBothSC {w : World} {g k g' k' : Nat} {x y x' y' : _root_.Rat} {L M L' M' : Nat} [hx : RaC 88 w g x] [hy : RaC 88 w k y] [hx' : RaC 88 w g' x'] [hy' : RaC 88 w k' y'] [sx : SmC x L] [sy : SmC y M] [sx' : SmC x' L'] [sy' : SmC y' M'] [hvr : VrC w] (h1 : L ≤ 4294967296) (h2 : M ≤ 4294967296) (h3 : L' ≤ 4294967296) (h4 : M' ≤ 4294967296) :
 Calls Tryz.prog 109 #[.func (.func 107) #[] #[], .agg #[.pointer (some ⟨g, 0, none⟩), .pointer (some ⟨k, 0, none⟩)], .agg #[.pointer (some ⟨g', 0, none⟩), .pointer (some ⟨k', 0, none⟩)]] w fun e w' => ∃ i j, e = .returned (.agg #[.pointer (some ⟨i, 0, none⟩), .pointer (some ⟨j, 0, none⟩)]) ∧ RaC 88 w' i (x - x') ∧ RaC 88 w' j (y - y') ∧ Kp0 w w' := gaBothS (sx := ⟨sx.out.mono h1⟩) (sy := ⟨sy.out.mono h2⟩) (sx' := ⟨sx'.out.mono h3⟩) (sy' := ⟨sy'.out.mono h4⟩) (hvr := ⟨hvr.out⟩)
theorem gaAdd {w : World} {g k g' k' : Nat} {x y x' y' : _root_.Rat} [hx : RaC 88 w g x] [hy : RaC 88 w k y] [hx' : RaC 88 w g' x'] [hy' : RaC 88 w k' y'] [sx : SmC x 4294967296] [sy : SmC y 4294967296] [sx' : SmC x' 4294967296] [sy' : SmC y' 4294967296] [hvr : VrB w] :
 Calls Tryz.prog 56 #[.agg #[.pointer (some ⟨g, 0, none⟩), .pointer (some ⟨k, 0, none⟩)], .agg #[.pointer (some ⟨g', 0, none⟩), .pointer (some ⟨k', 0, none⟩)]] w fun e w' => ∃ i j, e = .returned (.agg #[.pointer (some ⟨i, 0, none⟩), .pointer (some ⟨j, 0, none⟩)]) ∧ RaC 88 w' i (x + x') ∧ RaC 88 w' j (y + y') ∧ Kp0 w w' := by
 go_enter Tryz.func56, Tryz.ntmps56; go_wp2_with (first | (go_at_call 109; (with_reducible refine Calls.mono (gaBothAC (by decide) (by decide) (by decide) (by decide)) ?_); rintro e wc ⟨_, _, rfl, _, _, _⟩))
 refine ret_cell rfl rfl rfl (by rfl) (by rfl) (by rfl) ?_
 exact ⟨_, _, rfl, inferInstance, inferInstance, ⟨Gr.out⟩⟩
theorem gaAddC {w : World} {g k g' k' : Nat} {x y x' y' : _root_.Rat} {L M L' M' : Nat} [hx : RaC 88 w g x] [hy : RaC 88 w k y] [hx' : RaC 88 w g' x'] [hy' : RaC 88 w k' y'] [sx : SmC x L] [sy : SmC y M] [sx' : SmC x' L'] [sy' : SmC y' M'] [hvr : VrC w] (h1 : L ≤ 4294967296) (h2 : M ≤ 4294967296) (h3 : L' ≤ 4294967296) (h4 : M' ≤ 4294967296) :
 Calls Tryz.prog 56 #[.agg #[.pointer (some ⟨g, 0, none⟩), .pointer (some ⟨k, 0, none⟩)], .agg #[.pointer (some ⟨g', 0, none⟩), .pointer (some ⟨k', 0, none⟩)]] w fun e w' => ∃ i j, e = .returned (.agg #[.pointer (some ⟨i, 0, none⟩), .pointer (some ⟨j, 0, none⟩)]) ∧ RaC 88 w' i (x + x') ∧ RaC 88 w' j (y + y') ∧ Kp0 w w' := gaAdd (sx := ⟨sx.out.mono h1⟩) (sy := ⟨sy.out.mono h2⟩) (sx' := ⟨sx'.out.mono h3⟩) (sy' := ⟨sy'.out.mono h4⟩) (hvr := ⟨hvr.out⟩)
theorem gaSub {w : World} {g k g' k' : Nat} {x y x' y' : _root_.Rat} [hx : RaC 88 w g x] [hy : RaC 88 w k y] [hx' : RaC 88 w g' x'] [hy' : RaC 88 w k' y'] [sx : SmC x 4294967296] [sy : SmC y 4294967296] [sx' : SmC x' 4294967296] [sy' : SmC y' 4294967296] [hvr : VrB w] :
 Calls Tryz.prog 65 #[.agg #[.pointer (some ⟨g, 0, none⟩), .pointer (some ⟨k, 0, none⟩)], .agg #[.pointer (some ⟨g', 0, none⟩), .pointer (some ⟨k', 0, none⟩)]] w fun e w' => ∃ i j, e = .returned (.agg #[.pointer (some ⟨i, 0, none⟩), .pointer (some ⟨j, 0, none⟩)]) ∧ RaC 88 w' i (x - x') ∧ RaC 88 w' j (y - y') ∧ Kp0 w w' := by
 go_enter Tryz.func65, Tryz.ntmps65; go_wp2_with (first | (go_at_call 109; (with_reducible refine Calls.mono (gaBothSC (by decide) (by decide) (by decide) (by decide)) ?_); rintro e wc ⟨_, _, rfl, _, _, _⟩))
 refine ret_cell rfl rfl rfl (by rfl) (by rfl) (by rfl) ?_
 exact ⟨_, _, rfl, inferInstance, inferInstance, ⟨Gr.out⟩⟩
theorem gaSubC {w : World} {g k g' k' : Nat} {x y x' y' : _root_.Rat} {L M L' M' : Nat} [hx : RaC 88 w g x] [hy : RaC 88 w k y] [hx' : RaC 88 w g' x'] [hy' : RaC 88 w k' y'] [sx : SmC x L] [sy : SmC y M] [sx' : SmC x' L'] [sy' : SmC y' M'] [hvr : VrC w] (h1 : L ≤ 4294967296) (h2 : M ≤ 4294967296) (h3 : L' ≤ 4294967296) (h4 : M' ≤ 4294967296) :
 Calls Tryz.prog 65 #[.agg #[.pointer (some ⟨g, 0, none⟩), .pointer (some ⟨k, 0, none⟩)], .agg #[.pointer (some ⟨g', 0, none⟩), .pointer (some ⟨k', 0, none⟩)]] w fun e w' => ∃ i j, e = .returned (.agg #[.pointer (some ⟨i, 0, none⟩), .pointer (some ⟨j, 0, none⟩)]) ∧ RaC 88 w' i (x - x') ∧ RaC 88 w' j (y - y') ∧ Kp0 w w' := gaSub (sx := ⟨sx.out.mono h1⟩) (sy := ⟨sy.out.mono h2⟩) (sx' := ⟨sx'.out.mono h3⟩) (sy' := ⟨sy'.out.mono h4⟩) (hvr := ⟨hvr.out⟩)
theorem gaMul {w : World} {g k g' k' : Nat} {x y x' y' : _root_.Rat} [hx : RaC 88 w g x] [hy : RaC 88 w k y] [hx' : RaC 88 w g' x'] [hy' : RaC 88 w k' y'] [sx : SmC x 4294967296] [sy : SmC y 4294967296] [sx' : SmC x' 4294967296] [sy' : SmC y' 4294967296] [hvr : VrB w] :
 Calls Tryz.prog 55 #[.agg #[.pointer (some ⟨g, 0, none⟩), .pointer (some ⟨k, 0, none⟩)], .agg #[.pointer (some ⟨g', 0, none⟩), .pointer (some ⟨k', 0, none⟩)]] w fun e w' => ∃ i j, e = .returned (.agg #[.pointer (some ⟨i, 0, none⟩), .pointer (some ⟨j, 0, none⟩)]) ∧ RaC 88 w' i (x * x' - y * y') ∧ RaC 88 w' j (x * y' + y * x') ∧ Kp0 w w' := by
 go_enter Tryz.func55, Tryz.ntmps55; go_wp2_with (first | (go_at_call 106; (with_reducible refine Calls.mono (brMulC (by decide) (by decide)) ?_); rintro e wc ⟨rfl, _, _⟩) | (go_at_call 107; (with_reducible refine Calls.mono (brSubC (by decide) (by decide)) ?_); rintro e wc ⟨rfl, _, _⟩) | (go_at_call 108; (with_reducible refine Calls.mono (brAddC (by decide) (by decide)) ?_); rintro e wc ⟨rfl, _, _⟩))
 refine ret_cell rfl rfl rfl (by rfl) (by rfl) (by rfl) ?_
 exact ⟨_, _, rfl, inferInstance, inferInstance, ⟨Gr.out⟩⟩
theorem gaMulC {w : World} {g k g' k' : Nat} {x y x' y' : _root_.Rat} {L M L' M' : Nat} [hx : RaC 88 w g x] [hy : RaC 88 w k y] [hx' : RaC 88 w g' x'] [hy' : RaC 88 w k' y'] [sx : SmC x L] [sy : SmC y M] [sx' : SmC x' L'] [sy' : SmC y' M'] [hvr : VrC w] (h1 : L ≤ 4294967296) (h2 : M ≤ 4294967296) (h3 : L' ≤ 4294967296) (h4 : M' ≤ 4294967296) :
 Calls Tryz.prog 55 #[.agg #[.pointer (some ⟨g, 0, none⟩), .pointer (some ⟨k, 0, none⟩)], .agg #[.pointer (some ⟨g', 0, none⟩), .pointer (some ⟨k', 0, none⟩)]] w fun e w' => ∃ i j, e = .returned (.agg #[.pointer (some ⟨i, 0, none⟩), .pointer (some ⟨j, 0, none⟩)]) ∧ RaC 88 w' i (x * x' - y * y') ∧ RaC 88 w' j (x * y' + y * x') ∧ Kp0 w w' := gaMul (sx := ⟨sx.out.mono h1⟩) (sy := ⟨sy.out.mono h2⟩) (sx' := ⟨sx'.out.mono h3⟩) (sy' := ⟨sy'.out.mono h4⟩) (hvr := ⟨hvr.out⟩)
@[go_sem] theorem run_field82_0 (i j : Nat) (w : World) : (Instr.field 82 (.agg #[.pointer (some ⟨i, 0, none⟩), .pointer (some ⟨j, 0, none⟩)]) 0).run Tryz.prog w = .ok (.pointer (some ⟨i, 0, none⟩)) w := by kernel_rfl
@[go_sem] theorem run_field82_1 (i j : Nat) (w : World) : (Instr.field 82 (.agg #[.pointer (some ⟨i, 0, none⟩), .pointer (some ⟨j, 0, none⟩)]) 1).run Tryz.prog w = .ok (.pointer (some ⟨j, 0, none⟩)) w := by kernel_rfl
theorem gaConj {w : World} {g k : Nat} {x y : _root_.Rat} [hx : RaC 88 w g x] [hy : RaC 88 w k y] [sx : SmC x 4294967296] [sy : SmC y 4294967296] [hvr : VrB w] :
 Calls Tryz.prog 88 #[.agg #[.pointer (some ⟨g, 0, none⟩), .pointer (some ⟨k, 0, none⟩)]] w fun e w' => ∃ i j, e = .returned (.agg #[.pointer (some ⟨i, 0, none⟩), .pointer (some ⟨j, 0, none⟩)]) ∧ RaC 88 w' i (x) ∧ RaC 88 w' j (-y) ∧ Kp0 w w' := by
 go_enter Tryz.func88, Tryz.ntmps88; go_wp2_with fail
 go_region_held3 (fun W => W.cell? ⟨w.heap.size, 0, none⟩ = some (.pointer (some ⟨g, 0, none⟩)) ∧ W.cell? ⟨w.heap.size, 1, none⟩ = some (.pointer (some ⟨k, 0, none⟩))) (refine ⟨?_, ?_⟩ <;> (first | exact Bk.cell BkC.out rfl | (simp [go_sem]; done))) (first | (go_at_call 134; (with_reducible refine Calls.mono (brNegC (by decide)) ?_); rintro e wc ⟨rfl, _, _⟩))
 all_goals (go_wp2_with fail; refine ret_cell rfl rfl rfl (by rfl) (by rfl) (by rfl) ?_; exact ⟨_, _, rfl, inferInstance, inferInstance, ⟨Gr.out⟩⟩)
theorem gaConjC {w : World} {g k : Nat} {x y : _root_.Rat} {L M : Nat} [hx : RaC 88 w g x] [hy : RaC 88 w k y] [sx : SmC x L] [sy : SmC y M] [hvr : VrC w] (h1 : L ≤ 4294967296) (h2 : M ≤ 4294967296) :
 Calls Tryz.prog 88 #[.agg #[.pointer (some ⟨g, 0, none⟩), .pointer (some ⟨k, 0, none⟩)]] w fun e w' => ∃ i j, e = .returned (.agg #[.pointer (some ⟨i, 0, none⟩), .pointer (some ⟨j, 0, none⟩)]) ∧ RaC 88 w' i (x) ∧ RaC 88 w' j (-y) ∧ Kp0 w w' := gaConj (sx := ⟨sx.out.mono h1⟩) (sy := ⟨sy.out.mono h2⟩) (hvr := ⟨hvr.out⟩)
theorem gaNorm {w : World} {g k : Nat} {x y : _root_.Rat} [hx : RaC 88 w g x] [hy : RaC 88 w k y] [sx : SmC x 4294967296] [sy : SmC y 4294967296] [hvr : VrB w] :
 Calls Tryz.prog 84 #[.agg #[.pointer (some ⟨g, 0, none⟩), .pointer (some ⟨k, 0, none⟩)]] w fun e w' => ∃ i, e = .returned (.pointer (some ⟨i, 0, none⟩)) ∧ RaC 88 w' i (x * x - y * -y) ∧ Kp0 w w' := by
 go_enter Tryz.func84, Tryz.ntmps84; go_wp2_with fail
 go_region_held3 (fun W => W.cell? ⟨w.heap.size, 0, none⟩ = some (.pointer (some ⟨g, 0, none⟩)) ∧ W.cell? ⟨w.heap.size, 1, none⟩ = some (.pointer (some ⟨k, 0, none⟩))) (refine ⟨?_, ?_⟩ <;> (first | exact Bk.cell BkC.out rfl | (simp [go_sem]; done))) (first | (go_at_call 88; (with_reducible refine Calls.mono (gaConjC (by decide) (by decide)) ?_); rintro e wc ⟨_, _, rfl, _, _, _⟩) | (go_at_call 55; (with_reducible refine Calls.mono (gaMulC (by decide) (by decide) (by decide) (by decide)) ?_); rintro e wc ⟨_, _, rfl, _, _, _⟩))
 all_goals (go_wp2_with fail; go_ret; exact ⟨_, rfl, inferInstance, ⟨Gr.out⟩⟩)
theorem gaNormC {w : World} {g k : Nat} {x y : _root_.Rat} {L M : Nat} [hx : RaC 88 w g x] [hy : RaC 88 w k y] [sx : SmC x L] [sy : SmC y M] [hvr : VrC w] (h1 : L ≤ 4294967296) (h2 : M ≤ 4294967296) :
 Calls Tryz.prog 84 #[.agg #[.pointer (some ⟨g, 0, none⟩), .pointer (some ⟨k, 0, none⟩)]] w fun e w' => ∃ i, e = .returned (.pointer (some ⟨i, 0, none⟩)) ∧ RaC 88 w' i (x * x - y * -y) ∧ Kp0 w w' := gaNorm (sx := ⟨sx.out.mono h1⟩) (sy := ⟨sy.out.mono h2⟩) (hvr := ⟨hvr.out⟩)
theorem gaExact {w : World} {a b : Nat} [hvr : VrB w] (ha : a < 18446744073709551616) (hb : b < 18446744073709551616) (fa : fexp a ≠ 2047) (fb : fexp b ≠ 2047) :
 Calls Tryz.prog 54 #[.complex .f64 a b] w fun e w' => ∃ i j, e = .returned (.agg #[.pointer (some ⟨i, 0, none⟩), .pointer (some ⟨j, 0, none⟩)]) ∧ RaC 88 w' i (frat a) ∧ RaC 88 w' j (frat b) ∧ Kp0 w w' := by
 go_enter Tryz.func54, Tryz.ntmps54; go_wp2_with (first | (go_at_call 105; (with_reducible refine Calls.mono (bFloatC ha fa) ?_); rintro e wc ⟨rfl, _, _⟩) | (go_at_call 105; (with_reducible refine Calls.mono (bFloatC hb fb) ?_); rintro e wc ⟨rfl, _, _⟩))
 refine ret_cell rfl rfl rfl (by rfl) (by rfl) (by rfl) ?_
 exact ⟨_, _, rfl, inferInstance, inferInstance, ⟨Gr.out⟩⟩
@[go_sem] theorem run_index153_0 (a b c d : ByteArray) (w : World) : (Instr.index 153 (.agg #[.string a, .string b, .string c, .string d]) (.int .i64 0)).run Tryz.prog w = .ok (.string a) w := by kernel_rfl
@[go_sem] theorem run_index153_1 (a b c d : ByteArray) (w : World) : (Instr.index 153 (.agg #[.string a, .string b, .string c, .string d]) (.int .i64 1)).run Tryz.prog w = .ok (.string b) w := by kernel_rfl
@[go_sem] theorem run_index153_2 (a b c d : ByteArray) (w : World) : (Instr.index 153 (.agg #[.string a, .string b, .string c, .string d]) (.int .i64 2)).run Tryz.prog w = .ok (.string c) w := by kernel_rfl
@[go_sem] theorem run_index153_3 (a b c d : ByteArray) (w : World) : (Instr.index 153 (.agg #[.string a, .string b, .string c, .string d]) (.int .i64 3)).run Tryz.prog w = .ok (.string d) w := by kernel_rfl
theorem gaTold {w : World} {g k : Nat} {x y : _root_.Rat} [hx : RaC 88 w g x] [hy : RaC 88 w k y] [sx : SmC x 67108864] [sy : SmC y 67108864] :
 Calls Tryz.prog 57 #[.agg #[.pointer (some ⟨g, 0, none⟩), .pointer (some ⟨k, 0, none⟩)]] w fun e w' => e = .returned (.tuple #[.agg #[.string (tS x y (strN x.num)), .string (tS x y (strN x.den)), .string (tS x y (strN y.num)), .string (tS x y (strN y.den))], .int .i64 (toldE x y)]) ∧ Kp0 w w' := by
 have LG0 := hid (fun v : World => blong (strN x.num) (strN_size sx.out.1 (Nat.le_refl _)) v)
 have LG1 := hid (fun v : World => blong (strN x.den) (strN_size sx.out.2 (Nat.le_refl _)) v)
 have LG2 := hid (fun v : World => blong (strN y.num) (strN_size sy.out.1 (Nat.le_refl _)) v)
 have LG3 := hid (fun v : World => blong (strN y.den) (strN_size sy.out.2 (Nat.le_refl _)) v)
 obtain ⟨E, hE⟩ : ∃ E, E = toldE x y := ⟨_, rfl⟩; have T4 := hid (fun h => hE.trans (toldE_4 (x := x) (y := y) h))
 have T0 := hid (fun h1 h2 h3 h4 => hE.trans (toldE_0 (x := x) (y := y) h1 h2 h3 h4))
 have HE := hid hE; clear hE; go_enter Tryz.func57, Tryz.ntmps57; go_upto_region 1 with fail
 go_cut [4] from 7 to 13 (fun s wx => ∃ a, s = .pointer (some ⟨a, 0, none⟩) ∧ BkC wx a [.string (strN x.num), .string (strN x.den), .string (strN y.num), .string (strN y.den)] 33 ∧ Kp0 ((w.alloc (.cells #[.pointer (some ⟨g, 0, none⟩), .pointer (some ⟨k, 0, none⟩)] 82)).alloc (.cells #[.string ⟨#[]⟩, .string ⟨#[]⟩, .string ⟨#[]⟩, .string ⟨#[]⟩] 33)) wx)
 case first =>
  go_region_held3 (fun W => W.cell? ⟨w.heap.size, 0, none⟩ = some (.pointer (some ⟨g, 0, none⟩)) ∧ W.cell? ⟨w.heap.size, 1, none⟩ = some (.pointer (some ⟨k, 0, none⟩))) (refine ⟨?_, ?_⟩ <;> (first | exact Bk.cell BkC.out rfl | (simp [go_sem]; done))) (first | (go_at_call 89; (with_reducible refine Calls.mono (btellC (by decide)) ?_); rintro e wc ⟨rfl, _⟩))
  all_goals (go_wp2_with fail; go_meet; exact ⟨_, rfl, inferInstance, ⟨Gr.out⟩⟩)
 case rest =>
  obtain ⟨a, rfl, i1, k1⟩ := hcut; have HX := hid hx; have c0 := i1.out.cell (i := 0) rfl; have c1 := i1.out.cell (i := 1) rfl; have c2 := i1.out.cell (i := 2) rfl; have c3 := i1.out.cell (i := 3) rfl; generalize (afterS (strN x.num)).size = z0 at *; generalize (afterS (strN x.den)).size = z1 at *; generalize (afterS (strN y.num)).size = z2 at *; generalize (afterS (strN y.den)).size = z3 at *; go_wp2_with fail
  go_loop [27] (fun s27 => ∃ j : Nat, s27 = .int .i64 j ∧ j ≤ 4 ∧ Hid (1 ≤ j → ¬ 16384 < z0) ∧ Hid (2 ≤ j → ¬ 16384 < z1) ∧ Hid (3 ≤ j → ¬ 16384 < z2) ∧ Hid (4 ≤ j → ¬ 16384 < z3)) (fun s27 => 4 - (intOf s27).toNat)
  case atStart => exact ⟨0, rfl, by omega, hid (fun h => absurd h (by decide)), hid (fun h => absurd h (by decide)), hid (fun h => absurd h (by decide)), hid (fun h => absurd h (by decide))⟩
  case round =>
   obtain ⟨j, rfl, hj, H0, H1, H2, H3⟩ := hrel; by_cases j0 : j = 0
   · subst j0; by_cases hz : 16384 < z0
     · have hi : (16384 : Int) < (z0 : Int) := by omega
       have HL := hid hz; clear hz; go_wp2_with (go_at_call 90; (with_reducible refine (LG0.out _).mono ?_); rintro e w' ⟨rfl, hw⟩; obtain rfl := hw.symm)
       refine ret_cell_tmp rfl rfl rfl (by rfl) (by rfl) (by rfl) ?_
       have e1 := HL; have hE1 : E = 4 := T4.out (by have := HL.out; omega)
       refine ⟨?_, ⟨Gr.out⟩⟩
       have hf : ∀ s, tS x y s = ⟨#[]⟩ := fun s => by
        unfold tS; rw [← HE.out, hE1]; rfl
       rw [← HE.out, hf, hf, hf, hf, hE1]; rfl
     · have hi : ¬ (16384 : Int) < (z0 : Int) := by omega
       have HN := hid hz; clear hz; go_wp2_with (go_at_call 90; (with_reducible refine (LG0.out _).mono ?_); rintro e w' ⟨rfl, hw⟩; obtain rfl := hw.symm)
       go_round
       case rel => exact ⟨1, by go_num, by omega, hid (fun _ => HN.out), hid (fun h => absurd h (by decide)), hid (fun h => absurd h (by decide)), hid (fun h => absurd h (by decide))⟩
       case measure => simp [intOf]
   by_cases j1 : j = 1
   · subst j1; by_cases hz : 16384 < z1
     · have hi : (16384 : Int) < (z1 : Int) := by omega
       have HL := hid hz; clear hz; go_wp2_with (go_at_call 90; (with_reducible refine (LG1.out _).mono ?_); rintro e w' ⟨rfl, hw⟩; obtain rfl := hw.symm)
       refine ret_cell_tmp rfl rfl rfl (by rfl) (by rfl) (by rfl) ?_
       have e1 := HL; have hE1 : E = 4 := T4.out (by have := HL.out; omega)
       refine ⟨?_, ⟨Gr.out⟩⟩
       have hf : ∀ s, tS x y s = ⟨#[]⟩ := fun s => by
        unfold tS; rw [← HE.out, hE1]; rfl
       rw [← HE.out, hf, hf, hf, hf, hE1]; rfl
     · have hi : ¬ (16384 : Int) < (z1 : Int) := by omega
       have HN := hid hz; clear hz; go_wp2_with (go_at_call 90; (with_reducible refine (LG1.out _).mono ?_); rintro e w' ⟨rfl, hw⟩; obtain rfl := hw.symm)
       go_round
       case rel => exact ⟨2, by go_num, by omega, hid (fun _ => by have := H0.out (by decide); omega), hid (fun _ => HN.out), hid (fun h => absurd h (by decide)), hid (fun h => absurd h (by decide))⟩
       case measure => simp [intOf]
   by_cases j2 : j = 2
   · subst j2; by_cases hz : 16384 < z2
     · have hi : (16384 : Int) < (z2 : Int) := by omega
       have HL := hid hz; clear hz; go_wp2_with (go_at_call 90; (with_reducible refine (LG2.out _).mono ?_); rintro e w' ⟨rfl, hw⟩; obtain rfl := hw.symm)
       refine ret_cell_tmp rfl rfl rfl (by rfl) (by rfl) (by rfl) ?_
       have e1 := HL; have hE1 : E = 4 := T4.out (by have := HL.out; omega)
       refine ⟨?_, ⟨Gr.out⟩⟩
       have hf : ∀ s, tS x y s = ⟨#[]⟩ := fun s => by
        unfold tS; rw [← HE.out, hE1]; rfl
       rw [← HE.out, hf, hf, hf, hf, hE1]; rfl
     · have hi : ¬ (16384 : Int) < (z2 : Int) := by omega
       have HN := hid hz; clear hz; go_wp2_with (go_at_call 90; (with_reducible refine (LG2.out _).mono ?_); rintro e w' ⟨rfl, hw⟩; obtain rfl := hw.symm)
       go_round
       case rel => exact ⟨3, by go_num, by omega, hid (fun _ => by have := H0.out (by decide); omega), hid (fun _ => by have := H1.out (by decide); omega), hid (fun _ => HN.out), hid (fun h => absurd h (by decide))⟩
       case measure => simp [intOf]
   by_cases j3 : j = 3
   · subst j3; by_cases hz : 16384 < z3
     · have hi : (16384 : Int) < (z3 : Int) := by omega
       have HL := hid hz; clear hz; go_wp2_with (go_at_call 90; (with_reducible refine (LG3.out _).mono ?_); rintro e w' ⟨rfl, hw⟩; obtain rfl := hw.symm)
       refine ret_cell_tmp rfl rfl rfl (by rfl) (by rfl) (by rfl) ?_
       have e1 := HL; have hE1 : E = 4 := T4.out (by have := HL.out; omega)
       refine ⟨?_, ⟨Gr.out⟩⟩
       have hf : ∀ s, tS x y s = ⟨#[]⟩ := fun s => by
        unfold tS; rw [← HE.out, hE1]; rfl
       rw [← HE.out, hf, hf, hf, hf, hE1]; rfl
     · have hi : ¬ (16384 : Int) < (z3 : Int) := by omega
       have HN := hid hz; clear hz; go_wp2_with (go_at_call 90; (with_reducible refine (LG3.out _).mono ?_); rintro e w' ⟨rfl, hw⟩; obtain rfl := hw.symm)
       go_round
       case rel => exact ⟨4, by go_num, by omega, hid (fun _ => by have := H0.out (by decide); omega), hid (fun _ => by have := H1.out (by decide); omega), hid (fun _ => by have := H2.out (by decide); omega), hid (fun _ => HN.out)⟩
       case measure => simp [intOf]
   obtain rfl : j = 4 := by omega
   have HL := hid hj; clear j0 j1 j2 j3; go_wp2_with fail
   refine ret_cell_tmp rfl rfl rfl (by rfl) (by rfl) (by rfl) ?_
   have e1 := HL; have hE1 : E = 0 := T0.out (H0.out (by decide)) (H1.out (by decide)) (H2.out (by decide)) (H3.out (by decide))
   refine ⟨?_, ⟨Gr.out⟩⟩
   have hf : ∀ s, tS x y s = s := fun s => by
    unfold tS; rw [← HE.out, hE1]; rfl
   rw [← HE.out, hf, hf, hf, hf, hE1]; rfl
theorem gaToldC {w : World} {g k : Nat} {x y : _root_.Rat} {L M : Nat} [hx : RaC 88 w g x] [hy : RaC 88 w k y] [sx : SmC x L] [sy : SmC y M] (h1 : L ≤ 67108864) (h2 : M ≤ 67108864) :
 Calls Tryz.prog 57 #[.agg #[.pointer (some ⟨g, 0, none⟩), .pointer (some ⟨k, 0, none⟩)]] w fun e w' => e = .returned (.tuple #[.agg #[.string (tS x y (strN x.num)), .string (tS x y (strN x.den)), .string (tS x y (strN y.num)), .string (tS x y (strN y.den))], .int .i64 (toldE x y)]) ∧ Kp0 w w' := gaTold (sx := ⟨sx.out.mono h1⟩) (sy := ⟨sy.out.mono h2⟩)
end Go.Proofs.YthjeejnggpjnjaaGreatDoor
