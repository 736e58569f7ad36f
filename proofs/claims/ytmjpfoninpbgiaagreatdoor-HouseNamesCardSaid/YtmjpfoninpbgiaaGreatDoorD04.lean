/- When an element may be. Lines of saves, of the given program's reader. -/
import Derived.Test.YtmjpfoninpbgiaaGreatDoorD03
import Derived.Deep.AppendLies
import Derived.OwnWalk
set_option linter.unusedSimpArgs false
set_option linter.unusedVariables false
namespace Go.Proofs.YtmjpfoninpbgiaaGreatDoor
section
open Go.RowKit


def feq (a b : Nat) : Bool := FloatKind.f64.format.order a b == some .eq
def fge (a b : Nat) : Bool := FloatKind.f64.format.order a b == some .gt || FloatKind.f64.format.order a b == some .eq
def fle (a b : Nat) : Bool := FloatKind.f64.format.order a b == some .lt || FloatKind.f64.format.order a b == some .eq
def fabs (a : Nat) : Nat := (bits .andNot .u64 (a : Int) 9223372036854775808).toNat
def fwithin (a m : Nat) : Bool := fle (fabs a) m
def cwithin (a b m : Nat) : Bool := fwithin a m && fwithin b m
theorem abs_any (a : Nat) (w : World) :
    Calls Tryz.prog 121 #[.float .f64 a] w fun e w' => e = .returned (.float .f64 (fabs a)) ∧ w = w' := by
  have h1 := f64bits_run
  have h2 := f64from_run
  go_enter Tryz.func121, Tryz.ntmps121
  go_wp2
  go_ret
  exact ⟨rfl, rfl⟩
theorem within_any (a m : Nat) (w : World) :
    Calls Tryz.prog 78 #[.float .f64 a, .float .f64 m] w fun e w' => e = .returned (.bool (fwithin a m)) ∧ w = w' := by
  go_enter Tryz.func78, Tryz.ntmps78
  go_wp2_with (go_at_call 121; refine (abs_any _ _).mono ?_; rintro e w' ⟨rfl, rfl⟩)
  go_ret
  exact ⟨rfl, rfl⟩
theorem pwithin_any (a b m : Nat) (w : World) :
    Calls Tryz.prog 120 #[.complex .f64 a b, .float .f64 m] w fun e w' => e = .returned (.bool (cwithin a b m)) ∧ w = w' := by
  cases h : fwithin a m
  all_goals
    have hc : cwithin a b m = (fwithin a m && fwithin b m) := rfl
    rw [h] at hc
    rw [hc]
    go_enter Tryz.func120, Tryz.ntmps120
    go_wp2_with (go_at_call 78; refine (within_any _ _ _).mono ?_; rintro e w' ⟨rfl, rfl⟩; try rw [h])
    go_ret
    exact ⟨by simp, rfl⟩
/-- The greatest number that may be. -/
def maxReal : Nat := 4787326403894837248
theorem reals_any (a b : Nat) (w : World) :
    Calls Tryz.prog 77 #[.complex .f64 a b] w fun e w' => e = .returned (.bool (cwithin a b maxReal)) ∧ w = w' := by
  go_enter Tryz.func77, Tryz.ntmps77
  go_wp2_with (go_at_call 120; refine (pwithin_any _ _ _ _).mono ?_; rintro e w' ⟨rfl, rfl⟩)
  go_ret
  exact ⟨rfl, rfl⟩
def cnought (a b : Nat) : Bool := feq a 0 && feq b 0
theorem nought_any (a b : Nat) (w : World) :
    Calls Tryz.prog 79 #[.complex .f64 a b] w fun e w' => e = .returned (.bool (cnought a b)) ∧ w = w' := by
  cases h : feq a 0
  all_goals
    have h1 : (FloatKind.f64.format.order a 0 == some .eq) = _ := h
    have hc : cnought a b = (feq a 0 && (FloatKind.f64.format.order b 0 == some .eq)) := rfl
    rw [h] at hc
    rw [hc]
    go_enter Tryz.func79, Tryz.ntmps79
    go_wp2
    go_ret
    exact ⟨by simp, rfl⟩
/-- A float cut to its whole part. -/
def ftrunc (a : Nat) : Nat := FloatKind.f64.encode ((FloatKind.f64.decode a).integral .zero)
def fnan (a : Nat) : Bool := (FloatKind.f64.decode a).isNaN
theorem trunc_law (a : Nat) (h : (FloatKind.f64.decode a).isNaN = false) : Go.Extern.MathFloor.toIntegral "math.archTrunc" .zero #[.float .f64 a] = pure (.float .f64 (ftrunc a)) := by
  unfold ftrunc
  obtain ⟨N, hN⟩ : ∃ N : Bool → Nat → Sem Value, Go.Extern.MathFloor.toIntegral "math.archTrunc" .zero #[.float .f64 a] = Go.Extern.MathFloor.toIntegral.match_1 (fun _ => Sem Value) (FloatKind.f64.decode a) N (fun d => pure (.float .f64 (FloatKind.f64.encode (d.integral .zero)))) := ⟨_, rfl⟩
  rw [hN]
  generalize FloatKind.f64.decode a = d at h ⊢
  cases d with
  | nan s t => cases h
  | number s m p => rfl
  | infinity s => rfl
theorem arch_trunc0 (a : Nat) (w : World) : (callFunc 165 #[.float .f64 a]).run Tryz.prog w = (Next.value <$> Go.Extern.MathFloor.toIntegral "math.archTrunc" .zero #[.float .f64 a]).run Tryz.prog w := by kernel_rfl
theorem arch_trunc (a : Nat) (h : fnan a = false) (w : World) : (callFunc 165 #[.float .f64 a]).run Tryz.prog w = .ok (.value (.float .f64 (ftrunc a))) w := by
  rw [arch_trunc0, trunc_law a h]
  rfl
theorem isNaN_rung (a : Nat) : fnan a = decide (9218868437227405312 < a % 9223372036854775808) := by
  have e1 : Ieee.double.signWeight = 9223372036854775808 := by decide
  have e2 : Ieee.double.binade = 4503599627370496 := by decide
  have e3 : Ieee.double.infRung = 9218868437227405312 := by decide
  show (Ieee.double.read a).isNaN = _
  unfold Ieee.Format.read
  rw [e1, e2, e3]
  simp only []
  split
  · exact (decide_eq_false_iff_not.2 (by omega)).symm
  · split
    · exact (decide_eq_false_iff_not.2 (by omega)).symm
    · split
      · exact (decide_eq_false_iff_not.2 (by omega)).symm
      · exact (decide_eq_true_iff.2 (by omega)).symm
theorem fabs_eq (a : Nat) (h : a < 18446744073709551616) : fabs a = a % 9223372036854775808 := by
  have h1 := u64_andNot_nat a 9223372036854775808 h (by omega)
  unfold fabs
  have e : (9223372036854775808 : Int) = ((9223372036854775808 : Nat) : Int) := rfl
  rw [e, h1, Int.toNat_natCast]
  rw [show 18446744073709551615 - 9223372036854775808 = 2 ^ 63 - 1 by decide, Nat.and_two_pow_sub_one_eq_mod]
theorem order_nan (a b : Nat) (h : fnan a = true) : FloatKind.f64.format.order a b = none := by
  show (Ieee.double.read a).order (Ieee.double.read b) = none
  have h' : (Ieee.double.read a).isNaN = true := h
  cases hd : Ieee.double.read a <;> rw [hd] at h'
  · cases h'
  · cases h'
  · rfl
theorem within_num (a m : Nat) (ha : a < 18446744073709551616) (h : fwithin a m = true) : fnan a = false := by
  cases hn : fnan a
  · rfl
  · exfalso
    have : fnan (fabs a) = true := by
      rw [isNaN_rung] at hn ⊢
      rw [fabs_eq a ha]
      simpa using hn
    unfold fwithin fle at h
    rw [order_nan _ _ this] at h
    cases h
theorem trunc_any (a : Nat) (h : fnan a = false) (w : World) :
    Calls Tryz.prog 122 #[.float .f64 a] w fun e w' => e = .returned (.float .f64 (ftrunc a)) ∧ w = w' := by
  have h1 := fun w => arch_trunc a h w
  clear h
  go_enter Tryz.func122, Tryz.ntmps122
  go_wp2
  go_ret
  exact ⟨rfl, rfl⟩
theorem whole85 (a : Nat) (h : fnan a = false) (w : World) :
    Calls Tryz.prog 80 #[.float .f64 a] w fun e w' => e = .returned (.bool (feq (ftrunc a) a)) ∧ w = w' := by
  go_enter Tryz.func80, Tryz.ntmps80
  go_wp2_with (go_at_call 122; refine (trunc_any _ h _).mono ?_; rintro e w' ⟨rfl, rfl⟩)
  go_ret
  exact ⟨rfl, rfl⟩
/-- May an element's kind have its numbers? -/
def mayS (k a1 a2 p : Nat) : Bool :=
  if k = 1 then cnought a1 a2 && feq p 0
  else if k = 2 then feq p 0
  else if k = 3 then (feq (ftrunc p) p && fge p 4607182418800017408) && fle p 4620693217682128896
  else fge p 4598175219545276416 && fle p 4616189618054758400
/-- The code that an element's check tells. -/
def elChk (k a1 a2 s1 s2 p : Nat) : Int :=
  if k < 1 ∨ 4 < k then 150
  else if cwithin a1 a2 maxReal && cwithin s1 s2 maxReal && fwithin p maxReal then (if mayS k a1 a2 p then 0 else 150)
  else 5
set_option maxHeartbeats 4000000 in
set_option maxRecDepth 100000 in
theorem elcheck_any (k a1 a2 s1 s2 p : Nat) (hp : p < 18446744073709551616) (w : World) :
    Calls Tryz.prog 48 #[.agg #[.int .u8 k, .complex .f64 a1 a2, .complex .f64 s1 s2, .float .f64 p]] w fun e w' => e = .returned (.int .i64 (elChk k a1 a2 s1 s2 p)) ∧ Below w.heap.size w w' := by
  unfold elChk
  by_cases hk : k < 1 ∨ 4 < k
  · rw [if_pos hk]
    rcases hk with hk | hk
    · have h0 : k = 0 := by omega
      subst h0
      go_enter Tryz.func48, Tryz.ntmps48
      go_wp2
      go_ret
      exact ⟨rfl, Below.alloc (Below.refl _ _) (Nat.le_refl _) _⟩
    · go_enter Tryz.func48, Tryz.ntmps48
      go_wp2
      go_ret
      exact ⟨rfl, Below.alloc (Below.refl _ _) (Nat.le_refl _) _⟩
  · rw [if_neg hk]
    have hk' : k = 1 ∨ k = 2 ∨ k = 3 ∨ k = 4 := by omega
    clear hk
    cases hA : cwithin a1 a2 maxReal
    · rw [show (false && cwithin s1 s2 maxReal && fwithin p maxReal) = false by rfl]
      rcases hk' with rfl | rfl | rfl | rfl
      all_goals
        go_enter Tryz.func48, Tryz.ntmps48
        go_wp2_with (first | (go_at_call 77; ((with_reducible refine (reals_any _ _ _).mono ?_); rintro e w' ⟨rfl, rfl⟩; (try rw [hA]); (try rw [hS]))) | (go_at_call 78; ((with_reducible refine (within_any _ _ _).mono ?_); rintro e w' ⟨rfl, rfl⟩; (try rw [hP]))) | (go_at_call 79; ((with_reducible refine (nought_any _ _ _).mono ?_); rintro e w' ⟨rfl, rfl⟩)) | (go_at_call 80; ((with_reducible refine (whole85 _ hN.out _).mono ?_); rintro e w' ⟨rfl, rfl⟩)))
        go_ret
        exact ⟨rfl, Below.alloc (Below.refl _ _) (Nat.le_refl _) _⟩
    · cases hS : cwithin s1 s2 maxReal
      · rw [show (true && false && fwithin p maxReal) = false by rfl]
        rcases hk' with rfl | rfl | rfl | rfl
        all_goals
          go_enter Tryz.func48, Tryz.ntmps48
          go_wp2_with (first | (go_at_call 77; ((with_reducible refine (reals_any _ _ _).mono ?_); rintro e w' ⟨rfl, rfl⟩; (try rw [hA]); (try rw [hS]))) | (go_at_call 78; ((with_reducible refine (within_any _ _ _).mono ?_); rintro e w' ⟨rfl, rfl⟩; (try rw [hP]))) | (go_at_call 79; ((with_reducible refine (nought_any _ _ _).mono ?_); rintro e w' ⟨rfl, rfl⟩)) | (go_at_call 80; ((with_reducible refine (whole85 _ hN.out _).mono ?_); rintro e w' ⟨rfl, rfl⟩)))
          go_ret
          exact ⟨rfl, Below.alloc (Below.refl _ _) (Nat.le_refl _) _⟩
      · cases hP : fwithin p maxReal
        · rw [show (true && true && false) = false by rfl]
          have hP' : fwithin p 4787326403894837248 = false := hP
          rcases hk' with rfl | rfl | rfl | rfl
          all_goals
            go_enter Tryz.func48, Tryz.ntmps48
            go_wp2_with (first | (go_at_call 77; ((with_reducible refine (reals_any _ _ _).mono ?_); rintro e w' ⟨rfl, rfl⟩; (try rw [hA]); (try rw [hS]))) | (go_at_call 78; ((with_reducible refine (within_any _ _ _).mono ?_); rintro e w' ⟨rfl, rfl⟩; (try rw [hP]))) | (go_at_call 79; ((with_reducible refine (nought_any _ _ _).mono ?_); rintro e w' ⟨rfl, rfl⟩)) | (go_at_call 80; ((with_reducible refine (whole85 _ hN.out _).mono ?_); rintro e w' ⟨rfl, rfl⟩)))
            go_ret
            exact ⟨rfl, Below.alloc (Below.refl _ _) (Nat.le_refl _) _⟩
        · rw [show (true && true && true) = true by rfl, if_pos rfl]
          have hN := hid (within_num p _ hp hP)
          have hP' : fwithin p 4787326403894837248 = true := hP
          rcases hk' with rfl | rfl | rfl | rfl
          · unfold mayS
            rw [if_pos rfl]
            rcases Bool.eq_false_or_eq_true (cnought a1 a2) with h1 | h1 <;> rcases Bool.eq_false_or_eq_true (feq p 0) with h2 | h2
            all_goals
              rw [h1, h2]
              have h2' : (FloatKind.f64.format.order p 0 == some .eq) = _ := h2
              go_enter Tryz.func48, Tryz.ntmps48
              go_wp2_with (first | (go_at_call 77; ((with_reducible refine (reals_any _ _ _).mono ?_); rintro e w' ⟨rfl, rfl⟩; (try rw [hA]); (try rw [hS]))) | (go_at_call 78; ((with_reducible refine (within_any _ _ _).mono ?_); rintro e w' ⟨rfl, rfl⟩; (try rw [hP']))) | (go_at_call 79; ((with_reducible refine (nought_any _ _ _).mono ?_); rintro e w' ⟨rfl, rfl⟩; (try rw [h1]))) | (go_at_call 80; ((with_reducible refine (whole85 _ hN.out _).mono ?_); rintro e w' ⟨rfl, rfl⟩; (try rw [h1]))))
              go_ret
              exact ⟨rfl, Below.alloc (Below.refl _ _) (Nat.le_refl _) _⟩
          · unfold mayS
            rw [if_neg (show ¬ (2 : Nat) = 1 by decide), if_pos (show (2 : Nat) = 2 from rfl)]
            rcases Bool.eq_false_or_eq_true (feq p 0) with h2 | h2
            all_goals
              rw [h2]
              have h2' : (FloatKind.f64.format.order p 0 == some .eq) = _ := h2
              go_enter Tryz.func48, Tryz.ntmps48
              go_wp2_with (first | (go_at_call 77; ((with_reducible refine (reals_any _ _ _).mono ?_); rintro e w' ⟨rfl, rfl⟩; (try rw [hA]); (try rw [hS]))) | (go_at_call 78; ((with_reducible refine (within_any _ _ _).mono ?_); rintro e w' ⟨rfl, rfl⟩; (try rw [hP']))) | (go_at_call 79; ((with_reducible refine (nought_any _ _ _).mono ?_); rintro e w' ⟨rfl, rfl⟩; (try rw [h1]))) | (go_at_call 80; ((with_reducible refine (whole85 _ hN.out _).mono ?_); rintro e w' ⟨rfl, rfl⟩; (try rw [h1]))))
              go_ret
              exact ⟨rfl, Below.alloc (Below.refl _ _) (Nat.le_refl _) _⟩
          · unfold mayS
            rw [if_neg (show ¬ (3 : Nat) = 1 by decide), if_neg (show ¬ (3 : Nat) = 2 by decide), if_pos (show (3 : Nat) = 3 from rfl)]
            rcases Bool.eq_false_or_eq_true (feq (ftrunc p) p) with h1 | h1 <;> rcases Bool.eq_false_or_eq_true (fge p 4607182418800017408) with h2 | h2 <;> rcases Bool.eq_false_or_eq_true (fle p 4620693217682128896) with h3 | h3
            all_goals
              rw [h1, h2, h3]
              have h2' : (FloatKind.f64.format.order p 4607182418800017408 == some .gt || FloatKind.f64.format.order p 4607182418800017408 == some .eq) = _ := h2
              have h3' : (FloatKind.f64.format.order p 4620693217682128896 == some .lt || FloatKind.f64.format.order p 4620693217682128896 == some .eq) = _ := h3
              go_enter Tryz.func48, Tryz.ntmps48
              go_wp2_with (first | (go_at_call 77; ((with_reducible refine (reals_any _ _ _).mono ?_); rintro e w' ⟨rfl, rfl⟩; (try rw [hA]); (try rw [hS]))) | (go_at_call 78; ((with_reducible refine (within_any _ _ _).mono ?_); rintro e w' ⟨rfl, rfl⟩; (try rw [hP']))) | (go_at_call 79; ((with_reducible refine (nought_any _ _ _).mono ?_); rintro e w' ⟨rfl, rfl⟩; (try rw [h1]))) | (go_at_call 80; ((with_reducible refine (whole85 _ hN.out _).mono ?_); rintro e w' ⟨rfl, rfl⟩; (try rw [h1]))))
              go_ret
              exact ⟨rfl, Below.alloc (Below.refl _ _) (Nat.le_refl _) _⟩
          · unfold mayS
            rw [if_neg (show ¬ (4 : Nat) = 1 by decide), if_neg (show ¬ (4 : Nat) = 2 by decide), if_neg (show ¬ (4 : Nat) = 3 by decide)]
            rcases Bool.eq_false_or_eq_true (fge p 4598175219545276416) with h2 | h2 <;> rcases Bool.eq_false_or_eq_true (fle p 4616189618054758400) with h3 | h3
            all_goals
              rw [h2, h3]
              have h2' : (FloatKind.f64.format.order p 4598175219545276416 == some .gt || FloatKind.f64.format.order p 4598175219545276416 == some .eq) = _ := h2
              have h3' : (FloatKind.f64.format.order p 4616189618054758400 == some .lt || FloatKind.f64.format.order p 4616189618054758400 == some .eq) = _ := h3
              go_enter Tryz.func48, Tryz.ntmps48
              go_wp2_with (first | (go_at_call 77; ((with_reducible refine (reals_any _ _ _).mono ?_); rintro e w' ⟨rfl, rfl⟩; (try rw [hA]); (try rw [hS]))) | (go_at_call 78; ((with_reducible refine (within_any _ _ _).mono ?_); rintro e w' ⟨rfl, rfl⟩; (try rw [hP']))) | (go_at_call 79; ((with_reducible refine (nought_any _ _ _).mono ?_); rintro e w' ⟨rfl, rfl⟩; (try rw [h1]))) | (go_at_call 80; ((with_reducible refine (whole85 _ hN.out _).mono ?_); rintro e w' ⟨rfl, rfl⟩; (try rw [h1]))))
              go_ret
              exact ⟨rfl, Below.alloc (Below.refl _ _) (Nat.le_refl _) _⟩
end
section
open Go.RowKit


theorem own_keeps {w w' : World} {B B0 E size n : Nat} {S : List Nat} {sv : Value} {xs : List Value} (h : w.ownsRow B0 E size sv n xs) (k : Keeps B S w w') (hB : w.heap.size ≤ B) (hS : ∀ g, sv.ownBlock = some g → g ∉ S) : w'.ownsRow B0 E size sv n xs := by
  refine ⟨h.1, ?_⟩
  rcases h.2 with h2 | ⟨g, cap, cur, rfl, hg, hb, r⟩
  · exact .inl h2
  · refine .inr ⟨g, cap, cur, rfl, hg, ?_, r⟩
    rw [k.block g (Nat.lt_of_lt_of_le (lt_of_block hb) hB) (hS g rfl)]
    exact hb
theorem own_set {w : World} {B0 E size n g o : Nat} {v sv : Value} {xs : List Value} (h : w.ownsRow B0 E size sv n xs) (hS : sv.ownBlock ≠ some g) : (w.setCell ⟨g, o, none⟩ v).ownsRow B0 E size sv n xs := by
  refine ⟨h.1, ?_⟩
  rcases h.2 with h2 | ⟨k, cap, cur, rfl, hg, hb, r⟩
  · exact .inl h2
  · exact .inr ⟨k, cap, cur, rfl, hg, (block_ne _ _ _ _ _ (fun e => hS (by rw [e]; rfl))).trans hb, r⟩
theorem own_ne {w : World} {B0 E size n g : Nat} {sv : Value} {xs : List Value} {c : Array Value} {T : TypeId} {fr : Nat × Nat} (h : w.ownsRow B0 E size sv n xs) (hb : w.heap[g]? = some (.cells c T fr)) (hT : T ≠ E) : sv.ownBlock ≠ some g := by
  intro e
  rcases h.2 with ⟨rfl, -⟩ | ⟨k, cap, cur, rfl, -, hk, -⟩
  · cases e
  · simp only [Value.ownBlock, Option.some.injEq] at e
    subst e
    rw [hb] at hk
    injection hk with hk
    injection hk with h1 h2 h3
    exact hT h2
/-- A line is read: the reader, the row of what was read, the new thing's block X. -/
structure Ln (w0 : World) (B0 LB rb : Nat) (s : ByteArray) (st : St) (sv : Value) (T E size n : Nat) (xs : List Value) (cx : Array Value) (w : World) : Prop where
  rd : Rd w rb s st.1 st.2
  lb : w.heap[LB]? = some (.cells #[sv] T (0, 0))
  own : w.ownsRow B0 E size sv n xs
  xb : w.heap[w0.heap.size]? = some (.cells cx E (0, 0))
  kp : Keeps B0 [LB] w0 w
  sz : w0.heap.size < w.heap.size
  far : ∀ g, sv.ownBlock = some g → g < w0.heap.size
/-- Where a line's blocks lie. -/
structure At (w0 : World) (B0 LB rb : Nat) (T E : Nat) : Prop where
  l40 : 10 ≤ LB
  lb : LB < B0
  br : B0 ≤ rb
  rw : rb < w0.heap.size
  t1 : T ≠ E
  t2 : 269 ≠ E
/-- What reading a line comes to: one thing more. -/
def LinePost (B0 LB rb : Nat) (s : ByteArray) (st : St) (T E size n : Nat) (xs new : List Value) (w : World) (e : Ending) (w' : World) : Prop :=
  e = .returned (.tuple #[]) ∧ Rd w' rb s st.1 st.2 ∧ (∃ sv, w'.heap[LB]? = some (.cells #[sv] T (0, 0)) ∧ w'.ownsRow B0 E size sv (n + 1) (xs ++ new)) ∧ Keeps B0 [LB] w w'
section
variable {w0 w w' : World} {B0 LB rb T E size n : Nat} {s : ByteArray} {st st' : St} {sv : Value} {xs : List Value} {cx : Array Value}
theorem Ln.begin (A : At w0 B0 LB rb T E) (h : Rd w0 rb s st.1 st.2) (hl : w0.heap[LB]? = some (.cells #[sv] T (0, 0))) (ho : w0.ownsRow B0 E size sv n xs) (cx : Array Value) : Ln w0 B0 LB rb s st sv T E size n xs cx (w0.alloc (.cells cx E)) := by
  refine ⟨h.alloc _, (Below.heap_alloc w0 _ LB (lt_of_block hl)).trans hl, own_keeps ho (Keeps.alloc (Keeps.refl w0.heap.size [] w0) (Nat.le_refl _) _) (Nat.le_refl _) (by simp), by simp only [block_at], (Keeps.refl _ _ _).alloc (by have := A.rw; have := A.br; omega) _, by simp, fun g hg => ?_⟩
  rcases ho.2 with ⟨rfl, -⟩ | ⟨k, cap, cur, rfl, -, hk, -⟩
  · cases hg
  · simp only [Value.ownBlock, Option.some.injEq] at hg
    subst hg
    exact lt_of_block hk
theorem Ln.alloc (L : Ln w0 B0 LB rb s st sv T E size n xs cx w) (A : At w0 B0 LB rb T E) (o : Obj) : Ln w0 B0 LB rb s st sv T E size n xs cx (w.alloc o) :=
  ⟨L.rd.alloc _, (Below.heap_alloc w _ LB (lt_of_block L.lb)).trans L.lb, own_keeps L.own (Keeps.alloc (Keeps.refl w.heap.size [] w) (Nat.le_refl _) _) (Nat.le_refl _) (by simp), (Below.heap_alloc w _ _ (lt_of_block L.xb)).trans L.xb, L.kp.alloc (by have := A.rw; have := A.br; have := L.sz; omega) _, by have := L.sz; simp; omega, L.far⟩
/-- A call that turns the reader, and what is new. -/
theorem Ln.call (L : Ln w0 B0 LB rb s st sv T E size n xs cx w) (A : At w0 B0 LB rb T E) {S : List Nat} (k : Keeps w.heap.size (rb :: S) w w') (hS : ∀ g ∈ S, w0.heap.size < g) (h : Rd w' rb s st'.1 st'.2) : Ln w0 B0 LB rb s st' sv T E size n xs cx w' := by
  have hr := A.rw; have hb := A.br; have hl := A.lb; have hs := L.sz
  refine ⟨h, (k.block LB (lt_of_block L.lb) ?_).trans L.lb, own_keeps L.own k (Nat.le_refl _) (fun g hg => ?_), (k.block _ (lt_of_block L.xb) ?_).trans L.xb, L.kp.trans (k.mono (by omega) ?_), Nat.lt_of_lt_of_le hs k.size, L.far⟩
  · simp only [List.mem_cons, not_or]; exact ⟨by omega, fun h => by have := hS _ h; omega⟩
  · simp only [List.mem_cons, not_or]
    exact ⟨fun e => own_ne L.own L.rd A.t2 (by rw [hg, e]), fun h => by have := hS _ h; have := L.far _ hg; omega⟩
  · simp only [List.mem_cons, not_or]; exact ⟨by omega, fun h => by have := hS _ h; omega⟩
  · intro j hj hm
    simp only [List.mem_cons] at hm
    rcases hm with rfl | hm
    · omega
    · have := hS _ hm; omega
/-- A call that turns the reader, and one cell of the new thing. -/
theorem Ln.callX (L : Ln w0 B0 LB rb s st sv T E size n xs cx w) (A : At w0 B0 LB rb T E) (o : Nat) (v : Value) (k : Keeps w.heap.size [rb, w0.heap.size] w w') (h : Rd w' rb s st'.1 st'.2) (hx : w'.heap[w0.heap.size]? = (w.setCell ⟨w0.heap.size, o, none⟩ v).heap[w0.heap.size]?) : Ln w0 B0 LB rb s st' sv T E size n xs (cx.setIfInBounds o v) w' := by
  have hr := A.rw; have hb := A.br; have hl := A.lb; have hs := L.sz
  refine ⟨h, (k.block LB (lt_of_block L.lb) (by simp; omega)).trans L.lb, own_keeps L.own k (Nat.le_refl _) (fun g hg => ?_), hx.trans (set_of_block L.xb o v), L.kp.trans (k.mono (by omega) ?_), Nat.lt_of_lt_of_le hs k.size, L.far⟩
  · simp only [List.mem_cons, List.not_mem_nil, or_false, not_or]
    exact ⟨fun e => own_ne L.own L.rd A.t2 (by rw [hg, e]), fun e => by have := L.far _ hg; omega⟩
  · intro j hj hm
    simp at hm
    omega
theorem Ln.put (L : Ln w0 B0 LB rb s st sv T E size n xs cx w) (A : At w0 B0 LB rb T E) (o : Nat) (v : Value) : Ln w0 B0 LB rb s st sv T E size n xs (cx.setIfInBounds o v) (w.setCell ⟨w0.heap.size, o, none⟩ v) := by
  have hr := A.rw; have hb := A.br; have hl := A.lb; have hs := L.sz
  exact ⟨(block_ne _ _ _ _ _ (by omega)).trans L.rd, (block_ne _ _ _ _ _ (by omega)).trans L.lb, own_set L.own (fun e => by have := L.far _ e; omega), set_of_block L.xb o v, L.kp.set (Or.inr (by omega)) _ _, by rw [World.size_setCell]; exact hs, L.far⟩
theorem Ln.drew (L : Ln w0 B0 LB rb s st sv T E size n xs cx w) : Ln w0 B0 LB rb s st sv T E size n xs cx w.drew :=
  ⟨L.rd, L.lb, L.own.drew, L.xb, L.kp.drew, L.sz, L.far⟩
theorem Ln.fin (L : Ln w0 B0 LB rb s st sv T E size n xs cx w) (A : At w0 B0 LB rb T E) {wa : World} {g cap : Nat} {new : List Value} (ho : wa.ownsRow B0 E size (.slice (some ⟨g, 0, none⟩) (n + 1) cap) (n + 1) (xs ++ new))
    (hg : w.grownBy wa sv.ownBlock) (hat : sv.ownBlock = some g ∨ g = w.heap.size) : LinePost B0 LB rb s st T E size n xs new w0 (.returned (.tuple #[])) (wa.setCell ⟨LB, 0, none⟩ (.slice (some ⟨g, 0, none⟩) (n + 1) cap)) := by
  have hr := A.rw; have hb := A.br; have hl := A.lb; have hs := L.sz
  have nrb : some rb ≠ sv.ownBlock := fun e => own_ne L.own L.rd A.t2 e.symm
  have nlb : some LB ≠ sv.ownBlock := fun e => own_ne L.own L.lb A.t1 e.symm
  have brb : wa.heap[rb]? = w.heap[rb]? := hg.block rb (by omega) nrb
  have blb : wa.heap[LB]? = w.heap[LB]? := hg.block LB (by omega) nlb
  refine ⟨rfl, (block_ne _ _ _ _ _ (by omega)).trans (brb.trans L.rd), ⟨_, set_of_block (blb.trans L.lb) 0 _, own_set ho ?_⟩, ?_⟩
  · simp only [Value.ownBlock, ne_eq, Option.some.injEq]
    rintro rfl
    rcases hat with h | h
    · exact nlb h.symm
    · omega
  · refine (L.kp.trans ⟨hg.os, hg.tape, hg.output, hg.size, fun k hk _ => hg.block k (by omega) ?_⟩).set (Or.inl (by simp)) _ _
    intro e
    rcases L.own.2 with ⟨rfl, -⟩ | ⟨g', cap', cur', rfl, hg', -, -⟩
    · cases e
    · simp only [Value.ownBlock, Option.some.injEq] at e
      omega
end
theorem Tryz.info56 : (Tryz.prog.info? 38).map (fun i => (i.zero, i.size, i.bytes)) = some (some (.agg #[.int .u8 0, .complex .f64 0 0, .complex .f64 0 0, .float .f64 0]), 4, 48) := by kernel_rfl
/-- The law of append, without letters for addresses. -/
theorem step_app {ops : Array Oper} {o : Oper} {a : Act} {w : World} {K : Act → World → Prop} {Q : Exit → Act → World → Prop} {E : Prop} (hgd : o.guard = none) (s x : Operand) (t : TypeId)
    (ho : o.op = .call { callee := .builtin .append, args := #[s, x], argTypes := #[t, t] }) (base : Nat) (e : TypeId) (i : TypeInfo) (z : Value) (size bytes : Nat) (ht : Tryz.prog.underlying t = some (.slice e)) (hi : Tryz.prog.info? e = some i) (hz : i.zero = some z)
    (hsize : i.size = size) (hby : i.bytes = bytes) (hzs : z.cells.size = size) (hsz : 0 < size) (v : Value) (n : Nat) (xs : List Value) (hs : a.eval s = v) (hown : w.ownsRow base e size v n xs)
    (news : List Value) (hx : ∃ ad c, a.eval x = .slice (some ad) 1 c ∧ ∀ j u, news[j]? = some u → w.cell? (ad.add j) = some u) (hl : news.length = size) (h1 : ∀ u ∈ news, u.oneCell' = true)
    (h63 : n + 1 ≤ maxLen) (hbytes : (n + 1) * bytes ≤ 140737488355328) (hbase : base ≤ w.heap.size)
    (h : ∀ g cap w', w'.ownsRow base e size (.slice (some ⟨g, 0, none⟩) (n + 1) cap) (n + 1) (xs ++ news) → w.grownBy w' v.ownBlock → (v.ownBlock = some g ∨ g = w.heap.size) → g < w'.heap.size → K (a.put o.dst (.slice (some ⟨g, 0, none⟩) (n + 1) cap)) w') :
    if Region.wanted o (yielded ops a.tmps) = true then Oper.wp Tryz.prog o a w K Q else E := by
  obtain ⟨ad, c, hx, hn⟩ := hx
  exact step_append_lies w hgd s x t ho base e i z size bytes ht hi hz hsize hby hzs hsz v n xs hs hown ad 1 c news hx (by omega) hn h1 (by omega) h63 hbytes hbase _ rfl h
theorem whole_lt (l : By) (bits : Nat) (st : St) : (wholeS l bits st).1 < 2 ^ bits := by
  have h2 : 0 < 2 ^ bits := Nat.pow_pos (by decide)
  unfold wholeS
  split
  · simp only []
    split
    · exact h2
    · rename_i hb
      unfold badWhole at hb
      simp only [Bool.or_eq_true, not_or, decide_eq_true_eq] at hb
      exact Nat.lt_of_not_le hb.1.2
  · exact h2
def whCells (x : Wh) : List Value := [.complex .f64 x.1.1 x.1.2, .float .f64 x.2]
def trCells (x : Tr) : List Value := [.complex .f64 x.1.1 x.1.2, .float .f64 x.2.1, .int .u8 x.2.2]
def elCells (x : El) : List Value := [.int .u8 x.1, .complex .f64 x.2.1.1 x.2.1.2, .complex .f64 x.2.2.1.1 x.2.2.1.2, .float .f64 x.2.2.2]
set_option maxRecDepth 100000 in
set_option maxHeartbeats 8000000 in
theorem lineF_any (rb : Nat) (s : ByteArray) (i : Nat) (a : Int) (LB B0 n : Nat) (sv : Value) (xs : List Value) (w : World) (h : Rd w rb s i a) (hi : i ≤ s.size) (hs : s.size ≤ 70000) (A : At w B0 LB rb 239 38)
    (hl : w.heap[LB]? = some (.cells #[sv] 239 (0, 0))) (ho : w.ownsRow B0 38 4 sv n xs) (hn : n ≤ 70000) (V : Vars w) (hB0 : 10 ≤ B0) :
    Calls Tryz.prog 158 #[.pointer (some ⟨LB, 0, none⟩), .pointer (some ⟨rb, 0, none⟩)] w (LinePost B0 LB rb s (elemS s.data.toList (i, a)).2 239 38 4 n xs (elCells (elemS s.data.toList (i, a)).1) w) := by
  have L0 := Ln.begin (st := (i, a)) A h hl ho #[.int .u8 0, .complex .f64 0 0, .complex .f64 0 0, .float .f64 0]
  have hrw := A.rw
  have hbr := A.br
  have hlb := A.lb
  have LL := hid L0
  clear h hl ho L0
  have L0 := LL
  clear LL
  have hX : w.heap.size ≠ rb := by omega
  unfold elemS
  simp only []
  go_enter Tryz.func158, Tryz.ntmps158
  go_wp2_with fail
  have hV1 := V.keep L0.out.kp hB0 (by simpa using A.l40)
  refine (whole_any 8 (Or.inl rfl) rb s i a _ L0.out.rd hi hs hV1 (by have := L0.out.sz; omega) (by omega)).mono ?_
  rintro e w1 ⟨rfl, hR, hK⟩
  have L1 := hid (L0.out.call (S := []) A hK (by simp) hR)
  have hi1 := whole_le s.data.toList 8 (i, a) (by rw [size_list]; exact hi)
  rw [size_list] at hi1
  have hw1 := whole_lt s.data.toList 8 (i, a)
  obtain ⟨r1, hr1⟩ : ∃ r, r = wholeS s.data.toList 8 (i, a) := ⟨_, rfl⟩
  rw [show wholeS s.data.toList 8 ((i, a).1, (i, a).2) = r1 from hr1.symm] at L1 ⊢
  rw [← hr1] at hi1 hw1
  have E1 := hid hr1
  clear hr1 hR hK hV1
  have hu1 : IntKind.u8.wrap (r1.1 : Int) = (r1.1 : Int) := by rw [IntKind.wrap_u8]; omega
  have hs1 := L1.out.sz
  haveI : Has w1 w.heap.size := ⟨hs1⟩
  obtain ⟨v0, x0⟩ : ∃ v0, w1.cell? ⟨w.heap.size, 0, none⟩ = some v0 := ⟨_, by rw [cell_of_block L1.out.xb]; rfl⟩
  have f0 := free_of_block L1.out.xb 0
  have L1p := hid (L1.out.put A 0 (.int .u8 r1.1))
  go_wp2_with fail
  refine (must_blank rb s r1.2 w1.heap.size 1 _ (L1p.out.alloc A _).rd hi1 hs (by omega) (by simp [go_sem, blank])).mono ?_
  rintro e w2 ⟨rfl, hR, hK⟩
  have L2 := hid ((L1p.out.alloc A _).call (S := []) A hK (by simp) hR)
  have hi2 := must_le s.data.toList [[32]] r1.2 (by rw [size_list]; exact hi1)
  rw [size_list] at hi2
  obtain ⟨r2, hr2⟩ : ∃ r, r = mustS s.data.toList [[32]] r1.2 := ⟨_, rfl⟩
  rw [← hr2] at L2 hi2
  have E2 := hid hr2
  clear hr2 hR hK
  have hs2 := L2.out.sz
  haveI : HasSize w2 w2.heap.size := ⟨rfl⟩
  go_wp2_with fail
  refine (number_any rb s r2.1 r2.2 w2.heap.size 0 (.complex .f64 0 0) _ ((L2.out.alloc A _).alloc A _).rd hi2 hs (by omega) (by simp [go_sem]) (by simp [go_sem])).mono ?_
  rintro e w3 ⟨rfl, hR, hx, hK⟩
  have L3 := hid (((L2.out.alloc A _).alloc A _).call (S := [w2.heap.size]) A hK (by simp; exact hs2) hR)
  have y1 : w3.heap[w2.heap.size]? = some (.cells #[.complex .f64 (numS s.data.toList r2).1.1 (numS s.data.toList r2).1.2] 31 (0, 0)) := hx.trans (set_of_block (c := #[.complex .f64 0 0]) (by simp only [block_alloc', block_at]) 0 _)
  have y2 : w3.heap[w2.heap.size + 1]? = some (.cells #[.complex .f64 0 0] 31 (0, 0)) := (hK.block (w2.heap.size + 1) (by simp) (by simp; omega)).trans (by simp only [block_at])
  have hi3 := num_le s.data.toList r2 (by rw [size_list]; exact hi2)
  rw [size_list] at hi3
  obtain ⟨r3, hr3⟩ : ∃ r, r = numS s.data.toList r2 := ⟨_, rfl⟩
  rw [show numS s.data.toList (r2.1, r2.2) = r3 from hr3.symm] at L3
  rw [← hr3] at hi3 y1
  have E3 := hid hr3
  clear hr3 hR hx hK
  have hs3 := L3.out.sz
  have hy1 := lt_of_block y1
  have hy2 := lt_of_block y2
  go_wp2_with fail
  refine (must_blank rb s r3.2 w3.heap.size 1 _ (L3.out.alloc A _).rd hi3 hs (by omega) (by simp [go_sem, blank])).mono ?_
  rintro e w4 ⟨rfl, hR, hK⟩
  have L4 := hid ((L3.out.alloc A _).call (S := []) A hK (by simp) hR)
  have hi4 := must_le s.data.toList [[32]] r3.2 (by rw [size_list]; exact hi3)
  rw [size_list] at hi4
  obtain ⟨r4, hr4⟩ : ∃ r, r = mustS s.data.toList [[32]] r3.2 := ⟨_, rfl⟩
  rw [← hr4] at L4 hi4
  have E4 := hid hr4
  have y1' := (hK.block w2.heap.size (by simp; omega) (by simp; omega)).trans ((Below.heap_alloc w3 _ _ hy1).trans y1)
  have y2' := (hK.block (w2.heap.size + 1) (by simp; omega) (by simp; omega)).trans ((Below.heap_alloc w3 _ _ hy2).trans y2)
  clear hr4 hR hK y1 y2
  have hs4 := L4.out.sz
  go_wp2_with fail
  refine (number_any rb s r4.1 r4.2 (w2.heap.size + 1) 0 (.complex .f64 0 0) _ L4.out.rd hi4 hs (by omega) (by rw [cell_of_block y2']; rfl) (free_of_block y2' 0)).mono ?_
  rintro e w5 ⟨rfl, hR, hx, hK⟩
  have L5 := hid (L4.out.call (S := [w2.heap.size + 1]) A hK (by simp; omega) hR)
  have y2 := hx.trans (set_of_block y2' 0 _)
  have y1 := (hK.block w2.heap.size (lt_of_block y1') (by simp; omega)).trans y1'
  have hi5 := num_le s.data.toList r4 (by rw [size_list]; exact hi4)
  rw [size_list] at hi5
  obtain ⟨r5, hr5⟩ : ∃ r, r = numS s.data.toList r4 := ⟨_, rfl⟩
  rw [show numS s.data.toList (r4.1, r4.2) = r5 from hr5.symm] at L5 y2
  rw [← hr5] at hi5
  have E5 := hid hr5
  clear hr5 hR hx hK y1' y2'
  have hs5 := L5.out.sz
  have hz1 := lt_of_block y1
  have hz2 := lt_of_block y2
  go_wp2_with fail
  refine (must_blank rb s r5.2 w5.heap.size 1 _ (L5.out.alloc A _).rd hi5 hs (by omega) (by simp [go_sem, blank])).mono ?_
  rintro e w6 ⟨rfl, hR, hK⟩
  have L6 := hid ((L5.out.alloc A _).call (S := []) A hK (by simp) hR)
  have hi6 := must_le s.data.toList [[32]] r5.2 (by rw [size_list]; exact hi5)
  rw [size_list] at hi6
  obtain ⟨r6, hr6⟩ : ∃ r, r = mustS s.data.toList [[32]] r5.2 := ⟨_, rfl⟩
  rw [← hr6] at L6 hi6
  have E6 := hid hr6
  have y1' := (hK.block w2.heap.size (by simp; omega) (by simp; omega)).trans ((Below.heap_alloc w5 _ _ hz1).trans y1)
  have y2' := (hK.block (w2.heap.size + 1) (by simp; omega) (by simp; omega)).trans ((Below.heap_alloc w5 _ _ hz2).trans y2)
  have hv1 := lt_of_block y1'
  have hv2 := lt_of_block y2'
  clear hr6 hR hK y1 y2
  have hs6 := L6.out.sz
  go_wp2_with fail
  have hxb := (L6.out.alloc A (.cells #[.pointer (some ⟨w.heap.size, 3, none⟩)] 276)).xb
  refine (floats_one rb s r6.1 r6.2 w6.heap.size w.heap.size 3 1 (.float .f64 0) _ (L6.out.alloc A _).rd hi6 hs (by omega) hX (by omega) (by simp [go_sem]) (by rw [cell_of_block hxb]; rfl) (free_of_block hxb 3)).mono ?_
  rintro e w7 ⟨rfl, hR, hx, hK⟩
  have L7 := hid ((L6.out.alloc A _).callX A 3 _ hK hR hx)
  have y1 := (hK.block w2.heap.size (by simp; omega) (by simp; omega)).trans ((Below.heap_alloc w6 _ _ hv1).trans y1')
  have y2 := (hK.block (w2.heap.size + 1) (by simp; omega) (by simp; omega)).trans ((Below.heap_alloc w6 _ _ hv2).trans y2')
  clear hR hx hK hxb
  have hi7 := float_le s.data.toList r6 (by rw [size_list]; exact hi6)
  rw [size_list] at hi7
  obtain ⟨r7, hr7⟩ : ∃ r, r = floatS s.data.toList r6 := ⟨_, rfl⟩
  rw [show floatS s.data.toList (r6.1, r6.2) = r7 from hr7.symm] at L7
  rw [← hr7] at hi7
  have E7 := hid hr7
  clear hr7
  have hs7 := L7.out.sz
  have p1 := cell_of_block y1 0
  have p2 := cell_of_block y2 0
  simp at p1 p2
  haveI : Has w7 w2.heap.size := ⟨lt_of_block y1⟩
  haveI : Has w7 (w2.heap.size + 1) := ⟨lt_of_block y2⟩
  haveI : Has w7 w.heap.size := ⟨hs7⟩
  obtain ⟨v1, k1⟩ : ∃ v0, w7.cell? ⟨w.heap.size, 1, none⟩ = some v0 := ⟨_, by rw [cell_of_block L7.out.xb]; rfl⟩
  obtain ⟨v2, k2⟩ : ∃ v0, w7.cell? ⟨w.heap.size, 2, none⟩ = some v0 := ⟨_, by rw [cell_of_block L7.out.xb]; rfl⟩
  have f1 := free_of_block L7.out.xb 1
  have f2 := free_of_block L7.out.xb 2
  clear y1 y2 y1' y2'
  have L8 := hid ((L7.out.put A 1 (.complex .f64 r3.1.1 r3.1.2)).put A 2 (.complex .f64 r5.1.1 r5.1.2))
  go_wp2_with fail
  generalize (w7.setCell ⟨w.heap.size, 1, none⟩ (.complex .f64 r3.1.1 r3.1.2)).setCell ⟨w.heap.size, 2, none⟩ (.complex .f64 r5.1.1 r5.1.2) = w8 at L8 ⊢
  clear p1 p2 v1 k1 v2 k2 f1 f2
  have bX : w8.heap[w.heap.size]? = some (.cells #[.int .u8 r1.1, .complex .f64 r3.1.1 r3.1.2, .complex .f64 r5.1.1 r5.1.2, .float .f64 r7.1] 38 (0, 0)) := by have := L8.out.xb; simpa using this
  have x0 := cell_of_block bX 0
  have x1 := cell_of_block bX 1
  have x2 := cell_of_block bX 2
  have x3 := cell_of_block bX 3
  have l0 := cell_of_block L8.out.lb 0
  have lf := free_of_block L8.out.lb 0
  simp at x0 x1 x2 x3 l0
  have hs8 := L8.out.sz
  haveI : Has w8 LB := ⟨lt_of_block L8.out.lb⟩
  haveI : Has w8 w.heap.size := ⟨lt_of_block bX⟩
  have nvl : some LB ≠ sv.ownBlock := fun e => own_ne L8.out.own L8.out.lb A.t1 e.symm
  obtain ⟨ti, hti, htz, hts, htb⟩ := info_parts Tryz.info56
  have b0s : B0 ≤ w8.heap.size := by omega
  clear bX
  go_region_law ((refine step_app (by rfl) _ _ _ (by rfl) B0 38 ti _ 4 48 Tryz.underlying27 hti htz hts htb rfl (by omega) sv n xs (by rfl) (by (repeat' (first | exact L8.out.own | apply World.ownsRow.alloc | apply World.ownsRow.drew))) [.int .u8 r1.1, .complex .f64 r3.1.1 r3.1.2, .complex .f64 r5.1.1 r5.1.2, .float .f64 r7.1] (by refine Exists.intro _ (Exists.intro _ (And.intro rfl (World.news_of_block (cs := #[.int .u8 r1.1, .complex .f64 r3.1.1 r3.1.2, .complex .f64 r5.1.1 r5.1.2, .float .f64 r7.1]) (t := 38) (fr := (0, 0)) ?_))); first | (simp only [block_drew, block_at]; done) | (simp only [block_drew, block_alloc', block_at]; done)) (by rfl) (by simp [Value.oneCell']) (by unfold maxLen; omega) (by omega) (by simp; omega) ?_); intro g1 cp1 wa hown1 hgrow hat hlt; have bp := (hgrow.block LB (by simp; omega) nvl).trans (by simp only [block_drew, block_alloc']; exact L8.out.lb); have cc2 := cell_of_block bp 0; have ff2 := free_of_block bp 0; simp at cc2; haveI : Has wa LB := ⟨lt_of_block bp⟩)
  all_goals
    go_end0
    have e1 := E1.out
    have e2 := E2.out
    have e3 := E3.out
    have e4 := E4.out
    have e5 := E5.out
    have e6 := E6.out
    have e7 := E7.out
    rw [← e1, ← e2, ← e3, ← e4, ← e5, ← e6, ← e7]
    have LF : ∃ cx, Ln w B0 LB rb s r7.2 sv 239 38 4 n xs cx w8 := ⟨_, L8.out⟩
    obtain ⟨cx, LF⟩ := LF
    refine Ln.fin (cx := cx) ?_ A hown1 hgrow hat
    (repeat' (first | exact LF | (refine Ln.alloc ?_ A _) | (refine Ln.drew ?_)))
end
end Go.Proofs.YtmjpfoninpbgiaaGreatDoor
