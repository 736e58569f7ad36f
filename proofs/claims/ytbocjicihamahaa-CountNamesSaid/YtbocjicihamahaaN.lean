/- Zeros in a box, of the given program: what the call does (2). -/
import Derived.Test.YtbocjicihamahaaM
set_option linter.unusedSimpArgs false
set_option linter.unusedVariables false
namespace Go.Proofs.Ytbocjicihamahaa
open Go.RowKit

theorem leanOf_le {l : List Pl} {p q : Pl} {k : Int} (h : leanOf l p q = some k) : k ≤ 3 := by
  unfold leanOf at h
  split at h
  · obtain ⟨v, _, h⟩ := bind_some h
    injection h with h
    subst h
    split
    · exact (lean_range _).2
    · omega
  · cases h
def rangeS (ks : List Int) : Prop := ∀ k ∈ ks, 0 ≤ k ∧ k ≤ 3
theorem range_snoc {ks : List Int} {k : Int} (h : rangeS ks) (h0 : 0 ≤ k) (h3 : k ≤ 3) : rangeS (ks ++ [k]) := by
  intro x hx
  rcases List.mem_append.1 hx with hx | hx
  · exact h x hx
  · simp only [List.mem_singleton] at hx
    subst hx
    exact ⟨h0, h3⟩
theorem halfS_ok (l : List Pl) : ∀ (d : Nat) (p q : Pl) (n : Nat) (ks : List Int) (r : Bool × Nat × List Int), rangeS ks → halfS l d p q n ks = some r → rangeS r.2.2 ∧ ks.length ≤ r.2.2.length ∧ (r.1 = true → ks.length < r.2.2.length) := by
  intro d
  induction d with
  | zero =>
    intro p q n ks r hk h
    rw [halfS_eq] at h
    split at h
    · cases h; exact ⟨hk, Nat.le_refl _, by simp⟩
    · obtain ⟨k, hl, h⟩ := bind_some h
      split at h
      · rename_i h0
        cases h; exact ⟨range_snoc hk h0 (leanOf_le hl), by simp, by simp⟩
      · obtain ⟨m, _, h⟩ := bind_some h
        cases h; exact ⟨hk, Nat.le_refl _, by simp⟩
  | succ d ih =>
    intro p q n ks r hk h
    rw [halfS_eq] at h
    split at h
    · cases h; exact ⟨hk, Nat.le_refl _, by simp⟩
    · obtain ⟨k, hl, h⟩ := bind_some h
      split at h
      · rename_i h0
        cases h; exact ⟨range_snoc hk h0 (leanOf_le hl), by simp, by simp⟩
      · obtain ⟨m, _, h⟩ := bind_some h
        simp only [endS] at h
        split at h
        · cases h; exact ⟨hk, Nat.le_refl _, by simp⟩
        · split at h
          · cases h; exact ⟨hk, Nat.le_refl _, by simp⟩
          · obtain ⟨r1, h1, h2⟩ := bind_some h
            have b1 := ih p m (n + 1) ks r1 hk h1
            split at h2
            · have b2 := ih m q _ _ r b1.1 h2
              exact ⟨b2.1, Nat.le_trans b1.2.1 b2.2.1, fun hr => Nat.lt_of_le_of_lt b1.2.1 (b2.2.2 hr)⟩
            · cases h2; exact b1
theorem overGo_ok (l : List Pl) (d : Nat) (path : List Pl) : ∀ (m i n : Nat) (ks : List Int) (r : Bool × Nat × List Int), rangeS ks → overGo l d path m i n ks = some r → rangeS r.2.2 ∧ ks.length ≤ r.2.2.length ∧ (0 < m → r.1 = true → ks.length < r.2.2.length) := by
  intro m
  induction m with
  | zero => intro i n ks r hk h; cases h; exact ⟨hk, Nat.le_refl _, by simp⟩
  | succ m ih =>
    intro i n ks r hk h
    simp only [overGo] at h
    obtain ⟨r1, h1, h2⟩ := bind_some h
    have b1 := halfS_ok l d _ _ _ _ _ hk h1
    split at h2
    · rename_i hr1
      have b2 := ih _ _ _ _ b1.1 h2
      exact ⟨b2.1, Nat.le_trans b1.2.1 b2.2.1, fun _ _ => Nat.lt_of_lt_of_le (b1.2.2 hr1) b2.2.1⟩
    · cases h2; exact ⟨b1.1, b1.2.1, fun _ => b1.2.2⟩
theorem overGo_ne {l : List Pl} {d : Nat} {path : List Pl} {m n : Nat} {r : Bool × Nat × List Int} (hm : 0 < m) (h : overGo l d path m 0 n [] = some r) : r.1 = true → 0 < r.2.2.length ∧ ∀ k ∈ r.2.2, 0 ≤ k ∧ k ≤ 3 := by
  have b := overGo_ok l d path m 0 n [] r (by intro k hk; cases hk) h
  exact fun hr => ⟨b.2.2 hm hr, b.1⟩
theorem first3 (a b c : Int) (g : Nat) (T : TypeId) (w : World) (h : w.heap[g]? = some (.cells #[.int .i64 a, .int .i64 b, .int .i64 c] T (0, 0))) :
    Calls Try.prog 11 #[.slice (some ⟨g, 0, none⟩) 3 3] w fun e w' => e = .returned (.int .i64 (firstS [a, b, c])) ∧ w = w' := by
  refine first_any [a, b, c] g 0 3 w (by simp) fun i hi => ?_
  rw [cell_of_block h, Nat.zero_add]
  have : i = 0 ∨ i = 1 ∨ i = 2 := by
    simp only [List.length_cons, List.length_nil] at hi
    omega
  rcases this with rfl | rfl | rfl <;> rfl
theorem first4 (a b c d : Int) (g : Nat) (T : TypeId) (w : World) (h : w.heap[g]? = some (.cells #[.int .i64 a, .int .i64 b, .int .i64 c, .int .i64 d] T (0, 0))) :
    Calls Try.prog 11 #[.slice (some ⟨g, 0, none⟩) 4 4] w fun e w' => e = .returned (.int .i64 (firstS [a, b, c, d])) ∧ w = w' := by
  refine first_any [a, b, c, d] g 0 4 w (by simp) fun i hi => ?_
  rw [cell_of_block h, Nat.zero_add]
  have : i = 0 ∨ i = 1 ∨ i = 2 ∨ i = 3 := by
    simp only [List.length_cons, List.length_nil] at hi
    omega
  rcases this with rfl | rfl | rfl | rfl <;> rfl
theorem firstS_out {a b c : Int} (h : firstS [a, b, c] = 0) : c = 0 := by
  simp only [firstS] at h
  split at h
  · split at h
    · split at h
      · assumption
      · exact h
    · contradiction
  · contradiction
theorem below_only {B C p : Nat} {a W w1 : World} (h : Below B a W) (hO : Only C p W w1) (hB : B ≤ C) (hp : B ≤ p) : Below B a w1 :=
  h.trans ⟨hO.os, hO.tape, hO.output, hO.size, fun k hk => hO.block k (by omega) (by omega)⟩
/-- How often a walk's leans go round. -/
def roundS (ks : List Int) : Int := (turnsS ks (ks.getLastD 0) 0).tdiv 4
def zerosS (l : List Pl) (x : Bx) (d : Int) : Option (Int × Int) :=
  if firstS [askedS l, insideS x, deepS d] = 0 then (overGo l d.toNat (borderS x) 4 0 0 []).bind fun r => some (if r.1 = true then (roundS r.2.2, 0) else (0, 130))
  else some (0, firstS [askedS l, insideS x, deepS d])
set_option maxRecDepth 100000 in
set_option maxHeartbeats 4000000 in
theorem zeros_any (l : List Pl) (x : Bx) (dp : Int) (b off cap : Nat) (w : World) (a : Int × Int) (hok : polyOk l = true) (hb : b < w.heap.size) (hrd : reads w b off l) (h : zerosS l x dp = some a) :
    Calls Try.prog 4 #[.slice (some ⟨b, off, none⟩) l.length cap, .agg #[.complex .f64 x.1.1 x.1.2, .complex .f64 x.2.1 x.2.2], .int .i64 dp] w fun e w' =>
      e = .returned (.tuple #[.int .i64 a.1, .int .i64 a.2]) ∧ Below w.heap.size w w' := by
  haveI : Has w b := ⟨hb⟩
  have hmf := run_makeFunc
  have H := hid h
  have RD := hid hrd
  clear h hrd
  go_enter Try.func4, Try.ntmps4
  go_upto_region 1 with fail
  go_cut [8] (fun s8 wx => s8 = .int .i64 (firstS [askedS l, insideS x, deepS dp]) ∧ ∃ os dd, wx = ((w.alloc (.cells #[.complex .f64 x.1.1 x.1.2, .complex .f64 x.2.1 x.2.2] 29)).alloc (.cells #[.int .i64 dp] 3)).plus os dd)
  case first =>
    go_region_held3 (fun W => W.cell? ⟨w.heap.size, 0, none⟩ = some (.complex .f64 x.1.1 x.1.2) ∧ W.cell? ⟨w.heap.size, 1, none⟩ = some (.complex .f64 x.2.1 x.2.2) ∧ W.cell? ⟨w.heap.size + 1, 0, none⟩ = some (.int .i64 dp)) (refine ⟨?_, ?_, ?_⟩ <;> (simp [go_sem]; done)) (first | (go_at_call 12; ((with_reducible refine (casked_any l b off cap _ hok (reads_of (fun o => by simp [go_sem]) RD.out) Has.lt).mono ?_); rintro e wq ⟨rfl, rfl⟩)) | (go_at_call 13; ((with_reducible refine (inside_any x _).mono ?_); rintro e wq ⟨rfl, hb⟩); obtain ⟨os, d, rfl⟩ := plus_of_below hb; clear hb) | (go_at_call 14; ((with_reducible refine (deep_any dp _).mono ?_); rintro e wq ⟨rfl, rfl⟩)) | (go_at_call 11; ((with_reducible refine Calls.mono (first3 (askedS l) (insideS x) (deepS dp) _ 22 _ (by simp only [block_drew, block_at])) ?_); rintro e wq ⟨rfl, rfl⟩)))
    all_goals
      go_wp2_with fail
      go_meet
      refine ⟨rfl, plus_of_below ?_⟩
      (repeat' (first | exact Below.refl _ _ | (refine Below.alloc ?_ ?_ _) | (refine below_plus ?_ ?_ _ _) | (refine Below.drew ?_) | (refine Below.setCell ?_ ?_ _) | (simp; done) | (simp; omega) | assumption))
  case rest =>
    obtain ⟨rfl, os, dd, rfl⟩ := hcut
    have h := H.out
    unfold zerosS at h
    generalize hf : firstS [askedS l, insideS x, deepS dp] = f at h
    have HF := hid hf
    clear hf
    by_cases h0 : f = 0
    · rw [if_pos h0] at h
      subst h0
      obtain ⟨r, hr, h2⟩ := bind_some h
      have h3 := Option.some.inj h2
      have hdeep : deepS dp = 0 := firstS_out HF.out
      obtain ⟨hd0, hd24⟩ : 0 ≤ dp ∧ dp ≤ 24 := by
        unfold deepS at hdeep
        split at hdeep
        · cases hdeep
        · split at hdeep
          · cases hdeep
          · omega
      obtain ⟨dn, rfl⟩ := Int.eq_ofNat_of_zero_le hd0
      rw [Int.toNat_natCast] at hr
      have hdn : dn ≤ 24 := by omega
      have HR := hid hr
      have HA := hid h3
      clear h h2 h3 hr H hdeep
      go_wp2_with fail
      refine (surely_any 16 _ _ r.1 (fun w' => ∃ w1, Only (w.heap.size + 1 + 1 + os.size + 1 + 1 + 1) (w.heap.size + 1 + 1 + os.size) ((((((w.alloc (.cells #[.complex .f64 x.1.1 x.1.2, .complex .f64 x.2.1 x.2.2] 29)).alloc (.cells #[.int .i64 dn] 3)).plus os dd).alloc (.cells #[.slice (some ⟨b, off, none⟩) l.length cap, .int .i64 0, .slice none 0 0] 48)).alloc (.cells #[.pointer (some ⟨w.heap.size + 1 + 1 + os.size, 0, none⟩)] 46)).alloc (.cells #[.int .i64 0] 3)) w1 ∧ w' = if r.1 = true then w1.setCell ⟨w.heap.size + 1 + 1 + os.size + 1 + 1, 0, none⟩ (.int .i64 (roundS r.2.2)) else w1) (fun _ => rfl) ((zclo_any l x b off cap (w.heap.size + 1 + 1 + os.size + 1) w.heap.size (w.heap.size + 1) (w.heap.size + 1 + 1 + os.size + 1 + 1) (w.heap.size + 1 + 1 + os.size) (by omega) (by omega) (by omega) (by omega) (by omega) (by omega) (by omega) (by omega) dn hdn 0 (.slice none 0 0) (.int .i64 0) _ r (by omega) Has.lt ?_ ?_ ?_ ?_ ?_ ?_ HR.out (overGo_ne (by decide) HR.out)).mono ?_)).mono ?_
      · simp only [block_alloc', block_plus', block_drew, block_at]
        rfl
      · exact reads_of (fun o => by simp [go_sem]) RD.out
      · simp [go_sem]
      · simp only [block_alloc', block_plus', block_drew, block_at]
      · simp [go_sem]
      · simp only [block_alloc', block_plus', block_drew, block_at]
      · rintro e w' ⟨he, v', w1, hb1, hO, rfl⟩
        refine ⟨he, ?_, w1, ?_, rfl⟩
        · have hbool := (hO.block (w.heap.size + 1 + 1 + os.size + 1 + 1 + 1) (by simp) (by omega)).trans (block_at _ _ _)
          simp only [World.size_alloc, size_plus]
          split
          · rw [block_ne _ _ _ _ _ (by omega)]
            exact hbool
          · exact hbool
        · refine Only.trans (Only.alloc (Only.refl _ _ _) (by simp) _) (hO.mono (by simp))
      · rintro e w'' ⟨rfl, w1x, ⟨w1, hO, rfl⟩, hlt, hB⟩
        have hW : Below w.heap.size w ((((((w.alloc (.cells #[.complex .f64 x.1.1 x.1.2, .complex .f64 x.2.1 x.2.2] 29)).alloc (.cells #[.int .i64 dn] 3)).plus os dd).alloc (.cells #[.slice (some ⟨b, off, none⟩) l.length cap, .int .i64 0, .slice none 0 0] 48)).alloc (.cells #[.pointer (some ⟨w.heap.size + 1 + 1 + os.size, 0, none⟩)] 46)).alloc (.cells #[.int .i64 0] 3)) := by (repeat' (first | exact Below.refl _ _ | (refine Below.alloc ?_ ?_ _) | (refine below_plus ?_ ?_ _ _) | (refine Below.drew ?_) | (refine Below.setCell ?_ ?_ _) | (simp; done) | (simp; omega) | assumption))
        have h1 : Below w.heap.size w w1 := below_only hW hO (by omega) (by omega)
        simp only [World.size_alloc, size_plus] at hB
        cases hr1 : r.1
        case true =>
          rw [if_pos hr1] at hB
          have ha := HA.out
          rw [if_pos hr1] at ha
          cases ha
          have hc : w''.cell? ⟨w.heap.size + 1 + 1 + os.size + 1 + 1, 0, none⟩ = some (.int .i64 (roundS r.2.2)) := by
            have hcn := (hO.block (w.heap.size + 1 + 1 + os.size + 1 + 1) (by omega) (by omega)).trans (block_at _ _ _)
            have h2 := set_of_block hcn 0 (.int .i64 (roundS r.2.2))
            have h3 := (hB.block (w.heap.size + 1 + 1 + os.size + 1 + 1) (by omega)).trans h2
            have h4 := cell_of_block h3 0
            simpa using h4
          have hfin : Below w.heap.size w w'' := (Below.setCell (p := ⟨w.heap.size + 1 + 1 + os.size + 1 + 1, 0, none⟩) h1 (by show w.heap.size ≤ w.heap.size + 1 + 1 + os.size + 1 + 1; omega) _).trans (hB.mono (by omega))
          clear hW h1 hO hB hlt
          go_wp2_with fail
          go_ret2
          exact ⟨rfl, hfin⟩
        case false =>
          rw [if_neg (by simp [hr1])] at hB
          have ha := HA.out
          rw [if_neg (by simp [hr1])] at ha
          cases ha
          have hfin : Below w.heap.size w w'' := h1.trans (hB.mono (by omega))
          clear hW h1 hO hB hlt
          go_wp2_with fail
          go_ret2
          exact ⟨rfl, hfin⟩
    · rw [if_neg h0] at h
      injection h with h
      subst h
      have e0 : (f != 0) = true := by simp [h0]
      clear h0
      go_wp2_with fail
      go_ret2
      exact ⟨rfl, by (repeat' (first | exact Below.refl _ _ | (refine Below.alloc ?_ ?_ _) | (refine below_plus ?_ ?_ _ _) | (refine Below.drew ?_) | (refine Below.setCell ?_ ?_ _) | (simp; done) | (simp; omega) | assumption))⟩
end Go.Proofs.Ytbocjicihamahaa
