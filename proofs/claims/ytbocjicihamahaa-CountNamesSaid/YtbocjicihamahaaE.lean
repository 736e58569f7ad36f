/- Polynomials that may be, of the given program: what the checks answer. -/
import Derived.Test.YtbocjicihamahaaD
set_option linter.unusedSimpArgs false
set_option linter.unusedVariables false
namespace Go.Proofs.Ytbocjicihamahaa
open Go.RowKit

def reads (w : World) (b off : Nat) (l : List Pl) : Prop := ∀ i, i < l.length → w.cell? ⟨b, off + i, none⟩ = some (.complex .f64 (l.getD i (0, 0)).1 (l.getD i (0, 0)).2)
def maxReal : Nat := 4787326403894837248
theorem place_any (a b : Nat) (w : World) :
    Calls Try.prog 33 #[.complex .f64 a b] w fun e w' => e = .returned (.bool (cwithin a b maxReal)) ∧ w = w' := by
  go_enter Try.func33, Try.ntmps33
  go_wp2_with (go_at_call 36; refine (pwithin_any _ _ _ _).mono ?_; rintro e w' ⟨rfl, rfl⟩)
  go_ret
  exact ⟨rfl, rfl⟩
theorem far_any (a b : Nat) (w : World) :
    Calls Try.prog 32 #[.complex .f64 a b] w fun e w' => e = .returned (.bool (!cwithin a b maxReal)) ∧ w = w' := by
  have hn := run_not
  go_enter Try.func32, Try.ntmps32
  go_wp2_with (go_at_call 33; refine (place_any _ _ _).mono ?_; rintro e w' ⟨rfl, rfl⟩)
  go_ret
  exact ⟨rfl, rfl⟩
def cnought (a b : Nat) : Bool := feq a 0 && feq b 0
theorem nought_any (a b : Nat) (w : World) :
    Calls Try.prog 35 #[.complex .f64 a b] w fun e w' => e = .returned (.bool (cnought a b)) ∧ w = w' := by
  go_enter Try.func35, Try.ntmps35
  go_wp2
  all_goals (go_ret; exact ⟨by simp_all [cnought, feq], rfl⟩)
set_option maxHeartbeats 400000 in
theorem index_none (l : List Pl) (b off cap : Nat) (w : World) (hn : l.length ≤ 4096) (hc : reads w b off l) (hp : ∀ i, i < l.length → cwithin (l.getD i (0, 0)).1 (l.getD i (0, 0)).2 maxReal = true) :
    Calls Try.prog 51 #[.slice (some ⟨b, off, none⟩) l.length cap, .func (.func 32) #[] #[]] w fun e w' => e = .returned (.int .i64 (-1)) ∧ w = w' := by
  have HC := hid hc
  have HP := hid hp
  clear hc hp
  have hnot := run_not
  go_enter Try.func51, Try.ntmps51
  go_wp2
  go_loop [5, 8] (fun _ i => ∃ k : Nat, k ≤ l.length ∧ i = .int .i64 k) (fun _ i => l.length - (intOf i).toNat)
  case atStart => exact ⟨0, Nat.zero_le _, rfl⟩
  case round =>
    obtain ⟨k, hk, rfl⟩ := hrel
    by_cases hlt : k < l.length
    · have hcell := HC.out k hlt
      have hpl := HP.out k hlt
      have hne : (!cwithin (l.getD k (0, 0)).1 (l.getD k (0, 0)).2 maxReal) = false := by rw [hpl]; rfl
      clear hpl
      generalize hz : l.getD k (0, 0) = z at hcell hne
      clear hz
      go_wp2_with (go_at_call 32; refine (far_any _ _ _).mono ?_; rintro e w' ⟨rfl, rfl⟩)
      go_round
      case rel => exact ⟨k + 1, by omega, by go_num⟩
      case measure => simp [intOf]; omega
    · go_wp2
      go_ret
      exact ⟨rfl, rfl⟩
theorem contains_none (l : List Pl) (b off cap : Nat) (w : World) (hn : l.length ≤ 4096) (hc : reads w b off l) (hp : ∀ i, i < l.length → cwithin (l.getD i (0, 0)).1 (l.getD i (0, 0)).2 maxReal = true) :
    Calls Try.prog 34 #[.slice (some ⟨b, off, none⟩) l.length cap, .func (.func 32) #[] #[]] w fun e w' => e = .returned (.bool false) ∧ w = w' := by
  have HC := hid hc
  have HP := hid hp
  clear hc hp
  go_enter Try.func34, Try.ntmps34
  go_wp2_with (go_at_call 51; refine (index_none l b off cap _ hn HC.out HP.out).mono ?_; rintro e w' ⟨rfl, rfl⟩)
  go_ret
  exact ⟨rfl, rfl⟩
/-- A list of coefficients that poly.Check lets by. -/
def polyOk (l : List Pl) : Bool :=
  decide (0 < l.length) && decide (l.length ≤ 65) && l.all (fun z => cwithin z.1 z.2 maxReal) && (decide (l.length = 1) || !cnought (l.getD (l.length - 1) (0, 0)).1 (l.getD (l.length - 1) (0, 0)).2)
theorem polyOk_out {l : List Pl} (h : polyOk l = true) : 0 < l.length ∧ l.length ≤ 65 ∧ (∀ i, i < l.length → cwithin (l.getD i (0, 0)).1 (l.getD i (0, 0)).2 maxReal = true) ∧ (l.length = 1 ∨ cnought (l.getD (l.length - 1) (0, 0)).1 (l.getD (l.length - 1) (0, 0)).2 = false) := by
  simp only [polyOk, Bool.and_eq_true, decide_eq_true_eq, Bool.or_eq_true, Bool.not_eq_true', List.all_eq_true] at h
  obtain ⟨⟨⟨h1, h2⟩, h3⟩, h4⟩ := h
  refine ⟨h1, h2, fun i hi => ?_, h4⟩
  have : l.getD i (0, 0) = l[i] := by simp [List.getD, hi]
  rw [this]
  exact h3 _ (List.getElem_mem hi)
set_option maxHeartbeats 400000 in
theorem polycheck_ok (l : List Pl) (b off cap : Nat) (w : World) (hok : polyOk l = true) (hc : reads w b off l) :
    Calls Try.prog 19 #[.slice (some ⟨b, off, none⟩) l.length cap] w fun e w' => e = .returned (.int .i64 0) ∧ w = w' := by
  obtain ⟨h1, h2, h3, h4⟩ := polyOk_out hok
  have HC := hid hc
  have HP := hid h3
  have H4 := hid h4
  clear hc h3 hok h4
  have e0 : ((l.length : Int) == 0) = false := beq_eq_false_iff_ne.2 (by omega)
  have e1 : decide ((l.length : Int) > 65) = false := decide_eq_false (by omega)
  by_cases hone : l.length = 1
  · have e2 : decide ((l.length : Int) > 1) = false := decide_eq_false (by omega)
    clear hone
    go_enter Try.func19, Try.ntmps19
    go_wp2_with (go_at_call 34; refine (contains_none l b off cap _ (by omega) HC.out HP.out).mono ?_; rintro e w' ⟨rfl, rfl⟩)
    go_ret
    exact ⟨rfl, rfl⟩
  · have hq := H4.out.resolve_left hone
    have hcell := HC.out (l.length - 1) (by omega)
    have e3 : ((l.length : Int) - 1) = ((l.length - 1 : Nat) : Int) := by omega
    have e2 : decide ((l.length : Int) > 1) = true := decide_eq_true (by omega)
    generalize hz : l.getD (l.length - 1) (0, 0) = z at hcell hq
    clear hz hone
    go_enter Try.func19, Try.ntmps19
    go_wp2_with (first | (go_at_call 34; refine (contains_none l b off cap _ (by omega) HC.out HP.out).mono ?_; rintro e w' ⟨rfl, rfl⟩) | (go_at_call 35; refine (nought_any _ _ _).mono ?_; rintro e w' ⟨rfl, rfl⟩))
    go_ret
    exact ⟨rfl, rfl⟩

theorem point_fin (a b : Nat) (w : World) (h : cfin a b = true) :
    Calls Try.prog 78 #[.complex .f64 a b] w fun e w' => e = .returned (.tuple #[bv ((fminS a a, fminS b b), (fmaxS a a, fmaxS b b)), .int .i64 0]) ∧ Below w.heap.size w w' := by
  have hn := run_not
  go_enter Try.func78, Try.ntmps78
  go_wp2_with (first | (go_at_call 47; go_in) | (go_at_call 60; go_in) | (go_at_call 45; refine (pfinite_any _ _ _).mono ?_; rintro e w' ⟨rfl, rfl⟩) | (go_at_call 59; refine (min_any _ _ _).mono ?_; rintro e w' ⟨rfl, rfl⟩) | (go_at_call 38; refine (max_any _ _ _).mono ?_; rintro e w' ⟨rfl, rfl⟩))
  go_goals
  go_returns
  exact ⟨rfl, by go_grown⟩
theorem make_fin (a b c d : Nat) (w : World) (h1 : cfin a b = true) (h2 : cfin c d = true) :
    Calls Try.prog 47 #[.complex .f64 a b, .complex .f64 c d] w fun e w' => e = .returned (.tuple #[bv ((fminS a c, fminS b d), (fmaxS a c, fmaxS b d)), .int .i64 0]) ∧ Below w.heap.size w w' := by
  have hn := run_not
  go_enter Try.func47, Try.ntmps47
  go_wp2_with (first | (go_at_call 60; go_in) | (go_at_call 45; refine (pfinite_any _ _ _).mono ?_; rintro e w' ⟨rfl, rfl⟩) | (go_at_call 59; refine (min_any _ _ _).mono ?_; rintro e w' ⟨rfl, rfl⟩) | (go_at_call 38; refine (max_any _ _ _).mono ?_; rintro e w' ⟨rfl, rfl⟩))
  go_goals
  go_returns
  exact ⟨rfl, by go_grown⟩
theorem asked_ok (l : List Pl) (x : Bx) (b off cap : Nat) (w : World) (hok : polyOk l = true) (hc : reads w b off l) (hx : checkS x = 0) (hb : b < w.heap.size) :
    Calls Try.prog 61 #[.slice (some ⟨b, off, none⟩) l.length cap, .agg #[.complex .f64 x.1.1 x.1.2, .complex .f64 x.2.1 x.2.2]] w fun e w' => e = .returned (.int .i64 0) ∧ Below w.heap.size w w' := by
  have H : Hid (∀ W : World, (∀ o, W.cell? ⟨b, o, none⟩ = w.cell? ⟨b, o, none⟩) → reads W b off l) := fun W hW i hi => by rw [hW]; exact hc i hi
  clear hc
  haveI : Has w b := ⟨hb⟩
  go_enter Try.func61, Try.ntmps61
  go_wp2_with (first | (go_at_call 19; refine (polycheck_ok l b off cap _ hok (H.out _ (fun o => by simp [go_sem]))).mono ?_; rintro e w' ⟨rfl, rfl⟩) | (go_at_call 29; refine (check_any x _).mono ?_; rintro e wq ⟨rfl, hb⟩; obtain ⟨os, d, rfl⟩ := plus_of_below hb; clear hb; rw [hx]))
  go_goals
  go_returns
  exact ⟨rfl, by (repeat' (first | exact Below.refl _ _ | (refine Below.alloc ?_ ?_ _) | (refine below_plus ?_ ?_ _ _) | (refine Below.drew ?_) | (refine Below.setCell ?_ ?_ _) | (simp; done) | (simp; omega) | assumption))⟩
end Go.Proofs.Ytbocjicihamahaa
