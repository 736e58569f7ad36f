/- Small checks of layer 13 of the given program: what each call answers. -/
import Derived.Test.YtbocjicihamahaaH
set_option linter.unusedSimpArgs false
set_option linter.unusedVariables false
namespace Go.Proofs.Ytbocjicihamahaa
open Go.RowKit

/-- Where a box leans: 0 to 3; -1: nowhere. -/
def leanS (b : Bx) : Int :=
  if fgt b.1.1 0 = true then 0 else if fgt b.1.2 0 = true then 1 else if flt b.2.1 0 = true then 2 else if flt b.2.2 0 = true then 3 else -1
set_option maxHeartbeats 1000000 in
theorem lean_any (b : Bx) (w : World) :
    Calls Try.prog 49 #[.agg #[.complex .f64 b.1.1 b.1.2, .complex .f64 b.2.1 b.2.2]] w fun e w' => e = .returned (.int .i64 (leanS b)) ∧ Below w.heap.size w w' := by
  obtain ⟨⟨p, q⟩, r, s⟩ := b
  have e1 : leanS ((p, q), (r, s)) = if fgt p 0 = true then 0 else if fgt q 0 = true then 1 else if flt r 0 = true then 2 else if flt s 0 = true then 3 else -1 := rfl
  cases h1 : fgt p 0
  case true =>
    rw [h1] at e1
    rw [e1]
    unfold fgt at h1
    go_enter Try.func49, Try.ntmps49
    go_wp2
    go_returns
    exact ⟨rfl, by go_grown⟩
  case false =>
    cases h2 : fgt q 0
    case true =>
      rw [h1, h2] at e1
      rw [e1]
      unfold fgt at h1 h2
      go_enter Try.func49, Try.ntmps49
      go_wp2
      go_returns
      exact ⟨rfl, by go_grown⟩
    case false =>
      cases h3 : flt r 0
      case true =>
        rw [h1, h2, h3] at e1
        rw [e1]
        unfold fgt at h1 h2
        unfold flt at h3
        go_enter Try.func49, Try.ntmps49
        go_wp2
        go_returns
        exact ⟨rfl, by go_grown⟩
      case false =>
        cases h4 : flt s 0
        all_goals
          rw [h1, h2, h3, h4] at e1
          rw [e1]
          unfold fgt at h1 h2
          unfold flt at h3 h4
          go_enter Try.func49, Try.ntmps49
          go_wp2
          go_returns
          exact ⟨rfl, by go_grown⟩
theorem lean_range (b : Bx) : -1 ≤ leanS b ∧ leanS b ≤ 3 := by
  unfold leanS
  repeat' split
  all_goals omega
def deepS (d : Int) : Int := if d < 0 then 2 else if 24 < d then 2 else 0
theorem deep_any (d : Int) (w : World) :
    Calls Try.prog 14 #[.int .i64 d] w fun e w' => e = .returned (.int .i64 (deepS d)) ∧ w = w' := by
  go_enter Try.func14, Try.ntmps14
  go_wp2
  all_goals (go_ret; exact ⟨by simp_all [deepS] <;> omega, rfl⟩)
def insideS (b : Bx) : Int :=
  if checkS b = 0 then (if (FloatKind.f64.format.order b.1.1 b.2.1 == some .gt || FloatKind.f64.format.order b.1.1 b.2.1 == some .eq) = true then 110 else if (FloatKind.f64.format.order b.1.2 b.2.2 == some .gt || FloatKind.f64.format.order b.1.2 b.2.2 == some .eq) = true then 110 else 0) else checkS b
set_option maxHeartbeats 1000000 in
theorem inside_any (b : Bx) (w : World) :
    Calls Try.prog 13 #[.agg #[.complex .f64 b.1.1 b.1.2, .complex .f64 b.2.1 b.2.2]] w fun e w' => e = .returned (.int .i64 (insideS b)) ∧ Below w.heap.size w w' := by
  obtain ⟨⟨p, q⟩, r, s⟩ := b
  by_cases h : checkS ((p, q), (r, s)) = 0
  · have e1 : insideS ((p, q), (r, s)) = if (FloatKind.f64.format.order p r == some .gt || FloatKind.f64.format.order p r == some .eq) = true then 110 else if (FloatKind.f64.format.order q s == some .gt || FloatKind.f64.format.order q s == some .eq) = true then 110 else 0 := by unfold insideS; rw [if_pos h]
    have hn : (checkS ((p, q), (r, s)) != 0) = false := by simp [h]
    clear h
    cases h1 : (FloatKind.f64.format.order p r == some .gt || FloatKind.f64.format.order p r == some .eq)
    all_goals
      cases h2 : (FloatKind.f64.format.order q s == some .gt || FloatKind.f64.format.order q s == some .eq)
      all_goals
        rw [h1, h2] at e1
        rw [e1]
        clear e1
        go_enter Try.func13, Try.ntmps13
        go_wp2_with fail
        refine (check_any ((p, q), (r, s)) _).mono ?_; rintro e wq ⟨rfl, hb⟩; obtain ⟨os, d, rfl⟩ := plus_of_below hb; clear hb
        go_wp2
        go_returns
        exact ⟨rfl, by (repeat' (first | exact Below.refl _ _ | (refine Below.alloc ?_ ?_ _) | (refine below_plus ?_ ?_ _ _) | (refine Below.drew ?_) | (refine Below.setCell ?_ ?_ _) | (simp; done) | (simp; omega) | assumption))⟩
  · have e1 : insideS ((p, q), (r, s)) = checkS ((p, q), (r, s)) := by unfold insideS; rw [if_neg h]
    have hn : (checkS ((p, q), (r, s)) != 0) = true := by simp [h]
    rw [e1]
    clear e1 h
    go_enter Try.func13, Try.ntmps13
    go_wp2_with fail
    refine (check_any ((p, q), (r, s)) _).mono ?_; rintro e wq ⟨rfl, hb⟩; obtain ⟨os, d, rfl⟩ := plus_of_below hb; clear hb
    go_wp2
    go_returns
    exact ⟨rfl, by (repeat' (first | exact Below.refl _ _ | (refine Below.alloc ?_ ?_ _) | (refine below_plus ?_ ?_ _ _) | (refine Below.drew ?_) | (refine Below.setCell ?_ ?_ _) | (simp; done) | (simp; omega) | assumption))⟩
end Go.Proofs.Ytbocjicihamahaa
