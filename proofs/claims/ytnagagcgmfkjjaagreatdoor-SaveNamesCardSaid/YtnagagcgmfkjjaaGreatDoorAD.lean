/- Numbers that are the same, of the document's answer. -/
import Derived.Test.YtnagagcgmfkjjaaGreatDoorAC
set_option linter.unusedSimpArgs false
set_option linter.unusedVariables false
namespace Go.Proofs.YtnagagcgmfkjjaaGreatDoor
open Go.RowKit

theorem copysign_0 (w : World) : Calls Tryz.prog 29 #[.float .f64 0, .float .f64 13830554455654793216] w fun e w' => e = .returned (.float .f64 9223372036854775808) ∧ w = w' := by
  have h1 := f64bits_run
  have h2 := f64from_run
  have k1 : bits .andNot .u64 0 9223372036854775808 = 0 := by decide
  have k2 : bits .and .u64 13830554455654793216 9223372036854775808 = 9223372036854775808 := by decide
  have k3 : bits .or .u64 0 9223372036854775808 = 9223372036854775808 := by decide
  go_enter Tryz.func29, Tryz.ntmps29
  go_wp2
  go_ret
  exact ⟨rfl, rfl⟩
theorem of_any (a b : Nat) (w : World) : Calls Tryz.prog 28 #[.float .f64 a, .float .f64 b] w fun e w' => e = .returned (.complex .f64 a b) ∧ w = w' := by
  go_enter Tryz.func28, Tryz.ntmps28
  go_wp2
  go_ret
  exact ⟨rfl, rfl⟩
theorem none_any (a : Nat) (w : World) : Calls Tryz.prog 73 #[.float .f64 a] w fun e w' => e = .returned (.bool (isNan a)) ∧ w = w' := by
  have e0 : isNan a = (FloatKind.f64.format.order a a != some .eq) := by unfold isNan; rfl
  rw [e0]
  go_enter Tryz.func73, Tryz.ntmps73
  go_wp2
  go_ret
  exact ⟨rfl, rfl⟩
/-- Are two floats the same, noughts by their signs, any two that are none? -/
def sameF (a b : Nat) : Bool := if isNan a || isNan b then isNan a && isNan b else a == b
theorem same51 (a b : Nat) (w : World) : Calls Tryz.prog 51 #[.float .f64 a, .float .f64 b] w fun e w' => e = .returned (.bool (sameF a b)) ∧ w = w' := by
  have h1 := f64bits_run
  unfold sameF
  cases ha : isNan a <;> cases hb : isNan b
  · have e : (a == b) = ((a : Int) == (b : Int)) := by
      rw [Bool.eq_iff_iff, beq_iff_eq, beq_iff_eq]; omega
    rw [if_neg (by decide), e]
    go_enter Tryz.func51, Tryz.ntmps51
    go_wp2_with (go_at_call 73; ((with_reducible refine (none_any _ _).mono ?_); rintro e w' ⟨rfl, rfl⟩; first | rw [ha] | rw [hb]))
    go_ret
    exact ⟨rfl, rfl⟩
  all_goals
    rw [if_pos (by decide)]
    go_enter Tryz.func51, Tryz.ntmps51
    go_wp2_with (go_at_call 73; ((with_reducible refine (none_any _ _).mono ?_); rintro e w' ⟨rfl, rfl⟩; first | rw [ha] | rw [hb]))
    go_ret
    exact ⟨rfl, rfl⟩
def sameC (a b c d : Nat) : Bool := sameF a c && sameF b d
theorem same18 (a b c d : Nat) (w : World) : Calls Tryz.prog 18 #[.complex .f64 a b, .complex .f64 c d] w fun e w' => e = .returned (.bool (sameC a b c d)) ∧ w = w' := by
  unfold sameC
  cases h : sameF a c
  all_goals
    go_enter Tryz.func18, Tryz.ntmps18
    go_wp2_with (go_at_call 51; ((with_reducible refine (same51 _ _ _).mono ?_); rintro e w' ⟨rfl, rfl⟩; try rw [h]))
    go_ret
    exact ⟨by simp, rfl⟩
end Go.Proofs.YtnagagcgmfkjjaaGreatDoor
