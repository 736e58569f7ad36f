/- The float, parts and box layers of the given program, function by function: what each call answers. -/
import Derived.Test.YtbocjicihamahaaChecked
import Derived.WalkKit
import Derived.WalkLawsBesides
import Derived.WalkSpells
import Derived.Test.YtbocjicihamahaaP
set_option linter.unusedSimpArgs false
set_option linter.unusedVariables false
namespace Go.Proofs.Ytbocjicihamahaa
open Go.RowKit

section
variable (P : Program) (w : World) (a : Addr) (m : Mode)
@[go_sem] theorem run_store_float (k : FloatKind) (b : Nat) : (store a (.float k b) m).run P w = stored P w a (.float k b) m := run_store P w a _ m rfl
@[go_sem] theorem run_store_complex (k : FloatKind) (b c : Nat) : (store a (.complex k b c) m).run P w = stored P w a (.complex k b c) m := run_store P w a _ m rfl
end
def feq (a b : Nat) : Bool := FloatKind.f64.format.order a b == some .eq
def fgt (a b : Nat) : Bool := FloatKind.f64.format.order a b == some .gt
def flt (a b : Nat) : Bool := FloatKind.f64.format.order a b == some .lt
def fle (a b : Nat) : Bool := FloatKind.f64.format.order a b == some .lt || FloatKind.f64.format.order a b == some .eq
theorem f64bits_run (a : Nat) (w : World) : (callFunc 71 #[.float .f64 a]).run Try.prog w = .ok (.value (.int .u64 a)) w := by kernel_rfl
theorem f64from_run (a : Int) (w : World) : (callFunc 70 #[.int .u64 a]).run Try.prog w = .ok (.value (.float .f64 a.toNat)) w := by kernel_rfl
def fabs (a : Nat) : Nat := (bits .andNot .u64 (a : Int) 9223372036854775808).toNat
def fcopy (a b : Nat) : Nat := (bits .or .u64 (bits .andNot .u64 (a : Int) 9223372036854775808) (bits .and .u64 (b : Int) 9223372036854775808)).toNat
/-- The greater of two floats, as the machine's own step has it. -/
def fmaxS (a b : Nat) : Nat :=
  let x := FloatKind.f64.decode a
  let y := FloatKind.f64.decode b
  if x == .infinity false || y == .infinity false then FloatKind.f64.encode (.infinity false)
  else if x.isNaN || y.isNaN then 9221120237041090561
  else if x.isZero && y.isZero then (if x.neg == false then a else b)
  else if x.order y == some .gt then a else b
/-- The less of two floats. -/
def fminS (a b : Nat) : Nat :=
  let x := FloatKind.f64.decode a
  let y := FloatKind.f64.decode b
  if x == .infinity true || y == .infinity true then FloatKind.f64.encode (.infinity true)
  else if x.isNaN || y.isNaN then 9221120237041090561
  else if x.isZero && y.isZero then (if x.neg == true then a else b)
  else if x.order y == some .lt then a else b
theorem archMax_run (a b : Nat) (w : World) : (callFunc 53 #[.float .f64 a, .float .f64 b]).run Try.prog w = .ok (.value (.float .f64 (fmaxS a b))) w := by kernel_rfl
theorem archMin_run (a b : Nat) (w : World) : (callFunc 74 #[.float .f64 a, .float .f64 b]).run Try.prog w = .ok (.value (.float .f64 (fminS a b))) w := by kernel_rfl
theorem run_neg (a : Nat) (w : World) : (Op.unary .neg (.float .f64 a)).run Try.prog w = .ok (.float .f64 (Op.negFloat .f64 a)) w := rfl
theorem run_not (x : Bool) (w : World) : (Op.unary .not (.bool x)).run Try.prog w = .ok (.bool (!x)) w := rfl
set_option maxHeartbeats 400000 in
theorem abs_any (a : Nat) (w : World) :
    Calls Try.prog 55 #[.float .f64 a] w fun e w' => e = .returned (.float .f64 (fabs a)) ∧ w = w' := by
  have h1 := f64bits_run
  have h2 := f64from_run
  go_enter Try.func55, Try.ntmps55
  go_wp2
  go_ret
  exact ⟨rfl, rfl⟩
theorem max_any (a b : Nat) (w : World) :
    Calls Try.prog 38 #[.float .f64 a, .float .f64 b] w fun e w' => e = .returned (.float .f64 (fmaxS a b)) ∧ w = w' := by
  have h3 := archMax_run
  go_enter Try.func38, Try.ntmps38
  go_wp2
  go_ret
  exact ⟨rfl, rfl⟩
theorem min_any (a b : Nat) (w : World) :
    Calls Try.prog 59 #[.float .f64 a, .float .f64 b] w fun e w' => e = .returned (.float .f64 (fminS a b)) ∧ w = w' := by
  have h3 := archMin_run
  go_enter Try.func59, Try.ntmps59
  go_wp2
  go_ret
  exact ⟨rfl, rfl⟩
theorem isinf_any (a : Nat) (w : World) :
    Calls Try.prog 65 #[.float .f64 a, .int .i64 1] w fun e w' => e = .returned (.bool (fgt a 9218868437227405311)) ∧ w = w' := by
  go_enter Try.func65, Try.ntmps65
  go_wp2
  go_ret
  exact ⟨rfl, rfl⟩
theorem isinfm_any (a : Nat) (w : World) :
    Calls Try.prog 65 #[.float .f64 a, .int .i64 (-1)] w fun e w' => e = .returned (.bool (fgt (Op.negFloat .f64 a) 9218868437227405311)) ∧ w = w' := by
  have h4 := run_neg
  go_enter Try.func65, Try.ntmps65
  go_wp2
  go_ret
  exact ⟨rfl, rfl⟩
theorem inf_any (w : World) :
    Calls Try.prog 66 #[.int .i64 1] w fun e w' => e = .returned (.float .f64 9218868437227405312) ∧ w = w' := by
  have h2 := f64from_run
  go_enter Try.func66, Try.ntmps66
  go_wp2
  go_ret
  exact ⟨rfl, rfl⟩
theorem infm_any (w : World) :
    Calls Try.prog 66 #[.int .i64 (-1)] w fun e w' => e = .returned (.float .f64 18442240474082181120) ∧ w = w' := by
  have h2 := f64from_run
  go_enter Try.func66, Try.ntmps66
  go_wp2
  go_ret
  exact ⟨rfl, rfl⟩
theorem copysign_any (a b : Nat) (w : World) :
    Calls Try.prog 92 #[.float .f64 a, .float .f64 b] w fun e w' => e = .returned (.float .f64 (fcopy a b)) ∧ w = w' := by
  have h1 := f64bits_run
  have h2 := f64from_run
  go_enter Try.func92, Try.ntmps92
  go_wp2
  go_ret
  exact ⟨rfl, rfl⟩
def nextS (a b : Nat) : Nat :=
  if feq a a = false then 9221120237041090561
  else if feq b b = false then 9221120237041090561
  else if feq a b = true then a
  else if feq a 0 = true then fcopy 1 b
  else if (fgt b a == fgt a 0) = true then (IntKind.u64.wrap ((a : Int) + 1)).toNat
  else (IntKind.u64.wrap ((a : Int) - 1)).toNat
set_option maxHeartbeats 400000 in
theorem next_any (a b : Nat) (w : World) :
    Calls Try.prog 91 #[.float .f64 a, .float .f64 b] w fun e w' => e = .returned (.float .f64 (nextS a b)) ∧ w = w' := by
  have h1 := f64bits_run
  have h2 := f64from_run
  go_enter Try.func91, Try.ntmps91
  go_wp2
  all_goals (go_ret; clear h1 h2; exact ⟨by simp_all [nextS, feq, fgt, fcopy], rfl⟩)
def fup (a : Nat) : Nat := if fgt a 9218868437227405311 = true then a else nextS a 9218868437227405312
def fdown (a : Nat) : Nat := if fgt (Op.negFloat .f64 a) 9218868437227405311 = true then a else nextS a 18442240474082181120
theorem up_any (a : Nat) (w : World) :
    Calls Try.prog 89 #[.float .f64 a] w fun e w' => e = .returned (.float .f64 (fup a)) ∧ w = w' := by
  go_enter Try.func89, Try.ntmps89
  go_wp2_with (first | (go_at_call 65; refine (isinf_any _ _).mono ?_; rintro e w' ⟨rfl, rfl⟩) | (go_at_call 66; refine (inf_any _).mono ?_; rintro e w' ⟨rfl, rfl⟩) | (go_at_call 91; refine (next_any _ _ _).mono ?_; rintro e w' ⟨rfl, rfl⟩))
  all_goals (go_ret; exact ⟨by simp_all [fup], rfl⟩)
theorem down_any (a : Nat) (w : World) :
    Calls Try.prog 88 #[.float .f64 a] w fun e w' => e = .returned (.float .f64 (fdown a)) ∧ w = w' := by
  go_enter Try.func88, Try.ntmps88
  go_wp2_with (first | (go_at_call 65; refine (isinfm_any _ _).mono ?_; rintro e w' ⟨rfl, rfl⟩) | (go_at_call 66; refine (infm_any _).mono ?_; rintro e w' ⟨rfl, rfl⟩) | (go_at_call 91; refine (next_any _ _ _).mono ?_; rintro e w' ⟨rfl, rfl⟩))
  all_goals (go_ret; exact ⟨by simp_all [fdown], rfl⟩)
def ffin (a : Nat) : Bool := fle (fabs a) 9218868437227405311
def fwithin (a m : Nat) : Bool := fle (fabs a) m
theorem finite_any (a : Nat) (w : World) :
    Calls Try.prog 39 #[.float .f64 a] w fun e w' => e = .returned (.bool (ffin a)) ∧ w = w' := by
  go_enter Try.func39, Try.ntmps39
  go_wp2_with (go_at_call 55; refine (abs_any _ _).mono ?_; rintro e w' ⟨rfl, rfl⟩)
  go_ret
  exact ⟨rfl, rfl⟩
theorem within_any (a m : Nat) (w : World) :
    Calls Try.prog 52 #[.float .f64 a, .float .f64 m] w fun e w' => e = .returned (.bool (fwithin a m)) ∧ w = w' := by
  go_enter Try.func52, Try.ntmps52
  go_wp2_with (go_at_call 55; refine (abs_any _ _).mono ?_; rintro e w' ⟨rfl, rfl⟩)
  go_ret
  exact ⟨rfl, rfl⟩
def cfin (a b : Nat) : Bool := ffin a && ffin b
theorem pfinite_any (a b : Nat) (w : World) :
    Calls Try.prog 45 #[.complex .f64 a b] w fun e w' => e = .returned (.bool (cfin a b)) ∧ w = w' := by
  cases h : ffin a
  all_goals
    have hc : cfin a b = (ffin a && ffin b) := rfl
    rw [h] at hc
    rw [hc]
    go_enter Try.func45, Try.ntmps45
    go_wp2_with (go_at_call 39; refine (finite_any _ _).mono ?_; rintro e w' ⟨rfl, rfl⟩; try rw [h])
    go_ret
    exact ⟨by simp, rfl⟩
def cwithin (a b m : Nat) : Bool := fwithin a m && fwithin b m
theorem pwithin_any (a b m : Nat) (w : World) :
    Calls Try.prog 36 #[.complex .f64 a b, .float .f64 m] w fun e w' => e = .returned (.bool (cwithin a b m)) ∧ w = w' := by
  cases h : fwithin a m
  all_goals
    have hc : cwithin a b m = (fwithin a m && fwithin b m) := rfl
    rw [h] at hc
    rw [hc]
    go_enter Try.func36, Try.ntmps36
    go_wp2_with (go_at_call 52; refine (within_any _ _ _).mono ?_; rintro e w' ⟨rfl, rfl⟩; try rw [h])
    go_ret
    exact ⟨by simp, rfl⟩
def flike (a b : Nat) : Bool := feq a b || (!(feq a a) && !(feq b b))
theorem like_any (a b : Nat) (w : World) :
    Calls Try.prog 64 #[.float .f64 a, .float .f64 b] w fun e w' => e = .returned (.bool (flike a b)) ∧ w = w' := by
  go_enter Try.func64, Try.ntmps64
  go_wp2
  all_goals (go_ret; exact ⟨by simp_all [flike, feq, bne], rfl⟩)
def clike (a b c d : Nat) : Bool := flike a c && flike b d
theorem plike_any (a b c d : Nat) (w : World) :
    Calls Try.prog 50 #[.complex .f64 a b, .complex .f64 c d] w fun e w' => e = .returned (.bool (clike a b c d)) ∧ w = w' := by
  cases h : flike a c
  all_goals
    have hc : clike a b c d = (flike a c && flike b d) := rfl
    rw [h] at hc
    rw [hc]
    go_enter Try.func50, Try.ntmps50
    go_wp2_with (go_at_call 64; refine (like_any _ _ _).mono ?_; rintro e w' ⟨rfl, rfl⟩; try rw [h])
    go_ret
    exact ⟨by simp, rfl⟩
end Go.Proofs.Ytbocjicihamahaa
