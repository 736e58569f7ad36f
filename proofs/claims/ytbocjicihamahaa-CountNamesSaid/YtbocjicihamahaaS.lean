/- The quarters of a box and how wide it is, of the given program: what the calls answer. -/
import Derived.Test.YtbocjicihamahaaD
set_option linter.unusedSimpArgs false
set_option linter.unusedVariables false
namespace Go.Proofs.Ytbocjicihamahaa
open Go.RowKit

def quartersS (x : Bx) (t : Nat) : Option (List Bx) :=
  (fsub x.2.1 x.1.1).bind fun dx => (fmul t dx).bind fun mx => (fadd x.1.1 mx).bind fun X => (fsub x.2.2 x.1.2).bind fun dy => (fmul t dy).bind fun my => (fadd x.1.2 my).bind fun Y =>
    if fgt X x.1.1 = true ∧ flt X x.2.1 = true ∧ fgt Y x.1.2 = true ∧ flt Y x.2.2 = true then some [(x.1, (X, Y)), ((X, x.1.2), (x.2.1, Y)), ((x.1.1, Y), (X, x.2.2)), ((X, Y), x.2)] else none
abbrev fourV (q0 q1 q2 q3 : Bx) : Array Value := #[.complex .f64 q0.1.1 q0.1.2, .complex .f64 q0.2.1 q0.2.2, .complex .f64 q1.1.1 q1.1.2, .complex .f64 q1.2.1 q1.2.2, .complex .f64 q2.1.1 q2.1.2, .complex .f64 q2.2.1 q2.2.2, .complex .f64 q3.1.1 q3.1.2, .complex .f64 q3.2.1 q3.2.2]
set_option maxRecDepth 100000 in
set_option maxHeartbeats 4000000 in
theorem quarters_any (x : Bx) (t : Nat) (q0 q1 q2 q3 : Bx) (w : World) (h : quartersS x t = some [q0, q1, q2, q3]) :
    Calls Try.prog 40 #[.agg #[.complex .f64 x.1.1 x.1.2, .complex .f64 x.2.1 x.2.2], .float .f64 t] w fun e w' => e = .returned (.tuple #[.agg (fourV q0 q1 q2 q3), .bool true]) ∧ Below w.heap.size w w' := by
  obtain ⟨⟨a, b⟩, c, d⟩ := x
  unfold quartersS at h
  obtain ⟨dx, h1, h⟩ := bind_some h
  obtain ⟨mx, h2, h⟩ := bind_some h
  obtain ⟨X, h3, h⟩ := bind_some h
  obtain ⟨dy, h4, h⟩ := bind_some h
  obtain ⟨my, h5, h⟩ := bind_some h
  obtain ⟨Y, h6, h⟩ := bind_some h
  split at h
  · rename_i hc
    obtain ⟨c1, c2, c3, c4⟩ := hc
    cases h
    have k1 := run_fsub h1
    have k2 := run_fmul h2
    have k3 := run_fadd h3
    have k4 := run_fsub h4
    have k5 := run_fmul h5
    have k6 := run_fadd h6
    clear h1 h2 h3 h4 h5 h6
    unfold fgt at c1 c3
    unfold flt at c2 c4
    simp only [] at c1 c2 c3 c4 k1 k2 k3 k4 k5 k6
    go_enter Try.func40, Try.ntmps40
    go_wp2_with fail
    exact bodyPost_ret (v := .tuple #[.agg (fourV ((a, b), (X, Y)) ((X, b), (c, Y)) ((a, Y), (X, d)) ((X, Y), (c, d))), .bool true]) (by simp [results, Try.results40, go_sem]) rfl ⟨rfl, by go_grown⟩
  · cases h
def wideS (x : Bx) : Option Nat :=
  if checkS x = 0 then (fsub x.2.1 x.1.1).bind fun p => (fsub x.2.2 x.1.2).bind fun q => if ffin (fmaxS p q) = true then some (fmaxS p q) else none else none
set_option maxRecDepth 100000 in
set_option maxHeartbeats 4000000 in
theorem wide_any (x : Bx) (m : Nat) (w : World) (h : wideS x = some m) :
    Calls Try.prog 23 #[.agg #[.complex .f64 x.1.1 x.1.2, .complex .f64 x.2.1 x.2.2]] w fun e w' => e = .returned (.tuple #[.float .f64 m, .int .i64 0]) ∧ Below w.heap.size w w' := by
  unfold wideS at h
  split at h
  · rename_i hc
    obtain ⟨p, h1, h⟩ := bind_some h
    obtain ⟨q, h2, h⟩ := bind_some h
    split at h
    · rename_i hf
      injection h with h
      have k1 := run_fsub h1
      have k2 := run_fsub h2
      clear h1 h2
      have HC := hid hc
      have HF := hid hf
      have HM := hid h
      clear hc hf h
      go_enter Try.func23, Try.ntmps23
      go_wp2_with fail
      refine (check_any x _).mono ?_
      rintro e wq ⟨rfl, hb⟩
      obtain ⟨os, d, rfl⟩ := plus_of_below hb; clear hb
      rw [HC.out]
      go_wp2_with fail
      refine (of_any x.1.1 x.1.2 x.2.1 x.2.2 _).mono ?_
      rintro e wq ⟨rfl, hb⟩
      obtain ⟨os, d, rfl⟩ := plus_of_below hb; clear hb
      go_wp2_with fail
      refine (max_any p q _).mono ?_
      rintro e wq ⟨rfl, rfl⟩
      go_wp2_with fail
      refine (finite_any _ _).mono ?_
      rintro e wq ⟨rfl, rfl⟩
      rw [HF.out, HM.out]
      go_wp2_with fail
      go_ret2
      exact ⟨rfl, by (repeat' (first | exact Below.refl _ _ | (refine Below.alloc ?_ ?_ _) | (refine below_plus ?_ ?_ _ _) | (refine Below.drew ?_) | (refine Below.setCell ?_ ?_ _) | (simp; done) | (simp; omega) | assumption))⟩
    · cases h
  · cases h
end Go.Proofs.Ytbocjicihamahaa
