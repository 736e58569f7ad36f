/- The sort of two boxes that were found. -/
import Derived.Test.YtbocjicihamahaaR
import Derived.Test.YtbocjicihamahaaD
import Derived.Outline
set_option linter.unusedSimpArgs false
set_option linter.unusedVariables false
namespace Go.Proofs.Ytbocjicihamahaa
open Go.RowKit

theorem plus_two (w : World) (os os' : Array Obj) (d d' : Nat) : (w.plus os d).plus os' d' = w.plus (os ++ os') d' := by
  simp [World.plus, Array.append_assoc]
set_option maxRecDepth 100000 in
set_option maxHeartbeats 4000000 in
theorem insert_two (f g : Fd) (b cap : Nat) (w : World) (k0 : w.cell? ⟨b, 0, none⟩ = some (.complex .f64 f.1.1.1 f.1.1.2)) (k1 : w.cell? ⟨b, 1, none⟩ = some (.complex .f64 f.1.2.1 f.1.2.2)) (k2 : w.cell? ⟨b, 2, none⟩ = some (.int .i64 f.2)) (k3 : w.cell? ⟨b, 3, none⟩ = some (.complex .f64 g.1.1.1 g.1.1.2)) (k4 : w.cell? ⟨b, 4, none⟩ = some (.complex .f64 g.1.2.1 g.1.2.2)) (k5 : w.cell? ⟨b, 5, none⟩ = some (.int .i64 g.2)) (hb : b < w.heap.size) (h0 : 0 ≤ ordS g.1.1 f.1.1)
    (h1 : feq f.1.1.1 f.1.1.1 = true) (h2 : feq f.1.1.2 f.1.1.2 = true) (h3 : feq g.1.1.1 g.1.1.1 = true) (h4 : feq g.1.1.2 g.1.1.2 = true) :
    Calls Try.prog 56 #[.slice (some ⟨b, 0, none⟩) 2 cap, .int .i64 0, .int .i64 2, .func (.func 27) #[] #[]] w fun e w' => e = .returned (.tuple #[]) ∧ Below w.heap.size w w' := by
  haveI : Has w b := ⟨hb⟩
  go_enter Try.func56, Try.ntmps56
  go_wp2_with fail
  go_loopw [8] (fun i wr => ∃ (k : Int) (os : Array Obj) (d : Nat), 1 ≤ k ∧ k ≤ 2 ∧ i = .int .i64 k ∧ wr = w.plus os d) (fun i _ => 2 - (intOf i).toNat)
  case atStart => exact ⟨1, #[], w.drawn, by omega, by omega, rfl, by simp [World.plus]⟩
  case round =>
    obtain ⟨k, os, d, hk1, hk2, rfl, rfl⟩ := hrel
    by_cases hlt : k < 2
    · obtain rfl : k = 1 := by omega
      go_wp2_with fail
      go_loopw [9] (fun j wq => ∃ jj : Int, jj = 1 ∧ j = .int .i64 jj ∧ ∃ (os2 : Array Obj) (d2 : Nat), wq = w.plus os2 d2) (fun _ _ => 0)
      case atStart => exact ⟨1, rfl, rfl, os, d, rfl⟩
      case round =>
        obtain ⟨jj, hj, rfl, os2, d2, rfl⟩ := hrel
        have g0 : (0 : Int) ≤ jj := by omega
        have g1 : jj < 2 := by omega
        have g2 : 0 < jj := by omega
        have g3 : (0 : Int) ≤ jj - 1 := by omega
        have g4 : jj - 1 < 2 := by omega
        have g5 : (jj - 1).toNat = 0 := by omega
        have g6 : jj.toNat = 1 := by omega
        have g7 : IntKind.i64.wrap (jj - 1) = jj - 1 := by rw [hj]; decide
        have HJ := hid hj
        clear hj
        go_wp2_with fail
        have g8 : (1 : Int) ≤ jj := by omega
        have g9 : jj < 3 := by omega
        have g10 : jj < 2 + 1 := by omega
        have g11 : jj ≤ 2 := by omega
        have g12 : ¬ jj < 1 := by omega
        have g13 : ¬ (2 : Int) < jj := by omega
        have g14 : ¬ (3 : Int) ≤ jj := by omega
        go_region_held3 (fun W => W.cell? ⟨b, 0, none⟩ = some (.complex .f64 f.1.1.1 f.1.1.2) ∧ W.cell? ⟨b, 1, none⟩ = some (.complex .f64 f.1.2.1 f.1.2.2) ∧ W.cell? ⟨b, 2, none⟩ = some (.int .i64 f.2) ∧ W.cell? ⟨b, 3, none⟩ = some (.complex .f64 g.1.1.1 g.1.1.2) ∧ W.cell? ⟨b, 4, none⟩ = some (.complex .f64 g.1.2.1 g.1.2.2) ∧ W.cell? ⟨b, 5, none⟩ = some (.int .i64 g.2)) (refine ⟨?_, ?_, ?_, ?_, ?_, ?_⟩ <;> (simp [go_sem, *]; done)) (first | (go_at_call 27; ((with_reducible refine (cmpfound_any g f _ h3 h4 h1 h2).mono ?_); rintro e wq ⟨rfl, hb⟩); obtain ⟨os, d, rfl⟩ := plus_of_below hb; clear hb))
        all_goals
          go_wp2_with fail
          go_roundw
          case rel => exact ⟨2, _, _, by omega, by omega, by rfl, plus_two _ _ _ _ _⟩
          case measure => simp [intOf]
    · obtain rfl : k = 2 := by omega
      go_wp2_with fail
      go_end0
      exact ⟨rfl, by (repeat' (first | exact Below.refl _ _ | (refine Below.alloc ?_ ?_ _) | (refine below_plus ?_ ?_ _ _) | (refine Below.drew ?_) | (refine Below.setCell ?_ ?_ _) | (simp; done) | (simp; omega) | assumption))⟩
set_option maxRecDepth 100000 in
set_option maxHeartbeats 4000000 in
theorem stable_two (f g : Fd) (b cap : Nat) (w : World) (k0 : w.cell? ⟨b, 0, none⟩ = some (.complex .f64 f.1.1.1 f.1.1.2)) (k1 : w.cell? ⟨b, 1, none⟩ = some (.complex .f64 f.1.2.1 f.1.2.2)) (k2 : w.cell? ⟨b, 2, none⟩ = some (.int .i64 f.2)) (k3 : w.cell? ⟨b, 3, none⟩ = some (.complex .f64 g.1.1.1 g.1.1.2)) (k4 : w.cell? ⟨b, 4, none⟩ = some (.complex .f64 g.1.2.1 g.1.2.2)) (k5 : w.cell? ⟨b, 5, none⟩ = some (.int .i64 g.2)) (hb : b < w.heap.size) (h0 : 0 ≤ ordS g.1.1 f.1.1)
    (h1 : feq f.1.1.1 f.1.1.1 = true) (h2 : feq f.1.1.2 f.1.1.2 = true) (h3 : feq g.1.1.1 g.1.1.1 = true) (h4 : feq g.1.1.2 g.1.1.2 = true) :
    Calls Try.prog 42 #[.slice (some ⟨b, 0, none⟩) 2 cap, .int .i64 2, .func (.func 27) #[] #[]] w fun e w' => e = .returned (.tuple #[]) ∧ Below w.heap.size w w' := by
  go_enter Try.func42, Try.ntmps42
  go_wp2_with fail
  go_loop [7, 8] (fun a b => a = .int .i64 0 ∧ b = .int .i64 20) (fun _ _ => 0)
  case atStart => exact ⟨rfl, rfl⟩
  case round =>
    obtain ⟨rfl, rfl⟩ := hrel
    go_wp2_with fail
    refine (insert_two f g b cap w k0 k1 k2 k3 k4 k5 hb h0 h1 h2 h3 h4).mono ?_
    rintro e wq ⟨rfl, hb⟩
    go_wp2_with fail
    go_loop [6, 7, 8, 9] (fun z _ _ _ => z = .int .i64 20) (fun _ _ _ _ => 0)
    case atStart => exact rfl
    case round =>
      obtain rfl := hrel
      go_wp2_with fail
      go_end0
      exact ⟨rfl, hb⟩
theorem sort_two (f g : Fd) (b cap : Nat) (w : World) (k0 : w.cell? ⟨b, 0, none⟩ = some (.complex .f64 f.1.1.1 f.1.1.2)) (k1 : w.cell? ⟨b, 1, none⟩ = some (.complex .f64 f.1.2.1 f.1.2.2)) (k2 : w.cell? ⟨b, 2, none⟩ = some (.int .i64 f.2)) (k3 : w.cell? ⟨b, 3, none⟩ = some (.complex .f64 g.1.1.1 g.1.1.2)) (k4 : w.cell? ⟨b, 4, none⟩ = some (.complex .f64 g.1.2.1 g.1.2.2)) (k5 : w.cell? ⟨b, 5, none⟩ = some (.int .i64 g.2)) (hb : b < w.heap.size) (h0 : 0 ≤ ordS g.1.1 f.1.1)
    (h1 : feq f.1.1.1 f.1.1.1 = true) (h2 : feq f.1.1.2 f.1.1.2 = true) (h3 : feq g.1.1.1 g.1.1.1 = true) (h4 : feq g.1.1.2 g.1.1.2 = true) :
    Calls Try.prog 26 #[.slice (some ⟨b, 0, none⟩) 2 cap, .func (.func 27) #[] #[]] w fun e w' => e = .returned (.tuple #[]) ∧ Below w.heap.size w w' := by
  go_enter Try.func26, Try.ntmps26
  go_wp2_with fail
  refine (stable_two f g b cap w k0 k1 k2 k3 k4 k5 hb h0 h1 h2 h3 h4).mono ?_
  rintro e wq ⟨rfl, hb⟩
  go_wp2_with fail
  go_end0
  exact ⟨rfl, hb⟩
end Go.Proofs.Ytbocjicihamahaa
