/- Products and sums of boxes of the given program: what each call answers. -/
import Derived.Test.YtbocjicihamahaaB
import Derived.Deep.RegionHeld3
import Derived.Deep.DeepCutAuto
set_option linter.unusedSimpArgs false
set_option linter.unusedVariables false
namespace Go.Proofs.Ytbocjicihamahaa
open Go.RowKit

/-- A place's parts; a box's corners; a span's ends. -/
abbrev Pl := Nat × Nat
abbrev Bx := (Nat × Nat) × (Nat × Nat)
abbrev bv (b : Bx) : Value := .agg #[.complex .f64 b.1.1 b.1.2, .complex .f64 b.2.1 b.2.2]
abbrev sv (x : Pl) : Value := .agg #[.float .f64 x.1, .float .f64 x.2]
def bz : Bx := ((0, 0), (0, 0))
def spanBy (x y : Pl) : Option Pl :=
  (fmul x.1 y.1).bind fun p => (fmul x.1 y.2).bind fun q => (fmul x.2 y.1).bind fun r => (fmul x.2 y.2).bind fun s =>
    some (fdown ([q, r, s].foldl fminS p), fup ([q, r, s].foldl fmaxS p))
def spanPlus (x y : Pl) : Option Pl := (fadd x.1 y.1).bind fun p => (fadd x.2 y.2).bind fun q => some (fdown p, fup q)
def spanLess (x y : Pl) : Option Pl := (fsub x.1 y.2).bind fun p => (fsub x.2 y.1).bind fun q => some (fdown p, fup q)
theorem run_fadd {a b r : Nat} (h : fadd a b = some r) (t : TypeId) (w : World) : (binOp .add t (.float .f64 a) (.float .f64 b)).run Try.prog w = .ok (.float .f64 r) w := run_float_arith (P := Try.prog) w .add t .f64 a b r h
theorem run_fsub {a b r : Nat} (h : fsub a b = some r) (t : TypeId) (w : World) : (binOp .sub t (.float .f64 a) (.float .f64 b)).run Try.prog w = .ok (.float .f64 r) w := run_float_arith (P := Try.prog) w .sub t .f64 a b r h
theorem run_fmul {a b r : Nat} (h : fmul a b = some r) (t : TypeId) (w : World) : (binOp .mul t (.float .f64 a) (.float .f64 b)).run Try.prog w = .ok (.float .f64 r) w := run_float_arith (P := Try.prog) w .mul t .f64 a b r h
theorem run_fdiv {a b r : Nat} (h : fdiv a b = some r) (t : TypeId) (w : World) : (binOp .quo t (.float .f64 a) (.float .f64 b)).run Try.prog w = .ok (.float .f64 r) w := run_float_arith (P := Try.prog) w .quo t .f64 a b r h
set_option maxHeartbeats 1000000 in
theorem less_any (a b c d : Nat) (r : Pl) (w : World) (h : spanLess (a, b) (c, d) = some r) :
    Calls Try.prog 84 #[.agg #[.float .f64 a, .float .f64 b], .agg #[.float .f64 c, .float .f64 d]] w fun e w' => e = .returned (.agg #[.float .f64 r.1, .float .f64 r.2]) ∧ Below w.heap.size w w' := by
  obtain ⟨p, h1, g1⟩ := bind_some h
  obtain ⟨q, h2, g2⟩ := bind_some g1
  cases g2
  clear h g1
  have k1 := run_fsub h1
  have k2 := run_fsub h2
  clear h1 h2
  go_enter Try.func84, Try.ntmps84
  go_wp2
  go_region_held3 (fun W => W.cell? ⟨w.heap.size, 0, none⟩ = some (.float .f64 a) ∧ W.cell? ⟨w.heap.size, 1, none⟩ = some (.float .f64 b) ∧ W.cell? ⟨w.heap.size + 1, 0, none⟩ = some (.float .f64 c) ∧ W.cell? ⟨w.heap.size + 1, 1, none⟩ = some (.float .f64 d)) (simp [World.cell?_alloc_some, World.cell?_setCell_far]) (first | (go_at_call 88; refine (down_any _ _).mono ?_; rintro e w' ⟨rfl, rfl⟩) | (go_at_call 89; refine (up_any _ _).mono ?_; rintro e w' ⟨rfl, rfl⟩))
  go_wp2
  go_returns
  exact ⟨rfl, by go_grown⟩
set_option maxHeartbeats 1000000 in
theorem plus_any (a b c d : Nat) (r : Pl) (w : World) (h : spanPlus (a, b) (c, d) = some r) :
    Calls Try.prog 86 #[.agg #[.float .f64 a, .float .f64 b], .agg #[.float .f64 c, .float .f64 d]] w fun e w' => e = .returned (.agg #[.float .f64 r.1, .float .f64 r.2]) ∧ Below w.heap.size w w' := by
  obtain ⟨p, h1, g1⟩ := bind_some h
  obtain ⟨q, h2, g2⟩ := bind_some g1
  cases g2
  clear h g1
  have k1 := run_fadd h1
  have k2 := run_fadd h2
  clear h1 h2
  go_enter Try.func86, Try.ntmps86
  go_wp2
  go_region_held3 (fun W => W.cell? ⟨w.heap.size, 0, none⟩ = some (.float .f64 a) ∧ W.cell? ⟨w.heap.size, 1, none⟩ = some (.float .f64 b) ∧ W.cell? ⟨w.heap.size + 1, 0, none⟩ = some (.float .f64 c) ∧ W.cell? ⟨w.heap.size + 1, 1, none⟩ = some (.float .f64 d)) (simp [World.cell?_alloc_some, World.cell?_setCell_far]) (first | (go_at_call 88; refine (down_any _ _).mono ?_; rintro e w' ⟨rfl, rfl⟩) | (go_at_call 89; refine (up_any _ _).mono ?_; rintro e w' ⟨rfl, rfl⟩))
  go_wp2
  go_returns
  exact ⟨rfl, by go_grown⟩
/-- What a call that has made memory alone leaves as it was. -/
theorem bcell {W w1 : World} (hb : Below W.heap.size W w1) : (∀ b o, b < W.heap.size → w1.cell? ⟨b, o, none⟩ = W.cell? ⟨b, o, none⟩) ∧ (∀ b o, b < W.heap.size → w1.frozen? ⟨b, o, none⟩ = W.frozen? ⟨b, o, none⟩) :=
  ⟨fun b o h => hb.cell (p := ⟨b, o, none⟩) h, fun b o h => hb.frozen (p := ⟨b, o, none⟩) h⟩
set_option maxHeartbeats 1000000 in
theorem by_any (a b c d : Nat) (r : Pl) (w : World) (h : spanBy (a, b) (c, d) = some r) :
    Calls Try.prog 83 #[.agg #[.float .f64 a, .float .f64 b], .agg #[.float .f64 c, .float .f64 d]] w fun e w' => e = .returned (.agg #[.float .f64 r.1, .float .f64 r.2]) ∧ Below w.heap.size w w' := by
  obtain ⟨p, h1, g1⟩ := bind_some h
  obtain ⟨q, h2, g2⟩ := bind_some g1
  obtain ⟨r', h3, g3⟩ := bind_some g2
  obtain ⟨s, h4, g4⟩ := bind_some g3
  cases g4
  have k1 := run_fmul h1
  have k2 := run_fmul h2
  have k3 := run_fmul h3
  have k4 := run_fmul h4
  clear h h1 h2 h3 h4 g1 g2 g3
  go_enter Try.func83, Try.ntmps83
  go_wp2_with fail
  refine (around_any p q r' s _ _ _ ?_ ?_ ?_ ?_).mono ?_
  · simp [go_sem]
  · simp [go_sem]
  · simp [go_sem]
  · simp
  rintro e w1 ⟨rfl, hb⟩
  have hB : Below w.heap.size w w1 := Below.trans (by go_grown) (hb.mono (by simp; omega))
  have hz := hb.size
  obtain ⟨hc, hf⟩ := bcell hb
  have c0 := hc (w.heap.size + 1 + 1) 0 (by simp)
  have c1 := hc (w.heap.size + 1 + 1) 1 (by simp)
  have f0 := hf (w.heap.size + 1 + 1) 0 (by simp)
  have f1 := hf (w.heap.size + 1 + 1) 1 (by simp)
  clear hc hf hb
  simp [go_sem] at hz c0 c1 f0 f1
  go_wp2
  exact bodyPost_ret (v := .agg #[.float .f64 (fdown ([q, r', s].foldl fminS p)), .float .f64 (fup ([q, r', s].foldl fmaxS p))]) (by simp [results, Try.results83, go_sem, c0, c1]) rfl ⟨rfl, by go_grown⟩
def answeredS (x y : Pl) : Bx × Int :=
  if cfin x.1 y.1 = false then (bz, 6) else if cfin x.2 y.2 = false then (bz, 6) else (((x.1, y.1), (x.2, y.2)), 0)
def checkS (b : Bx) : Int :=
  if cfin b.1.1 b.1.2 = false then 110 else if cfin b.2.1 b.2.2 = false then 110
  else if fgt b.1.1 b.2.1 = true then 110 else if fgt b.1.2 b.2.2 = true then 110 else 0
set_option maxHeartbeats 1000000 in
theorem answered_any (a b c d : Nat) (w : World) :
    Calls Try.prog 81 #[.agg #[.float .f64 a, .float .f64 b], .agg #[.float .f64 c, .float .f64 d]] w fun e w' => e = .returned (.tuple #[bv (answeredS (a, b) (c, d)).1, .int .i64 (answeredS (a, b) (c, d)).2]) ∧ Below w.heap.size w w' := by
  have e1 : answeredS (a, b) (c, d) = if cfin a c = false then (bz, 6) else if cfin b d = false then (bz, 6) else (((a, c), (b, d)), 0) := rfl
  cases h1 : cfin a c
  case false =>
    rw [h1] at e1
    rw [e1]
    go_enter Try.func81, Try.ntmps81
    go_wp2_with (first | (go_at_call 60; go_in) | (go_at_call 45; refine (pfinite_any _ _ _).mono ?_; rintro e w' ⟨rfl, rfl⟩))
    go_returns
    exact ⟨rfl, by go_grown⟩
  case true =>
    cases h2 : cfin b d
    all_goals
      rw [h1, h2] at e1
      rw [e1]
      go_enter Try.func81, Try.ntmps81
      go_wp2_with (first | (go_at_call 60; go_in) | (go_at_call 45; refine (pfinite_any _ _ _).mono ?_; rintro e w' ⟨rfl, rfl⟩))
      go_returns
      exact ⟨rfl, by go_grown⟩
end Go.Proofs.Ytbocjicihamahaa
