/- Angles: steps. Angles: sine and cosine of two places. A bound for zeros. Where the steps begin. A sort of two. All of two. A polynomial by two zeros. -/
import Derived.Test.YtcoillcppmibgaaGreatDoorD03
import Derived.BigRegion
import Derived.StillTailTactics
set_option linter.unusedSimpArgs false
set_option linter.unusedVariables false
namespace Go.Proofs.YtcoillcppmibgaaGreatDoor
section
open Go.RowKit
theorem From_any (a : Nat) (w : World) : Calls Tryz.prog 124 #[.int .u64 a] w fun e w' => e = .returned (.float .f64 a) ∧ w = w' := by
  have h2 := f64from_run
  go_enter Tryz.func124, Tryz.ntmps124
  go_wp2_with fail
  go_ret
  exact ⟨rfl, rfl⟩
theorem pi_any (w : World) : Calls Tryz.prog 99 #[] w fun e w' => e = .returned (.tuple #[.float .f64 4614256656552045848, .float .f64 4368955796522032135]) ∧ w = w' := by
  go_enter Tryz.func99, Tryz.ntmps99
  go_wp2_with (first | (go_at_call 124; (with_reducible refine Calls.mono (From_any 4614256656552045848 _) ?_); rintro e wc ⟨rfl, rfl⟩) | (go_at_call 124; (with_reducible refine Calls.mono (From_any 4368955796522032135 _) ?_); rintro e wc ⟨rfl, rfl⟩))
  go_ret2
  exact ⟨rfl, rfl⟩
theorem Pi_any (w : World) : Calls Tryz.prog 68 #[] w fun e w' => e = .returned (.tuple #[.float .f64 4614256656552045848, .float .f64 4368955796522032135]) ∧ w = w' := by
  go_enter Tryz.func68, Tryz.ntmps68
  go_wp2_with ((go_at_call 99; (with_reducible refine Calls.mono (pi_any _) ?_); rintro e wc ⟨rfl, rfl⟩))
  go_ret2
  exact ⟨rfl, rfl⟩
theorem fit_any (a : Nat) (w : World) : Calls Tryz.prog 136 #[.float .f64 a] w fun e w' => e = .returned (.bool (fle (fabs a) 4697254411347427328)) ∧ w = w' := by
  go_enter Tryz.func136, Tryz.ntmps136
  go_wp2_with ((go_at_call 93; (with_reducible refine Calls.mono (within_any _ _ _) ?_); rintro e wc ⟨rfl, rfl⟩))
  go_ret
  exact ⟨rfl, rfl⟩
/-- Less m times half a half circle. -/
def lessS (m t p x : Nat) : Option Nat := (fmul t p).bind fun a => (fmul m a).bind fun b => fsub x b
def lessR (x m t : Nat) : Option Nat := (lessS m t 4609753056924401664 x).bind fun x1 => (lessS m t 4454258360616747008 x1).bind fun x2 => lessS m t 4297306550709518336 x2
set_option maxHeartbeats 4000000 in
theorem less_any (x m t : Nat) (w : World) {r : Nat} (h : lessR x m t = some r) : Calls Tryz.prog 138 #[.float .f64 x, .float .f64 m, .float .f64 t] w fun e w' => e = .returned (.float .f64 r) ∧ Kp0 w w' := by
  obtain ⟨x1, g0, h⟩ := bind_some h
  obtain ⟨x2, g1, g2⟩ := bind_some h
  obtain ⟨a0, e0, f0⟩ := bind_some g0
  obtain ⟨b0, e0', f0⟩ := bind_some f0
  have q0 := run_fmul e0
  have q0' := run_fmul e0'
  have q0'' := run_fsub f0
  obtain ⟨a1, e1, f1⟩ := bind_some g1
  obtain ⟨b1, e1', f1⟩ := bind_some f1
  have q1 := run_fmul e1
  have q1' := run_fmul e1'
  have q1'' := run_fsub f1
  obtain ⟨a2, e2, f2⟩ := bind_some g2
  obtain ⟨b2, e2', f2⟩ := bind_some f2
  have q2 := run_fmul e2
  have q2' := run_fmul e2'
  have q2'' := run_fsub f2
  clear g0 g1 g2 e0 e1 e2 e0' e1' e2' f0 f1 f2 h
  go_enter Tryz.func138, Tryz.ntmps138
  go_wp2_with fail
  go_loopw [0, 11] (fun s0 i wx => wx = w.alloc (.cells #[.int .u64 4609753056924401664, .int .u64 4454258360616747008, .int .u64 4297306550709518336] 111) ∧ ((i = .int .i64 0 ∧ s0 = .float .f64 x) ∨ (i = .int .i64 1 ∧ s0 = .float .f64 x1) ∨ (i = .int .i64 2 ∧ s0 = .float .f64 x2) ∨ (i = .int .i64 3 ∧ s0 = .float .f64 r))) (fun _ i _ => 3 - (intOf i).toNat)
  case atStart => exact ⟨rfl, .inl ⟨rfl, rfl⟩⟩
  case round =>
    obtain ⟨rfl, hrel⟩ := hrel
    rcases hrel with ⟨rfl, rfl⟩ | ⟨rfl, rfl⟩ | ⟨rfl, rfl⟩ | ⟨rfl, rfl⟩
    · go_wp2_with ((go_at_call 124; (with_reducible refine Calls.mono (From_any 4609753056924401664 _) ?_); rintro e wc ⟨rfl, rfl⟩))
      go_round
      case rel => exact ⟨by first | trivial | rfl, .inr (.inl ⟨rfl, rfl⟩)⟩
      case measure => decide
    · go_wp2_with ((go_at_call 124; (with_reducible refine Calls.mono (From_any 4454258360616747008 _) ?_); rintro e wc ⟨rfl, rfl⟩))
      go_round
      case rel => exact ⟨by first | trivial | rfl, .inr (.inr (.inl ⟨rfl, rfl⟩))⟩
      case measure => decide
    · go_wp2_with ((go_at_call 124; (with_reducible refine Calls.mono (From_any 4297306550709518336 _) ?_); rintro e wc ⟨rfl, rfl⟩))
      go_round
      case rel => exact ⟨by first | trivial | rfl, .inr (.inr (.inr ⟨rfl, rfl⟩))⟩
      case measure => decide
    · go_wp2_with fail
      go_ret
      exact ⟨rfl, ⟨Gr.out⟩⟩
/-- The steps' numbers. -/
def kf (j : Nat) : Nat := [4621256167635550208, 4620693217682128896, 4619567317775286272, 4618441417868443648, 4617315517961601024, 4616189618054758400, 4613937818241073152, 4611686018427387904, 4607182418800017408, 0].getD j 0
theorem kf_ge (j : Nat) (h : j < 9) : (FloatKind.f64.format.order (kf j) 4607182418800017408 == some .gt || FloatKind.f64.format.order (kf j) 4607182418800017408 == some .eq) = true := (show ∀ j : Fin 9, (FloatKind.f64.format.order (kf j.1) 4607182418800017408 == some .gt || FloatKind.f64.format.order (kf j.1) 4607182418800017408 == some .eq) = true by decide +kernel) ⟨j, h⟩
theorem kf_lt : (FloatKind.f64.format.order (kf 9) 4607182418800017408 == some .gt || FloatKind.f64.format.order (kf 9) 4607182418800017408 == some .eq) = false := by decide +kernel
theorem kf_sub (j : Nat) (h : j < 9) : fsub (kf j) 4607182418800017408 = some (kf (j + 1)) := (show ∀ j : Fin 9, fsub (kf j.1) 4607182418800017408 = some (kf (j.1 + 1)) by decide +kernel) ⟨j, h⟩
/-- A step of sine and cosine. -/
def sinS (z k s : Nat) : Option Nat := (fmul 4611686018427387904 k).bind fun a => (fadd a 4607182418800017408).bind fun b => (fmul a b).bind fun d => (fdiv z d).bind fun e => (fmul e s).bind fun f => fsub 4607182418800017408 f
def cosS (z k c : Nat) : Option Nat := (fmul 4611686018427387904 k).bind fun a => (fsub a 4607182418800017408).bind fun b => (fmul b a).bind fun d => (fdiv z d).bind fun e => (fmul e c).bind fun f => fsub 4607182418800017408 f
def stepsR (z : Nat) : Nat → Option (Nat × Nat)
  | 0 => some (4607182418800017408, 4607182418800017408)
  | j + 1 => (stepsR z j).bind fun sc => (sinS z (kf j) sc.1).bind fun s => (cosS z (kf j) sc.2).bind fun c => some (s, c)
theorem stepsR_pre {z : Nat} : ∀ {m : Nat} {r : Nat × Nat}, stepsR z m = some r → ∀ j, j < m → ∃ s t, stepsR z j = some s ∧ ((sinS z (kf j) s.1).bind fun u => (cosS z (kf j) s.2).bind fun c => some (u, c)) = some t ∧ stepsR z (j + 1) = some t
  | 0, _, _, j, hj => absurd hj (Nat.not_lt_zero _)
  | m + 1, r, h, j, hj => by
    obtain ⟨s, h1, h2⟩ := bind_some (show (stepsR z m).bind (fun sc => (sinS z (kf m) sc.1).bind fun s => (cosS z (kf m) sc.2).bind fun c => some (s, c)) = some r from h)
    rcases Nat.lt_or_eq_of_le (Nat.lt_succ_iff.1 hj) with hlt | rfl
    · exact stepsR_pre h1 j hlt
    · exact ⟨s, r, h1, h2, h⟩
def stepsF (y : Nat) : Option (Nat × Nat) := (fmul y y).bind fun z => (stepsR z 9).bind fun sc => (fmul y sc.1).bind fun s => some (s, sc.2)
set_option maxHeartbeats 4000000 in
theorem steps_any (y : Nat) (w : World) {r : Nat × Nat} (h : stepsF y = some r) : Calls Tryz.prog 126 #[.float .f64 y] w fun e w' => e = .returned (.tuple #[.float .f64 r.1, .float .f64 r.2]) ∧ w = w' := by
  obtain ⟨z, e0, h⟩ := bind_some h
  obtain ⟨sc, e1, h⟩ := bind_some h
  obtain ⟨s9, e2, h⟩ := bind_some h
  obtain rfl := (Option.some.inj h).symm
  have k0 := run_fmul e0
  have k2 := run_fmul e2
  have HP := hid (stepsR_pre e1)
  have HR := hid e1
  clear e0 e1 e2 h
  go_enter Tryz.func126, Tryz.ntmps126
  go_wp2_with fail
  go_loop [2, 3, 5] (fun s2 s3 s5 => ∃ (j : Nat) (sc : Nat × Nat), j ≤ 9 ∧ s5 = .float .f64 (kf j) ∧ stepsR z j = some sc ∧ s2 = .float .f64 sc.1 ∧ s3 = .float .f64 sc.2) (fun _ _ s5 => match s5 with | .float _ x => (x - 4607182418800017407) | _ => 0)
  case atStart => exact ⟨0, _, Nat.zero_le _, rfl, rfl, rfl, rfl⟩
  case round =>
    obtain ⟨j, sc', hj, rfl, hs, rfl, rfl⟩ := hrel
    by_cases hlt : j < 9
    · obtain ⟨s, t, a1, a2, a3⟩ := HP.out j hlt
      rw [hs] at a1
      obtain rfl := Option.some.inj a1
      have HT := hid a3
      obtain ⟨u, b1, a2⟩ := bind_some a2
      obtain ⟨v, b2, a2⟩ := bind_some a2
      obtain rfl := (Option.some.inj a2).symm
      unfold sinS at b1
      unfold cosS at b2
      obtain ⟨p1, c1, b1⟩ := bind_some b1
      obtain ⟨p2, c2, b1⟩ := bind_some b1
      obtain ⟨p3, c3, b1⟩ := bind_some b1
      obtain ⟨p4, c4, b1⟩ := bind_some b1
      obtain ⟨p5, c5, c6⟩ := bind_some b1
      obtain ⟨q1, d1, b2⟩ := bind_some b2
      rw [c1] at d1
      obtain rfl := Option.some.inj d1
      obtain ⟨q2, d2, b2⟩ := bind_some b2
      obtain ⟨q3, d3, b2⟩ := bind_some b2
      obtain ⟨q4, d4, b2⟩ := bind_some b2
      obtain ⟨q5, d5, d6⟩ := bind_some b2
      have k1 := run_fmul c1
      have k3 := run_fadd c2
      have k4 := run_fmul c3
      have k5 := run_fdiv c4
      have k6 := run_fmul c5
      have k7 := run_fsub c6
      have k8 := run_fsub d2
      have k9 := run_fmul d3
      have k10 := run_fdiv d4
      have k11 := run_fmul d5
      have k12 := run_fsub d6
      have k13 := run_fsub (kf_sub j hlt)
      have z1 := kf_ge j hlt
      have HM := hid (show kf (j + 1) - 4607182418800017407 < kf j - 4607182418800017407 from (show ∀ j : Fin 9, kf (j.1 + 1) - 4607182418800017407 < kf j.1 - 4607182418800017407 by decide +kernel) ⟨j, hlt⟩)
      clear a1 a2 a3 b1 b2 c1 c2 c3 c4 c5 c6 d1 d2 d3 d4 d5 d6 hs
      generalize hk1 : kf (j + 1) = k' at *
      have HK1 := hid hk1
      clear hk1
      generalize hk0 : kf j = k at *
      go_wp2_with fail
      go_round
      case rel => exact ⟨j + 1, _, by omega, by rw [HK1.out], HT.out, rfl, rfl⟩
      case measure => exact HM.out
    · obtain rfl : j = 9 := by omega
      rw [HR.out] at hs
      obtain rfl := Option.some.inj hs
      have z1 := kf_lt
      clear hlt hs
      generalize hk0 : kf 9 = k at *
      go_wp2_with fail
      go_ret2
      exact ⟨rfl, rfl⟩
end
section
open Go.RowKit
theorem whole_any (p m : Nat) (w : World) (hE : ∀ w, (callFunc 146 #[.float .f64 p]).run Tryz.prog w = .ok (.value (.float .f64 m)) w) : Calls Tryz.prog 137 #[.float .f64 p] w fun e w' => e = .returned (.float .f64 m) ∧ w = w' := by
  go_enter Tryz.func137, Tryz.ntmps137
  go_wp2_with fail
  go_ret
  exact ⟨rfl, rfl⟩
set_option maxHeartbeats 4000000 in
theorem quarter_0 (x p m : Nat) (w : World) (h0 : fle (fabs x) 4697254411347427328 = true) (h1 : fmul x 4603909380684499075 = some p) (hE : ∀ w, (callFunc 146 #[.float .f64 p]).run Tryz.prog w = .ok (.value (.float .f64 m)) w) (hm : feq m 0 = true) :
    Calls Tryz.prog 125 #[.float .f64 x] w fun e w' => e = .returned (.tuple #[.float .f64 x, .int .i64 0]) ∧ w = w' := by
  have hnot := run_not
  have kf := fun w => fit_any x w
  rw [h0] at kf
  have k1 := run_fmul h1
  have k2 := fun w => whole_any p m w hE
  unfold feq at hm
  clear h0 h1 hE
  go_enter Tryz.func125, Tryz.ntmps125
  go_wp2_with (first | (go_at_call 136; (with_reducible refine Calls.mono (kf _) ?_); rintro e wc ⟨rfl, rfl⟩) | (go_at_call 124; (with_reducible refine Calls.mono (From_any 4603909380684499075 _) ?_); rintro e wc ⟨rfl, rfl⟩) | (go_at_call 137; (with_reducible refine Calls.mono (k2 _) ?_); rintro e wc ⟨rfl, rfl⟩))
  go_ret2
  exact ⟨rfl, rfl⟩
set_option maxHeartbeats 4000000 in
theorem quarter_2 (x p y : Nat) (w : World) (h0 : fle (fabs x) 4697254411347427328 = true) (h1 : fmul x 4603909380684499075 = some p) (hE : ∀ w, (callFunc 146 #[.float .f64 p]).run Tryz.prog w = .ok (.value (.float .f64 4611686018427387904)) w) (hy : lessR x 4611686018427387904 4607182418800017408 = some y) :
    Calls Tryz.prog 125 #[.float .f64 x] w fun e w' => e = .returned (.tuple #[.float .f64 y, .int .i64 2]) ∧ Kp0 w w' := by
  have hnot := run_not
  have kf := fun w => fit_any x w
  rw [h0] at kf
  have k1 := run_fmul h1
  have k2 := fun w => whole_any p _ w hE
  have k3 := fun w => less_any _ _ _ w hy
  have hm : (FloatKind.f64.format.order 4611686018427387904 0 == some Ordering.eq) = false := by decide +kernel
  have hcv : ∀ w, (convert 35 3 (.float .f64 4611686018427387904)).run Tryz.prog w = .ok (.int .i64 2) w := fun w => by kernel_rfl
  clear h0 h1 hE hy
  go_enter Tryz.func125, Tryz.ntmps125
  go_wp2_with (first | (go_at_call 136; (with_reducible refine Calls.mono (kf _) ?_); rintro e wc ⟨rfl, rfl⟩) | (go_at_call 124; (with_reducible refine Calls.mono (From_any 4603909380684499075 _) ?_); rintro e wc ⟨rfl, rfl⟩) | (go_at_call 137; (with_reducible refine Calls.mono (k2 _) ?_); rintro e wc ⟨rfl, rfl⟩) | (go_at_call 138; (with_reducible refine Calls.mono (k3 _) ?_); rintro e wc ⟨rfl, _⟩))
  go_ret2
  exact ⟨rfl, ⟨Gr.out⟩⟩
set_option maxHeartbeats 4000000 in
theorem turn_0 (x y : Nat) (w : World) {r : Nat × Nat} (hq : ∀ w, Calls Tryz.prog 125 #[.float .f64 x] w fun e w' => e = .returned (.tuple #[.float .f64 y, .int .i64 0]) ∧ Kp0 w w') (hs : stepsF y = some r) :
    Calls Tryz.prog 100 #[.float .f64 x] w fun e w' => e = .returned (.tuple #[(.float .f64 r.1), (.float .f64 r.2)]) ∧ Kp0 w w' := by
  have h4 := run_neg
  have ks := fun w => steps_any y w hs
  clear hs
  go_enter Tryz.func100, Tryz.ntmps100
  go_wp2_with (first | (go_at_call 125; (with_reducible refine Calls.mono (hq _) ?_); rintro e wc ⟨rfl, _⟩) | (go_at_call 126; (with_reducible refine Calls.mono (ks _) ?_); rintro e wc ⟨rfl, rfl⟩))
  go_ret2
  exact ⟨rfl, ⟨Gr.out⟩⟩
set_option maxHeartbeats 4000000 in
theorem turn_2 (x y : Nat) (w : World) {r : Nat × Nat} (hq : ∀ w, Calls Tryz.prog 125 #[.float .f64 x] w fun e w' => e = .returned (.tuple #[.float .f64 y, .int .i64 2]) ∧ Kp0 w w') (hs : stepsF y = some r) :
    Calls Tryz.prog 100 #[.float .f64 x] w fun e w' => e = .returned (.tuple #[(.float .f64 (Op.negFloat .f64 r.1)), (.float .f64 (Op.negFloat .f64 r.2))]) ∧ Kp0 w w' := by
  have h4 := run_neg
  have ks := fun w => steps_any y w hs
  clear hs
  go_enter Tryz.func100, Tryz.ntmps100
  go_wp2_with (first | (go_at_call 125; (with_reducible refine Calls.mono (hq _) ?_); rintro e wc ⟨rfl, _⟩) | (go_at_call 126; (with_reducible refine Calls.mono (ks _) ?_); rintro e wc ⟨rfl, rfl⟩))
  go_ret2
  exact ⟨rfl, ⟨Gr.out⟩⟩
set_option maxHeartbeats 4000000 in
theorem Place_any (l x a b s c : Nat) (w : World) (ht : ∀ w, Calls Tryz.prog 100 #[.float .f64 x] w fun e w' => e = .returned (.tuple #[.float .f64 s, .float .f64 c]) ∧ Kp0 w w') (ha : fmul l c = some a) (hb : fmul l s = some b) :
    Calls Tryz.prog 69 #[.float .f64 l, .float .f64 x] w fun e w' => e = .returned (.complex .f64 a b) ∧ Kp0 w w' := by
  have k1 := run_fmul ha
  have k2 := run_fmul hb
  clear ha hb
  go_enter Tryz.func69, Tryz.ntmps69
  go_wp2_with (go_at_call 100; (with_reducible refine Calls.mono (ht _) ?_); rintro e wc ⟨rfl, _⟩)
  go_ret
  exact ⟨rfl, ⟨Gr.out⟩⟩
end
section
open Go.RowKit
def fmax (x y : Nat) : Option Nat := match FloatKind.f64.format.order x y with
  | none => none
  | some .lt => some y
  | some .gt => some x
  | some .eq => some (if (FloatKind.f64.decode x).neg then y else x)
theorem run_fmax {x y r : Nat} (h : fmax x y = some r) (ts : Array TypeId) (t : TypeId) (w : World) : (Builtin.max_ ts t #[.float .f64 x, .float .f64 y]).run Tryz.prog w = .ok (.float .f64 r) w := by
  unfold fmax at h
  simp only [Builtin.max_, List.foldlM_cons, List.foldlM_nil, Builtin.max2]
  cases e : FloatKind.f64.format.order x y with
  | none => rw [e] at h; cases h
  | some c =>
    rw [e] at h
    cases c <;> simp only [Option.some.injEq] at h <;> subst h <;> rfl
/-- The float above. -/
def upC (a : Nat) : Bool := !fgt a 9218868437227405311 && feq a a && !feq a 9218868437227405312 && !feq a 0 && fgt 9218868437227405312 a && fgt a 0 && decide (a < 9223372036854775807)
def upF (a : Nat) : Option Nat := if upC a = true then some (a + 1) else none
set_option maxHeartbeats 4000000 in
theorem next_any (a : Nat) (w : World) (h : upC a = true) : Calls Tryz.prog 123 #[.float .f64 a, .float .f64 9218868437227405312] w fun e w' => e = .returned (.float .f64 (a + 1)) ∧ w = w' := by
  unfold upC at h
  simp only [Bool.and_eq_true, Bool.not_eq_true', decide_eq_true_eq] at h
  obtain ⟨⟨⟨⟨⟨⟨-, h2⟩, h3⟩, h4⟩, h5⟩, h6⟩, h7⟩ := h
  have k1 := fun w => isnan_any a w
  rw [h2] at k1
  have k2 := fun w => isnan_any 9218868437227405312 w
  rw [show feq 9218868437227405312 9218868437227405312 = true by decide +kernel] at k2
  have h8 := f64bits_run
  have h9 := f64from_run
  unfold feq at h3 h4
  unfold fgt at h5 h6
  have hz : (a : Int) + 1 < 18446744073709551616 := by omega
  have hz2 : (0 : Int) ≤ (a : Int) + 1 := by omega
  have hz3 : ((a : Int) + 1).toNat = a + 1 := by omega
  clear h2 h7
  go_enter Tryz.func123, Tryz.ntmps123
  go_wp2_with (first | (go_at_call 64; (with_reducible refine Calls.mono (k1 _) ?_); rintro e wc ⟨rfl, rfl⟩) | (go_at_call 64; (with_reducible refine Calls.mono (k2 _) ?_); rintro e wc ⟨rfl, rfl⟩))
  go_ret
  exact ⟨rfl, rfl⟩
set_option maxHeartbeats 4000000 in
theorem up_any (a : Nat) (w : World) {r : Nat} (h : upF a = some r) : Calls Tryz.prog 98 #[.float .f64 a] w fun e w' => e = .returned (.float .f64 r) ∧ w = w' := by
  unfold upF at h
  by_cases hc : upC a = true
  case neg => rw [if_neg hc] at h; cases h
  rw [if_pos hc] at h
  obtain rfl := Option.some.inj h
  have k1 := fun w => isinf_any a w
  have hi : fgt a 9218868437227405311 = false := by
    unfold upC at hc
    simp only [Bool.and_eq_true, Bool.not_eq_true'] at hc
    exact hc.1.1.1.1.1.1
  rw [hi] at k1
  have k2 := fun w => next_any a w hc
  clear hi hc h
  go_enter Tryz.func98, Tryz.ntmps98
  go_wp2_with (first | (go_at_call 62; (with_reducible refine Calls.mono (k1 _) ?_); rintro e wc ⟨rfl, rfl⟩) | (go_at_call 63; (with_reducible refine Calls.mono (inf_any _) ?_); rintro e wc ⟨rfl, rfl⟩) | (go_at_call 123; (with_reducible refine Calls.mono (k2 _) ?_); rintro e wc ⟨rfl, rfl⟩))
  go_ret
  exact ⟨rfl, rfl⟩
/-- Within what the zeros lie. -/
def boundS (m : Nat) (c : Pl) : Option Nat := (fadd (fabs c.1) (fabs c.2)).bind fun s => (upF s).bind fun u => fmax m u
def boundR (a b c : Pl) : Option Nat := (boundS 0 a).bind fun m1 => (boundS m1 b).bind fun m2 => (fmax (fabs c.1) (fabs c.2)).bind fun l => (fdiv m2 l).bind fun q => (upF q).bind fun u => (fadd 4607182418800017408 u).bind fun s => (upF s).bind fun r => if fle (fabs r) 9218868437227405311 = true then some r else none
set_option synthInstance.maxHeartbeats 2000000 in
set_option synthInstance.maxSize 100000 in
set_option maxRecDepth 100000 in
set_option maxHeartbeats 16000000 in
theorem bound3_any {w : World} {g cap : Nat} (a b c : Pl) [hb : BkC w g [.complex .f64 a.1 a.2, .complex .f64 b.1 b.2, .complex .f64 c.1 c.2] 26] (hok : polyOk [a, b, c] = true) (hcap : 3 ≤ cap) {r : Nat} (h : boundR a b c = some r) :
    Calls Tryz.prog 67 #[.slice (some ⟨g, 0, none⟩) 3 cap] w fun e w' => e = .returned (.tuple #[.float .f64 r, .int .i64 0]) ∧ ∃ n, w' = w.drewN n := by
  have hnot := run_not
  have c0 := hb.out.cell (i := 0) rfl
  have c1 := hb.out.cell (i := 1) rfl
  have c2 := hb.out.cell (i := 2) rfl
  haveI : Has w g := ⟨World.block_lt_of_cell? _ _ c0⟩
  have CK := hid (polycheck_ok [a, b, c] g 0 cap w hok (fun i hi => by
    rw [Nat.zero_add]
    have : i = 0 ∨ i = 1 ∨ i = 2 := by simp at hi; omega
    rcases this with rfl | rfl | rfl
    · exact c0
    · exact c1
    · exact c2))
  obtain ⟨m1, h0, h⟩ := bind_some h
  obtain ⟨m2, h1, h⟩ := bind_some h
  unfold boundS at h0 h1
  obtain ⟨s0, b01, h0⟩ := bind_some h0
  obtain ⟨u0, b02, b03⟩ := bind_some h0
  have p01 := run_fadd b01
  have p02 := fun w => up_any _ w b02
  have p03 := run_fmax b03
  obtain ⟨s1, b11, h1⟩ := bind_some h1
  obtain ⟨u1, b12, b13⟩ := bind_some h1
  have p11 := run_fadd b11
  have p12 := fun w => up_any _ w b12
  have p13 := run_fmax b13
  obtain ⟨l, d1, h⟩ := bind_some h
  obtain ⟨q, d2, h⟩ := bind_some h
  obtain ⟨u, d3, h⟩ := bind_some h
  obtain ⟨s, d4, h⟩ := bind_some h
  obtain ⟨r', d5, h⟩ := bind_some h
  by_cases hf : fle (fabs r') 9218868437227405311 = true
  case neg => rw [if_neg hf] at h; cases h
  rw [if_pos hf] at h
  obtain rfl := Option.some.inj h
  have t1 := run_fmax d1
  have t2 := run_fdiv d2
  have t3 := fun w => up_any _ w d3
  have t4 := run_fadd d4
  have t5 := fun w => up_any _ w d5
  have t6 := fun w => finite_any r' w
  rw [hf] at t6
  have ka : ∀ (x : Nat) (W : World), Calls Tryz.prog 55 #[.float .f64 x] W fun e w' => e = .returned (.float .f64 (fabs x)) ∧ w' = W := fun x W => (abs_any x W).mono (fun _ _ h => ⟨h.1, h.2.symm⟩)
  clear b01 b02 b03 b11 b12 b13 d1 d2 d3 d4 d5 hf h h0 h1 hok
  go_enter Tryz.func67, Tryz.ntmps67
  go_wp2_with ((go_at_call 19; (with_reducible refine Calls.mono (CK.out) ?_); rintro e wc ⟨rfl, rfl⟩))
  go_loop [6, 29] (fun s6 i => (i = .int .i64 0 ∧ s6 = .float .f64 0) ∨ (i = .int .i64 1 ∧ s6 = .float .f64 m1) ∨ (i = .int .i64 2 ∧ s6 = .float .f64 m2)) (fun _ i => 2 - (intOf i).toNat)
  case atStart => exact .inl ⟨rfl, rfl⟩
  case round =>
    rcases hrel with ⟨rfl, rfl⟩ | ⟨rfl, rfl⟩ | ⟨rfl, rfl⟩
    · go_wp2_with (first | (go_at_call 55; (with_reducible refine Calls.mono (abs_any _ _) ?_); rintro e wc ⟨rfl, rfl⟩) | (go_at_call 98; (with_reducible refine Calls.mono (p02 _) ?_); rintro e wc ⟨rfl, rfl⟩))
      go_round
      case rel => exact .inr (.inl ⟨rfl, rfl⟩)
      case measure => decide
    · go_wp2_with (first | (go_at_call 55; (with_reducible refine Calls.mono (abs_any _ _) ?_); rintro e wc ⟨rfl, rfl⟩) | (go_at_call 98; (with_reducible refine Calls.mono (p12 _) ?_); rintro e wc ⟨rfl, rfl⟩))
      go_round
      case rel => exact .inr (.inr ⟨rfl, rfl⟩)
      case measure => decide
    · go_wp2_with fail
      go_quiet ((go_at_call 55; refine Calls.quiet_of_same (ka _ _)))
      go_wp2_with (first | (go_at_call 98; (with_reducible refine Calls.mono (t3 _) ?_); rintro e wc ⟨rfl, rfl⟩) | (go_at_call 98; (with_reducible refine Calls.mono (t5 _) ?_); rintro e wc ⟨rfl, rfl⟩) | (go_at_call 59; (with_reducible refine Calls.mono (t6 _) ?_); rintro e wc ⟨rfl, rfl⟩))
      go_ret2
      exact ⟨rfl, _, rfl⟩
end
section
open Go.RowKit
theorem mk22 (w : World) : (Instr.makeSlice 28 (.int .i64 2) (.int .i64 2)).run Tryz.prog w = .ok (.slice (some ⟨w.heap.size, 0, none⟩) 2 2) (w.alloc (.cells #[.complex .f64 0 0, .complex .f64 0 0] 26)) := by kernel_rfl
theorem cv35_0 (w : World) : (convert 3 35 (.int .i64 0)).run Tryz.prog w = .ok (.float .f64 0) w := by kernel_rfl
theorem cv35_1 (w : World) : (convert 3 35 (.int .i64 1)).run Tryz.prog w = .ok (.float .f64 4607182418800017408) w := by kernel_rfl
theorem cv35_2 (w : World) : (convert 3 35 (.int .i64 2)).run Tryz.prog w = .ok (.float .f64 4611686018427387904) w := by kernel_rfl
theorem pls2 {w : World} {g : Nat} {x y : Pl} (h : BkC w g [.complex .f64 x.1 x.2, .complex .f64 y.1 y.2] 26) : Pls w g [x, y] := ⟨_, h.out, fun i hi => by
  have : i = 0 ∨ i = 1 := by simp at hi; omega
  rcases this with rfl | rfl <;> rfl⟩
set_option synthInstance.maxHeartbeats 2000000 in
set_option synthInstance.maxSize 100000 in
set_option maxRecDepth 100000 in
set_option maxHeartbeats 16000000 in
theorem begin3_any {w : World} {g cap : Nat} (a b c : Pl) [hb : BkC w g [.complex .f64 a.1 a.2, .complex .f64 b.1 b.2, .complex .f64 c.1 c.2] 26] (hok : polyOk [a, b, c] = true) (hcap : 3 ≤ cap) {r h : Nat} (hr : boundR a b c = some r) (hg : fgt r 4787326403894837248 = false) (hh : fdiv r 4611686018427387904 = some h) {z0 z1 : Pl}
    (h0 : ∀ w, Calls Tryz.prog 69 #[.float .f64 h, .float .f64 4605249457297304856] w fun e w' => e = .returned (.complex .f64 z0.1 z0.2) ∧ Kp0 w w') (h1 : ∀ w, Calls Tryz.prog 69 #[.float .f64 h, .float .f64 4616025215990052958] w fun e w' => e = .returned (.complex .f64 z1.1 z1.2) ∧ Kp0 w w') :
    Calls Tryz.prog 28 #[.slice (some ⟨g, 0, none⟩) 3 cap] w fun e w' => ∃ b, e = .returned (.tuple #[.slice (some ⟨b, 0, none⟩) 2 2, .int .i64 0]) ∧ PlC w' b [z0, z1] ∧ Kp0 w w' := by
  have hnot := run_not
  have BO := hid (bound3_any (w := w) (g := g) (cap := cap) a b c hok hcap hr)
  haveI : Has w g := ⟨hb.out.lt⟩
  unfold fgt at hg
  have k1 := run_fdiv hh
  clear hok hr hh
  have f0 := run_fmul (show fmul 4611686018427387904 0 = some 0 by decide +kernel)
  have f1 := run_fadd (show fadd 0 4602678819172646912 = some 4602678819172646912 by decide +kernel)
  have f2 := run_fmul (show fmul 4602678819172646912 4614256656552045848 = some 4609753056924675352 by decide +kernel)
  have f3 := run_fdiv (show fdiv 4609753056924675352 4611686018427387904 = some 4605249457297304856 by decide +kernel)
  have f4 := run_fmul (show fmul 4611686018427387904 4607182418800017408 = some 4611686018427387904 by decide +kernel)
  have f5 := run_fadd (show fadd 4611686018427387904 4602678819172646912 = some 4612811918334230528 by decide +kernel)
  have f6 := run_fmul (show fmul 4612811918334230528 4614256656552045848 = some 4620528815617423454 by decide +kernel)
  have f7 := run_fdiv (show fdiv 4620528815617423454 4611686018427387904 = some 4616025215990052958 by decide +kernel)
  go_enter Tryz.func28, Tryz.ntmps28
  go_wp2_with (first | (go_at_call 67; (with_reducible refine Calls.mono BO.out ?_); rintro e wb ⟨rfl, nb, rfl⟩) | (go_at_call 68; (with_reducible refine Calls.mono (Pi_any _) ?_); rintro e wc ⟨rfl, rfl⟩))
  rw [mk22]
  go_wp2_with fail
  go_loopw [31] (fun i wx => Gr w wx ∧ ((i = .int .i64 0 ∧ BkC wx w.heap.size [.complex .f64 0 0, .complex .f64 0 0] 26) ∨ (i = .int .i64 1 ∧ BkC wx w.heap.size [.complex .f64 z0.1 z0.2, .complex .f64 0 0] 26) ∨ (i = .int .i64 2 ∧ BkC wx w.heap.size [.complex .f64 z0.1 z0.2, .complex .f64 z1.1 z1.2] 26))) (fun i _ => 2 - (intOf i).toNat)
  case atStart => exact ⟨inferInstance, .inl ⟨rfl, inferInstance⟩⟩
  case round =>
    obtain ⟨ig, hrel⟩ := hrel
    have e0 := cv35_0
    have e1 := cv35_1
    have e2 := cv35_2
    rcases hrel with ⟨rfl, ib⟩ | ⟨rfl, ib⟩ | ⟨rfl, ib⟩
    · have b0 := ib.out.cell (i := 0) rfl
      have fz := ib.out.free 0
      haveI hh : Has wr w.heap.size := ⟨ib.out.lt⟩
      go_wp2_with (go_at_call 69; (with_reducible refine Calls.mono (h0 _) ?_); rintro e wc ⟨rfl, _⟩)
      go_round
      case rel => exact ⟨inferInstance, .inr (.inl ⟨rfl, inferInstance⟩)⟩
      case measure => decide
    · have b0 := ib.out.cell (i := 1) rfl
      have fz := ib.out.free 1
      haveI hh : Has wr w.heap.size := ⟨ib.out.lt⟩
      go_wp2_with (go_at_call 69; (with_reducible refine Calls.mono (h1 _) ?_); rintro e wc ⟨rfl, _⟩)
      go_round
      case rel => exact ⟨inferInstance, .inr (.inr ⟨rfl, inferInstance⟩)⟩
      case measure => decide
    · go_wp2_with fail
      go_ret2
      exact ⟨_, rfl, ⟨pls2 ib⟩, ⟨ig.out⟩⟩
end
section
open Go.RowKit
/-- Only the block b is turned. -/
theorem gs_own {v W : World} {b : Nat} (h : GS v [b] W) : KpS v [b] W := ⟨h.out⟩
set_option synthInstance.maxHeartbeats 2000000 in
set_option synthInstance.maxSize 100000 in
set_option maxRecDepth 100000 in
set_option maxHeartbeats 16000000 in
theorem insert2_any {w : World} {b cap : Nat} (x y : Pl) [hb : PlC w b [x, y]] (hx : numb x = true) (hy : numb y = true) (hc : ccmp y.1 y.2 x.1 x.2 < 0) :
    Calls Tryz.prog 101 #[.slice (some ⟨b, 0, none⟩) 2 cap, .int .i64 0, .int .i64 2, .func (.func 26) #[] #[]] w fun e w' => e = .returned (.tuple #[]) ∧ PlC w' b [y, x] ∧ KpS w [b] w' := by
  unfold numb at hx hy
  rw [Bool.and_eq_true] at hx hy
  have kc := fun w => Order_any y.1 y.2 x.1 x.2 w hy.1 hy.2 hx.1 hx.2
  generalize ccmp y.1 y.2 x.1 x.2 = c at *
  have HSW := hid (fun (W : World) (hW : Pls W b [x, y]) => And.intro ((hW.set (i := 1) (Nat.lt_succ_self 1) x).set (i := 0) (Nat.zero_lt_succ _) y) ((hW.set (i := 0) (Nat.zero_lt_succ _) y).set (i := 1) (Nat.lt_succ_self 1) x))
  clear hx hy
  go_enter Tryz.func101, Tryz.ntmps101
  go_wp2_with fail
  go_loopw [8] (fun i wr => (i = .int .i64 1 ∧ wr = w) ∨ (i = .int .i64 2 ∧ PlC wr b [y, x] ∧ GS w [b] wr)) (fun i _ => 2 - (intOf i).toNat)
  case atStart => exact .inl ⟨rfl, rfl⟩
  case round =>
    rcases hrel with ⟨rfl, rfl⟩ | ⟨rfl, ib, ig⟩
    · go_wp2_with fail
      go_loopw [9] (fun j wq => (∃ jj : Int, jj = 1 ∧ j = .int .i64 jj ∧ wq = wr) ∨ (j = .int .i64 0 ∧ PlC wq b [y, x] ∧ GS wr [b] wq)) (fun j _ => (intOf j).toNat)
      case atStart => exact .inl ⟨1, rfl, rfl, rfl⟩
      case round =>
        rcases hrel with ⟨jj, hj, rfl, rfl⟩ | ⟨rfl, ib, ig⟩
        · have k0 := hb.out.cell (i := 0) (Nat.zero_lt_succ _)
          have k1 := hb.out.cell (i := 1) (Nat.lt_succ_self 1)
          simp only [List.getD_cons_zero, List.getD_cons_succ] at k0 k1
          haveI hh : Has wr b := ⟨hb.out.lt⟩
          have g0 : (0 : Int) ≤ jj := by omega
          have g1 : jj < 2 := by omega
          have g2 : 0 < jj := by omega
          have g3 : (0 : Int) ≤ jj - 1 := by omega
          have g4 : jj - 1 < 2 := by omega
          have g5 : (jj - 1).toNat = 0 := by omega
          have g6 : jj.toNat = 1 := by omega
          have g7 : IntKind.i64.wrap (jj - 1) = jj - 1 := by rw [hj]; decide
          have HJ := hid hj
          clear hj
          go_wp2_with fail
          have g8 : (1 : Int) ≤ jj := by omega
          have g9 : jj < 3 := by omega
          have g10 : jj < 2 + 1 := by omega
          have g11 : jj ≤ 2 := by omega
          have g12 : ¬ jj < 1 := by omega
          have g13 : ¬ (2 : Int) < jj := by omega
          have g14 : ¬ (3 : Int) ≤ jj := by omega
          go_region_held3 (fun W => W.cell? ⟨b, 0, none⟩ = some (.complex .f64 x.1 x.2) ∧ W.cell? ⟨b, 1, none⟩ = some (.complex .f64 y.1 y.2)) (refine ⟨?_, ?_⟩ <;> (simp [go_sem, k0, k1]; done)) (first | (go_at_call 26; (with_reducible refine Calls.mono (kc _) ?_); rintro e wc ⟨rfl, _⟩))
          all_goals
            go_wp2_with fail
            have f0 : wc.frozen? ⟨b, 0, none⟩ = false := (inferInstance : PlC wc b [x, y]).out.free 0
            have f1 : wc.frozen? ⟨b, 1, none⟩ = false := (inferInstance : PlC wc b [x, y]).out.free 1
            have d0 : wc.cell? ⟨b, 0, none⟩ = some (.complex .f64 x.1 x.2) := (inferInstance : PlC wc b [x, y]).out.cell (i := 0) (Nat.zero_lt_succ _)
            have d1 : wc.cell? ⟨b, 1, none⟩ = some (.complex .f64 y.1 y.2) := (inferInstance : PlC wc b [x, y]).out.cell (i := 1) (Nat.lt_succ_self 1)
            have HW := hid (inferInstance : PlC wc b [x, y]).out
            have HGS := hid (inferInstance : GS wr [b] wc).out
            go_region
            all_goals
              go_wp2_with fail
              case roundEnd =>
                have hj := HJ.out
                refine ⟨.inr ⟨by rw [hj]; rfl, ⟨?_⟩, ⟨?_⟩⟩, by rw [hj]; decide⟩
                · exact (HSW.out _ HW.out).1.of_heap rfl
                · exact ((HGS.out.set (Or.inl (List.mem_singleton.2 rfl)) 1 _).set (Or.inl (List.mem_singleton.2 rfl)) 0 _).drew
        · go_wp2_with fail
          go_quiet (fail)
          go_wp2_with fail
          case roundEnd => exact ⟨.inr ⟨rfl, inferInstance, inferInstance⟩, by decide⟩
    · go_wp2_with fail
      go_end0
      exact ⟨rfl, ib, gs_own ig⟩
set_option synthInstance.maxHeartbeats 2000000 in
set_option synthInstance.maxSize 100000 in
set_option maxRecDepth 100000 in
set_option maxHeartbeats 16000000 in
theorem stable2_any {w : World} {b cap : Nat} (x y : Pl) [hb : PlC w b [x, y]] (hx : numb x = true) (hy : numb y = true) (hc : ccmp y.1 y.2 x.1 x.2 < 0) :
    Calls Tryz.prog 72 #[.slice (some ⟨b, 0, none⟩) 2 cap, .int .i64 2, .func (.func 26) #[] #[]] w fun e w' => e = .returned (.tuple #[]) ∧ PlC w' b [y, x] ∧ KpS w [b] w' := by
  have K := hid (insert2_any (w := w) (b := b) (cap := cap) x y hx hy hc)
  clear hx hy hc
  go_enter Tryz.func72, Tryz.ntmps72
  go_wp2_with fail
  go_loop [7, 8] (fun a b => a = .int .i64 0 ∧ b = .int .i64 20) (fun _ _ => 0)
  case atStart => exact ⟨rfl, rfl⟩
  case round =>
    obtain ⟨rfl, rfl⟩ := hrel
    go_wp2_with (go_at_call 101; (with_reducible refine Calls.mono K.out ?_); rintro e wc ⟨rfl, ib, ik⟩)
    go_loop [6, 7, 8, 9] (fun z _ _ _ => z = .int .i64 20) (fun _ _ _ _ => 0)
    case atStart => exact rfl
    case round =>
      obtain rfl := hrel
      go_wp2_with fail
      go_end0
      exact ⟨rfl, ib, ik⟩
set_option synthInstance.maxHeartbeats 2000000 in
set_option synthInstance.maxSize 100000 in
set_option maxRecDepth 100000 in
set_option maxHeartbeats 16000000 in
theorem sort2_any {w : World} {b cap : Nat} (x y : Pl) [hb : PlC w b [x, y]] (hx : numb x = true) (hy : numb y = true) (hc : ccmp y.1 y.2 x.1 x.2 < 0) :
    Calls Tryz.prog 31 #[.slice (some ⟨b, 0, none⟩) 2 cap, .func (.func 26) #[] #[]] w fun e w' => e = .returned (.tuple #[]) ∧ PlC w' b [y, x] ∧ KpS w [b] w' := by
  have K := hid (stable2_any (w := w) (b := b) (cap := cap) x y hx hy hc)
  clear hx hy hc
  go_enter Tryz.func31, Tryz.ntmps31
  go_wp2_with (go_at_call 72; (with_reducible refine Calls.mono K.out ?_); rintro e wc ⟨rfl, ib, ik⟩)
  go_end0
  exact ⟨rfl, ib, ik⟩
end
section
open Go.RowKit
/-- Do two places rest? -/
def restB (o z : List Pl) : Option Bool := (near1 (o.getD 0 (0, 0)) (z.getD 0 (0, 0))).bind fun p => (near1 (o.getD 1 (0, 0)) (z.getD 1 (0, 0))).bind fun q => some (p && q)
theorem rests2 {w : World} {g h c1 c2 : Nat} {o z : List Pl} [ho : PlC w g o] [hz : PlC w h z] (hl : o.length = 2) (hl2 : z.length = 2) {q : Bool} (hq : restB o z = some q) :
    Calls Tryz.prog 30 #[.slice (some ⟨g, 0, none⟩) 2 c1, .slice (some ⟨h, 0, none⟩) 2 c2] w fun e w' => e = .returned (.bool q) ∧ Kp0 w w' := by
  obtain ⟨p0, h0, hq⟩ := bind_some hq
  obtain ⟨p1, h1, hq⟩ := bind_some hq
  obtain rfl := (Option.some.inj hq).symm
  have k := rests_any (w := w) (g := g) (h := h) (c1 := c1) (c2 := c2) o z (fun k => if k = 0 then p0 else p1) (hl.trans hl2.symm) (by omega) ho.out.reads hz.out.reads (fun k hk => by
    have : k = 0 ∨ k = 1 := by omega
    rcases this with rfl | rfl
    · exact h0
    · exact h1) rfl
  rw [hl, hl2] at k
  refine k.mono (fun e w' h => ⟨?_, h.2⟩)
  rw [h.1]
  simp [List.range_succ]
set_option synthInstance.maxHeartbeats 2000000 in
set_option synthInstance.maxSize 100000 in
set_option maxRecDepth 100000 in
set_option maxHeartbeats 16000000 in
theorem All_found {w : World} {g cap : Nat} (a b c : Pl) [hb : BkC w g [.complex .f64 a.1 a.2, .complex .f64 b.1 b.2, .complex .f64 c.1 c.2] 26] (hok : polyOk [a, b, c] = true) (hcap : 3 ≤ cap) {most N : Nat} (hm0 : 1 ≤ most) (hm1 : most ≤ 16384) (Z : Nat → List Pl)
    (hB : ∀ w : World, BkC w g [.complex .f64 a.1 a.2, .complex .f64 b.1 b.2, .complex .f64 c.1 c.2] 26 → Calls Tryz.prog 28 #[.slice (some ⟨g, 0, none⟩) 3 cap] w fun e w' => ∃ b, e = .returned (.tuple #[.slice (some ⟨b, 0, none⟩) 2 2, .int .i64 0]) ∧ PlC w' b (Z 0) ∧ Kp0 w w')
    (hN : N < most) (hZ : ∀ k, k ≤ N → roundR [a, b] c 2 2 (Z k) 2 = some (Z (k + 1))) (hZl : ∀ k, k ≤ N + 1 → (Z k).length = 2) (hR : ∀ k, k < N → restB (Z k) (Z (k + 1)) = some false) (hR1 : restB (Z N) (Z (N + 1)) = some true) {x y : Pl} (hxy : Z (N + 1) = [x, y]) (hx : numb x = true) (hy : numb y = true) (hc : ccmp y.1 y.2 x.1 x.2 < 0) :
    Calls Tryz.prog 10 #[.slice (some ⟨g, 0, none⟩) 3 cap, .int .i64 most] w fun e w' => ∃ b cb, e = .returned (.tuple #[.slice (some ⟨b, 0, none⟩) 2 cb, .int .i64 (N + 1), .int .i64 0]) ∧ PlC w' b [y, x] ∧ Kp0 w w' := by
  have hnot := run_not
  have hgl := hb.out.lt
  haveI : Has w g := ⟨hgl⟩
  have hrd : reads w g 0 [a, b, c] := fun i hi => by
    rw [Nat.zero_add]
    have : i = 0 ∨ i = 1 ∨ i = 2 := by simp at hi; omega
    rcases this with rfl | rfl | rfl
    · exact hb.out.cell (i := 0) rfl
    · exact hb.out.cell (i := 1) rfl
    · exact hb.out.cell (i := 2) rfl
  have CK := hid (polycheck_ok [a, b, c] g 0 cap w hok hrd)
  have BE := hid (hB w hb)
  have RO := hid (fun (W : World) (hW : Below w.heap.size w W) (h ch : Nat) (k : Nat) (hk : (Z k).length = 2) (hp : PlC W h (Z k)) (hch : 2 ≤ ch) (r : List Pl) (hr : roundR [a, b] c 2 2 (Z k) 2 = some r) => round_any (w := W) (g := g) (off := 0) (cap := cap) (m := 2) [a, b] c hok rfl hcap (Nat.lt_of_lt_of_le hgl hW.size) (fun i hi => (World.cell?_of_block (w := w) (hW.block g hgl)).trans (hrd i hi)) (h := h) (ch := ch) (Z k) hk (by decide) (by decide) hch hr)
  have HZ := hid hZ
  have HZL := hid hZl
  have HRF := hid hR
  have hmi : (1 : Int) ≤ most := by omega
  have hmi2 : (most : Int) ≤ 16384 := by omega
  have HR1 := hid hR1
  have HXY := hid (And.intro hxy (And.intro hx (And.intro hy hc)))
  clear hR1 hxy hx hy hc
  clear hrd hB hok hcap hgl hZ hZl hR
  go_enter Tryz.func10, Tryz.ntmps10
  go_wp2_with (first | (go_at_call 19; (with_reducible refine Calls.mono (CK.out) ?_); rintro e wc ⟨rfl, rfl⟩) | (go_at_call 28; (with_reducible refine Calls.mono BE.out ?_); rintro e wb ⟨b0, rfl, _, _⟩))
  go_loopw [8, 36] (fun s8 i wx => ∃ (k b cb : Nat), k ≤ N ∧ i = .int .i64 k ∧ s8 = .slice (some ⟨b, 0, none⟩) 2 cb ∧ 2 ≤ cb ∧ PlC wx b (Z k) ∧ Gr w wx) (fun _ i _ => most - (intOf i).toNat)
  case atStart => exact ⟨0, b0, 2, Nat.zero_le _, rfl, rfl, Nat.le_refl _, inferInstance, inferInstance⟩
  case round =>
    obtain ⟨k, b1, cb, hk, rfl, rfl, hcb, ib, ig⟩ := hrel
    by_cases hlt : k < N
    · have hkm : (k : Int) < (most : Int) := by omega
      have KR := hid (RO.out wr ig.out b1 cb k (HZL.out k (by omega)) ib hcb _ (HZ.out k (by omega)))
      have KS := fun (W : World) (b2 c1 c2 : Nat) (h1 : PlC W b1 (Z k)) (h2 : PlC W b2 (Z (k + 1))) => rests2 (w := W) (g := b1) (h := b2) (c1 := c1) (c2 := c2) (HZL.out k (by omega)) (HZL.out (k + 1) (by omega)) (HRF.out k hlt)
      go_wp2_with (first | (go_at_call 29; (with_reducible refine Calls.mono KR.out ?_); rintro e wd ⟨b2, c2, rfl, hc2, _, _, _⟩) | (go_at_call 30; (with_reducible refine Calls.mono (KS _ _ _ _ inferInstance inferInstance) ?_); rintro e we ⟨rfl, _⟩))
      go_round
      case rel => exact ⟨k + 1, b2, c2, by omega, by go_num, rfl, hc2, inferInstance, inferInstance⟩
      case measure => simp [intOf]; omega
    · obtain rfl : k = N := by omega
      have hkm : (k : Int) < (most : Int) := by omega
      have KR := hid (RO.out wr ig.out b1 cb k (HZL.out k (by omega)) ib hcb _ (HZ.out k (by omega)))
      have KS := fun (W : World) (b2 c1 c2 : Nat) (h1 : PlC W b1 (Z k)) (h2 : PlC W b2 (Z (k + 1))) => rests2 (w := W) (g := b1) (h := b2) (c1 := c1) (c2 := c2) (HZL.out k (by omega)) (HZL.out (k + 1) (by omega)) HR1.out
      have KT := fun (W : World) (b2 c2 : Nat) (h2 : PlC W b2 [x, y]) => sort2_any (w := W) (b := b2) (cap := c2) x y HXY.out.2.1 HXY.out.2.2.1 HXY.out.2.2.2
      have hz1 : Z (k + 1) = [x, y] := HXY.out.1
      rw [hz1] at KR KS
      clear hz1
      have hb2 : (k : Int) + 1 < 9223372036854775808 := by omega
      go_wp2_with (first | (go_at_call 29; (with_reducible refine Calls.mono KR.out ?_); rintro e wd ⟨b2, c2, rfl, hc2, _, _, _⟩) | (go_at_call 30; (with_reducible refine Calls.mono (KS _ _ _ _ inferInstance inferInstance) ?_); rintro e we ⟨rfl, _⟩) | (go_at_call 31; (with_reducible refine Calls.mono (KT _ _ _ inferInstance) ?_); rintro e wf ⟨rfl, _, _⟩))
      refine bodyPost_ret (results_tmp3 rfl _ _ _) rfl ?_
      exact ⟨_, _, rfl, inferInstance, ⟨Gr.out⟩⟩
set_option synthInstance.maxHeartbeats 2000000 in
set_option synthInstance.maxSize 100000 in
set_option maxRecDepth 100000 in
set_option maxHeartbeats 16000000 in
theorem All_steps {w : World} {g cap : Nat} (a b c : Pl) [hb : BkC w g [.complex .f64 a.1 a.2, .complex .f64 b.1 b.2, .complex .f64 c.1 c.2] 26] (hok : polyOk [a, b, c] = true) (hcap : 3 ≤ cap) {most N : Nat} (hm0 : 1 ≤ most) (hm1 : most ≤ 16384) (Z : Nat → List Pl)
    (hB : ∀ w : World, BkC w g [.complex .f64 a.1 a.2, .complex .f64 b.1 b.2, .complex .f64 c.1 c.2] 26 → Calls Tryz.prog 28 #[.slice (some ⟨g, 0, none⟩) 3 cap] w fun e w' => ∃ b, e = .returned (.tuple #[.slice (some ⟨b, 0, none⟩) 2 2, .int .i64 0]) ∧ PlC w' b (Z 0) ∧ Kp0 w w')
    (hN : N = most) (hZ : ∀ k, k < N → roundR [a, b] c 2 2 (Z k) 2 = some (Z (k + 1))) (hZl : ∀ k, k ≤ N → (Z k).length = 2) (hR : ∀ k, k < N → restB (Z k) (Z (k + 1)) = some false) :
    Calls Tryz.prog 10 #[.slice (some ⟨g, 0, none⟩) 3 cap, .int .i64 most] w fun e w' => e = .returned (.tuple #[.slice none 0 0, .int .i64 0, .int .i64 8]) ∧ Kp0 w w' := by
  have hnot := run_not
  have hgl := hb.out.lt
  haveI : Has w g := ⟨hgl⟩
  have hrd : reads w g 0 [a, b, c] := fun i hi => by
    rw [Nat.zero_add]
    have : i = 0 ∨ i = 1 ∨ i = 2 := by simp at hi; omega
    rcases this with rfl | rfl | rfl
    · exact hb.out.cell (i := 0) rfl
    · exact hb.out.cell (i := 1) rfl
    · exact hb.out.cell (i := 2) rfl
  have CK := hid (polycheck_ok [a, b, c] g 0 cap w hok hrd)
  have BE := hid (hB w hb)
  have RO := hid (fun (W : World) (hW : Below w.heap.size w W) (h ch : Nat) (k : Nat) (hk : (Z k).length = 2) (hp : PlC W h (Z k)) (hch : 2 ≤ ch) (r : List Pl) (hr : roundR [a, b] c 2 2 (Z k) 2 = some r) => round_any (w := W) (g := g) (off := 0) (cap := cap) (m := 2) [a, b] c hok rfl hcap (Nat.lt_of_lt_of_le hgl hW.size) (fun i hi => (World.cell?_of_block (w := w) (hW.block g hgl)).trans (hrd i hi)) (h := h) (ch := ch) (Z k) hk (by decide) (by decide) hch hr)
  have HZ := hid hZ
  have HZL := hid hZl
  have HRF := hid hR
  have hmi : (1 : Int) ≤ most := by omega
  have hmi2 : (most : Int) ≤ 16384 := by omega
  clear hrd hB hok hcap hgl hZ hZl hR
  go_enter Tryz.func10, Tryz.ntmps10
  go_wp2_with (first | (go_at_call 19; (with_reducible refine Calls.mono (CK.out) ?_); rintro e wc ⟨rfl, rfl⟩) | (go_at_call 28; (with_reducible refine Calls.mono BE.out ?_); rintro e wb ⟨b0, rfl, _, _⟩))
  go_loopw [8, 36] (fun s8 i wx => ∃ (k b cb : Nat), k ≤ N ∧ i = .int .i64 k ∧ s8 = .slice (some ⟨b, 0, none⟩) 2 cb ∧ 2 ≤ cb ∧ PlC wx b (Z k) ∧ Gr w wx) (fun _ i _ => most - (intOf i).toNat)
  case atStart => exact ⟨0, b0, 2, Nat.zero_le _, rfl, rfl, Nat.le_refl _, inferInstance, inferInstance⟩
  case round =>
    obtain ⟨k, b1, cb, hk, rfl, rfl, hcb, ib, ig⟩ := hrel
    by_cases hlt : k < N
    · have hkm : (k : Int) < (most : Int) := by omega
      have KR := hid (RO.out wr ig.out b1 cb k (HZL.out k (by omega)) ib hcb _ (HZ.out k (by omega)))
      have KS := fun (W : World) (b2 c1 c2 : Nat) (h1 : PlC W b1 (Z k)) (h2 : PlC W b2 (Z (k + 1))) => rests2 (w := W) (g := b1) (h := b2) (c1 := c1) (c2 := c2) (HZL.out k (by omega)) (HZL.out (k + 1) (by omega)) (HRF.out k hlt)
      go_wp2_with (first | (go_at_call 29; (with_reducible refine Calls.mono KR.out ?_); rintro e wd ⟨b2, c2, rfl, hc2, _, _, _⟩) | (go_at_call 30; (with_reducible refine Calls.mono (KS _ _ _ _ inferInstance inferInstance) ?_); rintro e we ⟨rfl, _⟩))
      go_round
      case rel => exact ⟨k + 1, b2, c2, by omega, by go_num, rfl, hc2, inferInstance, inferInstance⟩
      case measure => simp [intOf]; omega
    · obtain rfl : k = N := by omega
      have hkm : ¬ (k : Int) < (most : Int) := by omega
      go_wp2_with fail
      refine bodyPost_ret (results_tmp3 rfl _ _ _) rfl ?_
      exact ⟨rfl, ⟨Gr.out⟩⟩
end
section
open Go.RowKit
/-- A polynomial by its two zeros. -/
def pof2 (x y : Pl) : Option (Pl × Pl × Pl) := (cmul x.1 x.2 4607182418800017408 0).bind fun p => let q : Pl := (Op.negFloat .f64 p.1, Op.negFloat .f64 p.2)
  (cmul y.1 y.2 4607182418800017408 0).bind fun r => (csub q.1 q.2 r.1 r.2).bind fun s => (cmul y.1 y.2 q.1 q.2).bind fun t => some ((Op.negFloat .f64 t.1, Op.negFloat .f64 t.2), s, (4607182418800017408, 0))
theorem mk03 (w : World) : (Instr.makeSlice 28 (.int .i64 0) (.int .i64 3)).run Tryz.prog w = .ok (.slice (some ⟨w.heap.size, 0, none⟩) 0 3) (w.alloc (.cells #[.complex .f64 0 0, .complex .f64 0 0, .complex .f64 0 0] 26)) := by kernel_rfl
set_option synthInstance.maxHeartbeats 2000000 in
set_option synthInstance.maxSize 100000 in
set_option maxRecDepth 100000 in
set_option maxHeartbeats 16000000 in
theorem ans3_any {w : World} {g : Nat} (a b c : Pl) [hb : BkC w g [.complex .f64 a.1 a.2, .complex .f64 b.1 b.2, .complex .f64 c.1 c.2] 26] (hn : nought c = false) (ha : okP a = true) (hbb : okP b = true) (hc : okP c = true) :
    Calls Tryz.prog 18 #[.slice (some ⟨g, 0, none⟩) 3 3] w fun e w' => e = .returned (.tuple #[.slice (some ⟨g, 0, none⟩) 3 3, .int .i64 0]) ∧ Kp0 w w' := by
  have hnot := run_not
  have p0 := fun w => place_any a.1 a.2 w
  have p1 := fun w => place_any b.1 b.2 w
  have p2 := fun w => place_any c.1 c.2 w
  have kn := fun w => pnought_any c.1 c.2 w
  rw [show okP (a.1, a.2) = true from ha] at p0
  rw [show okP (b.1, b.2) = true from hbb] at p1
  rw [show okP (c.1, c.2) = true from hc] at p2
  rw [show nought (c.1, c.2) = false from hn] at kn
  have c0 := hb.out.cell (i := 0) rfl
  have c1 := hb.out.cell (i := 1) rfl
  have c2 := hb.out.cell (i := 2) rfl
  haveI : Has w g := ⟨World.block_lt_of_cell? _ _ c0⟩
  clear hn ha hbb hc
  go_enter Tryz.func18, Tryz.ntmps18
  go_wp2_with fail
  go_loop [4] (fun s4 => s4 = .int .i64 3) (fun _ => 0)
  case atStart => exact rfl
  case round =>
    obtain rfl := hrel
    go_wp2_with (go_at_call 48; (with_reducible refine Calls.mono (kn _) ?_); rintro e wc ⟨rfl, rfl⟩)
    go_loop [6, 29] (fun _ i => i = .int .i64 0 ∨ i = .int .i64 1 ∨ i = .int .i64 2 ∨ i = .int .i64 3) (fun _ i => 3 - (intOf i).toNat)
    case atStart => exact .inl rfl
    case round =>
      rcases hrel with rfl | rfl | rfl | rfl
      · go_wp2_with (go_at_call 14; (with_reducible refine Calls.mono (p0 _) ?_); rintro e wc ⟨rfl, rfl⟩)
        go_round
        case rel => first | exact .inr (.inl rfl) | simp
        case measure => decide
      · go_wp2_with (go_at_call 14; (with_reducible refine Calls.mono (p1 _) ?_); rintro e wc ⟨rfl, rfl⟩)
        go_round
        case rel => first | exact .inr (.inr (.inl rfl)) | simp
        case measure => decide
      · go_wp2_with (go_at_call 14; (with_reducible refine Calls.mono (p2 _) ?_); rintro e wc ⟨rfl, rfl⟩)
        go_round
        case rel => first | exact .inr (.inr (.inr rfl)) | simp
        case measure => decide
      · go_wp2_with fail
        go_ret2
        exact ⟨rfl, ⟨Gr.out⟩⟩
set_option synthInstance.maxHeartbeats 2000000 in
set_option synthInstance.maxSize 100000 in
set_option maxRecDepth 100000 in
set_option maxHeartbeats 16000000 in
theorem pof2_any {w : World} {g : Nat} (x y : Pl) [hb : BkC w g [.complex .f64 x.1 x.2, .complex .f64 y.1 y.2] 26] (hx : okP x = true) (hy : okP y = true) {r : Pl × Pl × Pl} (h : pof2 x y = some r) (hr1 : okP r.1 = true) (hr2 : okP r.2.1 = true) :
    Calls Tryz.prog 7 #[.slice (some ⟨g, 0, none⟩) 2 2] w fun e w' => ∃ b, e = .returned (.tuple #[.slice (some ⟨b, 0, none⟩) 3 3, .int .i64 0]) ∧ BkC w' b [.complex .f64 r.1.1 r.1.2, .complex .f64 r.2.1.1 r.2.1.2, .complex .f64 r.2.2.1 r.2.2.2] 26 ∧ Kp0 w w' := by
  have hn := run_not
  have c0 : w.cell? ⟨g, 0, none⟩ = some (.complex .f64 x.1 x.2) := Bk.cell hb.out rfl
  have c1 : w.cell? ⟨g, 1, none⟩ = some (.complex .f64 y.1 y.2) := Bk.cell hb.out rfl
  have px := fun w => place_any x.1 x.2 w
  have py := fun w => place_any y.1 y.2 w
  rw [show okP (x.1, x.2) = true from hx] at px
  rw [show okP (y.1, y.2) = true from hy] at py
  haveI : Has w g := ⟨World.block_lt_of_cell? _ _ c0⟩
  go_enter Tryz.func7, Tryz.ntmps7
  go_wp2_with fail
  go_loop [5, 15] (fun _ i => i = .int .i64 0 ∨ i = .int .i64 1 ∨ i = .int .i64 2) (fun _ i => 2 - (intOf i).toNat)
  case atStart => exact .inl rfl
  case round =>
    rcases hrel with rfl | rfl | rfl
    · go_wp2_with ((go_at_call 14; (with_reducible refine Calls.mono (px _) ?_); rintro e wc ⟨rfl, rfl⟩))
      go_round
      case rel => first | exact .inr (.inl rfl) | simp
      case measure => decide
    · go_wp2_with ((go_at_call 14; (with_reducible refine Calls.mono (py _) ?_); rintro e wc ⟨rfl, rfl⟩))
      go_round
      case rel => first | exact .inr (.inr rfl) | simp
      case measure => decide
    · go_wp2_with fail
      rw [mk03]
      go_wp2_with fail
      obtain ⟨p, e0, h⟩ := bind_some h
      have h' : ((cmul y.1 y.2 4607182418800017408 0).bind fun t1 => (csub (Op.negFloat .f64 p.1) (Op.negFloat .f64 p.2) t1.1 t1.2).bind fun s => (cmul y.1 y.2 (Op.negFloat .f64 p.1) (Op.negFloat .f64 p.2)).bind fun t => some ((Op.negFloat .f64 t.1, Op.negFloat .f64 t.2), s, ((4607182418800017408, 0) : Pl))) = some r := h
      clear h
      obtain ⟨t1, e1, h'⟩ := bind_some h'
      obtain ⟨s, e2, h'⟩ := bind_some h'
      obtain ⟨t, e3, h'⟩ := bind_some h'
      obtain rfl := (Option.some.inj h').symm
      have k0 := fun w => cmul_any _ _ _ _ w e0
      have k1 := fun w => cmul_any _ _ _ _ w e1
      have k2 := fun w => csub_any _ _ _ _ w e2
      have k3 := fun w => cmul_any _ _ _ _ w e3
      clear e0 e1 e2 e3 h'
      go_loopw [6, 8, 9, 31] (fun s6 _ _ s31 wx => Gr w wx ∧ ((s31 = .int .i64 0 ∧ s6 = .slice (some ⟨w.heap.size, 0, none⟩) 1 3 ∧ BkC wx w.heap.size [.complex .f64 4607182418800017408 0, .complex .f64 0 0, .complex .f64 0 0] 26) ∨ (s31 = .int .i64 1 ∧ s6 = .slice (some ⟨w.heap.size, 0, none⟩) 2 3 ∧ BkC wx w.heap.size [.complex .f64 (Op.negFloat .f64 p.1) (Op.negFloat .f64 p.2), .complex .f64 4607182418800017408 0, .complex .f64 0 0] 26) ∨ (s31 = .int .i64 2 ∧ s6 = .slice (some ⟨w.heap.size, 0, none⟩) 3 3 ∧ BkC wx w.heap.size [.complex .f64 (Op.negFloat .f64 t.1) (Op.negFloat .f64 t.2), .complex .f64 s.1 s.2, .complex .f64 4607182418800017408 0] 26))) (fun _ _ _ s31 _ => 2 - (intOf s31).toNat)
      case atStart => exact ⟨inferInstance, .inl ⟨rfl, rfl, inferInstance⟩⟩
      case round =>
        obtain ⟨ig, hrel⟩ := hrel
        rcases hrel with ⟨rfl, rfl, ib⟩ | ⟨rfl, rfl, ib⟩ | ⟨rfl, rfl, ib⟩
        · have d0 := (World.cell?_of_block (w := w) (ig.out.block g (World.block_lt_of_cell? _ _ c0))).trans c0
          have b0 := ib.out.cell (i := 0) rfl
          have b1 := ib.out.cell (i := 1) rfl
          have b2 := ib.out.cell (i := 2) rfl
          have f0 := ib.out.free 0
          have f1 := ib.out.free 1
          have f2 := ib.out.free 2
          haveI hh : Has wr w.heap.size := ⟨ib.out.lt⟩
          go_wp2_with fail
          go_loopw [9] (fun s9 wx => s9 = .int .i64 0 ∧ Gr w wx ∧ BkC wx w.heap.size [.complex .f64 4607182418800017408 0, .complex .f64 4607182418800017408 0, .complex .f64 0 0] 26) (fun _ _ => 0)
          case atStart => exact ⟨rfl, inferInstance, inferInstance⟩
          case round =>
            obtain ⟨rfl, ig, ib⟩ := hrel
            have b0 := ib.out.cell (i := 0) rfl
            have b1 := ib.out.cell (i := 1) rfl
            have b2 := ib.out.cell (i := 2) rfl
            have f0 := ib.out.free 0
            have f1 := ib.out.free 1
            have f2 := ib.out.free 2
            haveI hh : Has wr w.heap.size := ⟨ib.out.lt⟩
            go_wp2_with (first | (go_at_call 16; (with_reducible refine Calls.mono (k0 _) ?_); rintro e wc ⟨rfl, rfl⟩) | (go_at_call 17; (with_reducible refine Calls.mono (cneg_any _ _ _) ?_); rintro e wc ⟨rfl, rfl⟩))
            case roundEnd => exact ⟨⟨inferInstance, .inr (.inl ⟨rfl, rfl, inferInstance⟩)⟩, by decide⟩
        · have d0 := (World.cell?_of_block (w := w) (ig.out.block g (World.block_lt_of_cell? _ _ c1))).trans c1
          have b0 := ib.out.cell (i := 0) rfl
          have b1 := ib.out.cell (i := 1) rfl
          have b2 := ib.out.cell (i := 2) rfl
          have f0 := ib.out.free 0
          have f1 := ib.out.free 1
          have f2 := ib.out.free 2
          haveI hh : Has wr w.heap.size := ⟨ib.out.lt⟩
          go_wp2_with fail
          go_loopw [9] (fun s9 wx => (s9 = .int .i64 1 ∧ Gr w wx ∧ BkC wx w.heap.size [.complex .f64 (Op.negFloat .f64 p.1) (Op.negFloat .f64 p.2), .complex .f64 4607182418800017408 0, .complex .f64 4607182418800017408 0] 26) ∨ (s9 = .int .i64 0 ∧ Gr w wx ∧ BkC wx w.heap.size [.complex .f64 (Op.negFloat .f64 p.1) (Op.negFloat .f64 p.2), .complex .f64 s.1 s.2, .complex .f64 4607182418800017408 0] 26)) (fun s9 _ => (intOf s9).toNat)
          case atStart => exact .inl ⟨rfl, inferInstance, inferInstance⟩
          case round =>
            rcases hrel with ⟨rfl, ig, ib⟩ | ⟨rfl, ig, ib⟩
            · have b0 := ib.out.cell (i := 0) rfl
              have b1 := ib.out.cell (i := 1) rfl
              have f1 := ib.out.free 1
              haveI hh : Has wr w.heap.size := ⟨ib.out.lt⟩
              have k1' : ∀ W : World, Calls Tryz.prog 16 #[.complex .f64 y.1 y.2, .complex .f64 4607182418800017408 0] W fun e w' => e = .returned (.complex .f64 t1.1 t1.2) ∧ w' = W := fun W => (k1 W).mono (fun _ _ h => ⟨h.1, h.2.symm⟩)
              have k2' : ∀ W : World, Calls Tryz.prog 15 #[.complex .f64 (Op.negFloat .f64 p.1) (Op.negFloat .f64 p.2), .complex .f64 t1.1 t1.2] W fun e w' => e = .returned (.complex .f64 s.1 s.2) ∧ w' = W := fun W => (k2 W).mono (fun _ _ h => ⟨h.1, h.2.symm⟩)
              have wz : IntKind.i64.wrap ((1 : Int) - 1) = 0 := by decide
              have wz2 : IntKind.i64.wrap (0 : Int) = 0 := by decide
              go_wp2_with fail
              go_still_tail 15, (by kernel_rfl)
              still_call (k1' _)
              repeat still_step
              still_call (k2' _)
              repeat still_step
              refine wpStill_nil ?_
              change wpList _ _ _ _ _ wr.drew
              go_wp2_with fail
              case roundEnd => exact ⟨.inr ⟨rfl, inferInstance, inferInstance⟩, by decide⟩
            · have b0 := ib.out.cell (i := 0) rfl
              have b1 := ib.out.cell (i := 1) rfl
              have b2 := ib.out.cell (i := 2) rfl
              have f0 := ib.out.free 0
              have f1 := ib.out.free 1
              have f2 := ib.out.free 2
              haveI hh : Has wr w.heap.size := ⟨ib.out.lt⟩
              go_wp2_with (first | (go_at_call 16; (with_reducible refine Calls.mono (k3 _) ?_); rintro e wc ⟨rfl, rfl⟩) | (go_at_call 17; (with_reducible refine Calls.mono (cneg_any _ _ _) ?_); rintro e wc ⟨rfl, rfl⟩))
              case roundEnd => exact ⟨⟨inferInstance, .inr (.inr ⟨rfl, rfl, inferInstance⟩)⟩, by decide⟩
        · have HR := hid hr1
          have HR2 := hid hr2
          have one0 : nought (4607182418800017408, 0) = false := by decide +kernel
          have one1 : okP (4607182418800017408, 0) = true := by decide +kernel
          have AN := hid (ans3_any (w := wr) (g := w.heap.size) (Op.negFloat .f64 t.1, Op.negFloat .f64 t.2) s (4607182418800017408, 0) one0 HR.out HR2.out one1)
          clear hr1 hr2 one0 one1
          go_wp2_with (go_at_call 18; (with_reducible refine Calls.mono AN.out ?_); rintro e wa ⟨rfl, _⟩)
          go_ret2
          exact ⟨_, rfl, inferInstance, ⟨Gr.out⟩⟩
end
end Go.Proofs.YtcoillcppmibgaaGreatDoor
