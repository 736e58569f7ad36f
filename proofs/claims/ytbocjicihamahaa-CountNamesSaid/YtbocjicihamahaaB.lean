/- Boxes of the given program, function by function: what each call answers. -/
import Derived.Test.YtbocjicihamahaaA
import Derived.Handy
set_option linter.unusedSimpArgs false
set_option linter.unusedVariables false
namespace Go.Proofs.Ytbocjicihamahaa
open Go.RowKit

theorem hid {p : Prop} (h : p) : Hid p := h
theorem foldl_take_succ (f : Nat → Nat → Nat) (a : Nat) (l : List Nat) (k : Nat) (h : k < l.length) : (l.take (k + 1)).foldl f a = f ((l.take k).foldl f a) l[k] := by
  rw [List.take_succ_eq_append_getElem h, List.foldl_append]
  rfl
theorem of_any (a b c d : Nat) (w : World) :
    Calls Try.prog 37 #[.agg #[.complex .f64 a b, .complex .f64 c d]] w fun e w' => e = .returned (.agg #[.float .f64 a, .float .f64 c, .float .f64 b, .float .f64 d]) ∧ Below w.heap.size w w' := by
  go_enter Try.func37, Try.ntmps37
  go_wp2
  go_returns
  exact ⟨rfl, by go_grown⟩
theorem re_any (a b c d : Nat) (w : World) :
    Calls Try.prog 82 #[.agg #[.float .f64 a, .float .f64 b, .float .f64 c, .float .f64 d]] w fun e w' => e = .returned (.agg #[.float .f64 a, .float .f64 b]) ∧ Below w.heap.size w w' := by
  go_enter Try.func82, Try.ntmps82
  go_wp2
  go_returns
  exact ⟨rfl, by go_grown⟩
theorem im_any (a b c d : Nat) (w : World) :
    Calls Try.prog 85 #[.agg #[.float .f64 a, .float .f64 b, .float .f64 c, .float .f64 d]] w fun e w' => e = .returned (.agg #[.float .f64 c, .float .f64 d]) ∧ Below w.heap.size w w' := by
  go_enter Try.func85, Try.ntmps85
  go_wp2
  go_returns
  exact ⟨rfl, by go_grown⟩
theorem tobox_any (a b c d : Nat) (w : World) :
    Calls Try.prog 60 #[.agg #[.float .f64 a, .float .f64 b, .float .f64 c, .float .f64 d]] w fun e w' => e = .returned (.agg #[.complex .f64 a c, .complex .f64 b d]) ∧ Below w.heap.size w w' := by
  go_enter Try.func60, Try.ntmps60
  go_wp2
  go_returns
  exact ⟨rfl, by go_grown⟩

set_option maxHeartbeats 400000 in
theorem best_min (a : Nat) (l : List Nat) (b off cap : Nat) (w : World) (hn : l.length ≤ 4096) (hc : ∀ i, i < l.length → w.cell? ⟨b, off + i, none⟩ = some (.float .f64 (l.getD i 0))) :
    Calls Try.prog 90 #[.func (.func 59) #[] #[], .float .f64 a, .slice (some ⟨b, off, none⟩) l.length cap] w fun e w' => e = .returned (.float .f64 (l.foldl fminS a)) ∧ w = w' := by
  have HC := hid hc
  clear hc
  go_enter Try.func90, Try.ntmps90
  go_wp2
  go_loop [1, 8, 11] (fun v _ i => ∃ k : Nat, k ≤ l.length ∧ i = .int .i64 k ∧ v = .float .f64 ((l.take k).foldl fminS a)) (fun _ _ i => l.length - (intOf i).toNat)
  case atStart => exact ⟨0, Nat.zero_le _, rfl, rfl⟩
  case round =>
    obtain ⟨k, hk, rfl, rfl⟩ := hrel
    by_cases hlt : k < l.length
    · have hcell := HC.out k hlt
      go_wp2_with (go_at_call 59; refine (min_any _ _ _).mono ?_; rintro e w' ⟨rfl, rfl⟩)
      go_round
      case rel => exact ⟨k + 1, by omega, by go_num, by rw [foldl_take_succ _ _ _ _ hlt]⟩
      case measure => simp [intOf]; omega
    · go_wp2
      go_ret
      exact ⟨by rw [List.take_of_length_le (by omega)]; rfl, rfl⟩

set_option maxHeartbeats 400000 in
theorem best_max (a : Nat) (l : List Nat) (b off cap : Nat) (w : World) (hn : l.length ≤ 4096) (hc : ∀ i, i < l.length → w.cell? ⟨b, off + i, none⟩ = some (.float .f64 (l.getD i 0))) :
    Calls Try.prog 90 #[.func (.func 38) #[] #[], .float .f64 a, .slice (some ⟨b, off, none⟩) l.length cap] w fun e w' => e = .returned (.float .f64 (l.foldl fmaxS a)) ∧ w = w' := by
  have HC := hid hc
  clear hc
  go_enter Try.func90, Try.ntmps90
  go_wp2
  go_loop [1, 8, 11] (fun v _ i => ∃ k : Nat, k ≤ l.length ∧ i = .int .i64 k ∧ v = .float .f64 ((l.take k).foldl fmaxS a)) (fun _ _ i => l.length - (intOf i).toNat)
  case atStart => exact ⟨0, Nat.zero_le _, rfl, rfl⟩
  case round =>
    obtain ⟨k, hk, rfl, rfl⟩ := hrel
    by_cases hlt : k < l.length
    · have hcell := HC.out k hlt
      go_wp2_with (go_at_call 38; refine (max_any _ _ _).mono ?_; rintro e w' ⟨rfl, rfl⟩)
      go_round
      case rel => exact ⟨k + 1, by omega, by go_num, by rw [foldl_take_succ _ _ _ _ hlt]⟩
      case measure => simp [intOf]; omega
    · go_wp2
      go_ret
      exact ⟨by rw [List.take_of_length_le (by omega)]; rfl, rfl⟩

def fadd (a b : Nat) : Option Nat := floatBits .add .f64 a b
def fsub (a b : Nat) : Option Nat := floatBits .sub .f64 a b
def fmul (a b : Nat) : Option Nat := floatBits .mul .f64 a b
def fdiv (a b : Nat) : Option Nat := floatBits .quo .f64 a b
set_option maxHeartbeats 400000 in
theorem around_any (a x y z : Nat) (b cap : Nat) (w : World) (h0 : w.cell? ⟨b, 0, none⟩ = some (.float .f64 x)) (h1 : w.cell? ⟨b, 1, none⟩ = some (.float .f64 y)) (h2 : w.cell? ⟨b, 2, none⟩ = some (.float .f64 z)) (hb : b < w.heap.size) :
    Calls Try.prog 87 #[.float .f64 a, .slice (some ⟨b, 0, none⟩) 3 cap] w fun e w' => e = .returned (.agg #[.float .f64 (fdown ([x, y, z].foldl fminS a)), .float .f64 (fup ([x, y, z].foldl fmaxS a))]) ∧ Below w.heap.size w w' := by
  have H : Hid (∀ W : World, (∀ o, W.cell? ⟨b, o, none⟩ = w.cell? ⟨b, o, none⟩) → ∀ i, i < [x, y, z].length → W.cell? ⟨b, 0 + i, none⟩ = some (.float .f64 ([x, y, z].getD i 0))) := by
    intro W hW i hi
    rw [hW]
    match i, hi with
    | 0, _ => exact h0
    | 1, _ => exact h1
    | 2, _ => exact h2
  clear h0 h1 h2
  go_enter Try.func87, Try.ntmps87
  go_wp2_with fail
  refine (best_min a [x, y, z] b 0 cap _ (by simp) (H.out _ (fun o => by simp [World.cell?_alloc_past _ _ _ hb]))).mono ?_
  rintro e w' ⟨rfl, rfl⟩
  go_wp2_with (go_at_call 88; refine (down_any _ _).mono ?_; rintro e w' ⟨rfl, rfl⟩)
  refine (best_max a [x, y, z] b 0 cap _ (by simp) (H.out _ (fun o => by simp [World.cell?_alloc_past _ _ _ hb]))).mono ?_
  rintro e w' ⟨rfl, rfl⟩
  go_wp2_with (go_at_call 89; refine (up_any _ _).mono ?_; rintro e w' ⟨rfl, rfl⟩)
  go_returns
  exact ⟨rfl, by go_grown⟩
end Go.Proofs.Ytbocjicihamahaa
