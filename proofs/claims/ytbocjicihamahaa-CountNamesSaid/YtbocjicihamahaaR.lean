/- The order of found boxes, of the given program: what the calls answer. -/
import Derived.Test.YtbocjicihamahaaB
import Derived.BigQuiet
set_option linter.unusedSimpArgs false
set_option linter.unusedVariables false
namespace Go.Proofs.Ytbocjicihamahaa
open Go.RowKit

def orS : List Int → Int
  | [] => 0
  | e :: r => if e = 0 then orS r else e
theorem cell_of_blk {w : World} {b : Nat} {cs : Array Value} {T : TypeId} {m : Nat × Nat} (h : w.heap[b]? = some (.cells cs T m)) (i : Nat) : w.cell? ⟨b, i, none⟩ = cs[i]? := by simp [World.cell?, h]
def cmpF (a b : Nat) : Int := if flt a b = true then -1 else if fgt a b = true then 1 else 0
theorem isnan_any (a : Nat) (w : World) :
    Calls Try.prog 73 #[.float .f64 a] w fun e w' => e = .returned (.bool (!(feq a a))) ∧ w = w' := by
  go_enter Try.func73, Try.ntmps73
  go_wp2
  go_ret
  exact ⟨rfl, rfl⟩
theorem compare_any (a b : Nat) (w : World) (ha : feq a a = true) (hb : feq b b = true) :
    Calls Try.prog 58 #[.float .f64 a, .float .f64 b] w fun e w' => e = .returned (.int .i64 (cmpF a b)) ∧ w = w' := by
  cases h1 : flt a b
  · cases h2 : fgt a b
    all_goals
      first | (have ec : cmpF a b = 0 := by unfold cmpF; rw [h1, h2]; rfl) | (have ec : cmpF a b = 1 := by unfold cmpF; rw [h1, h2]; rfl)
      rw [ec]
      clear ec
      unfold flt at h1
      unfold fgt at h2
      go_enter Try.func58, Try.ntmps58
      go_wp2_with (go_at_call 73; refine (isnan_any _ _).mono ?_; rintro e w' ⟨rfl, rfl⟩; (first | rw [ha] | rw [hb]))
      go_ret
      exact ⟨rfl, rfl⟩
  · have ec : cmpF a b = -1 := by unfold cmpF; rw [if_pos h1]
    rw [ec]
    clear ec
    unfold flt at h1
    go_enter Try.func58, Try.ntmps58
    go_wp2_with (go_at_call 73; refine (isnan_any _ _).mono ?_; rintro e w' ⟨rfl, rfl⟩; (first | rw [ha] | rw [hb]))
    go_ret
    exact ⟨rfl, rfl⟩
theorem order_any (a b : Nat) (w : World) (ha : feq a a = true) (hb : feq b b = true) :
    Calls Try.prog 44 #[.float .f64 a, .float .f64 b] w fun e w' => e = .returned (.int .i64 (cmpF a b)) ∧ w = w' := by
  have ea := ha
  have eb := hb
  unfold feq at ea eb
  have ea' : (FloatKind.f64.format.order a a != some .eq) = false := by simp [bne, ea]
  have eb' : (FloatKind.f64.format.order b b != some .eq) = false := by simp [bne, eb]
  go_enter Try.func44, Try.ntmps44
  go_wp2_with (go_at_call 58; refine (compare_any _ _ _ ha hb).mono ?_; rintro e w' ⟨rfl, rfl⟩)
  go_ret
  exact ⟨rfl, rfl⟩
theorem or_any (es : List Int) (g off cap : Nat) (w : World) (hn : es.length ≤ 100) (hc : ∀ i, i < es.length → w.cell? ⟨g, off + i, none⟩ = some (.int .i64 (es.getD i 0))) :
    Calls Try.prog 43 #[.slice (some ⟨g, off, none⟩) es.length cap] w fun e w' => e = .returned (.int .i64 (orS es)) ∧ w = w' := by
  have C := hid hc
  clear hc
  go_enter Try.func43, Try.ntmps43
  go_wp2_with fail
  go_loopw [5, 8] (fun _ i wq => wq = w ∧ ∃ k : Nat, k ≤ es.length ∧ i = .int .i64 k ∧ orS (es.drop k) = orS es) (fun _ i _ => es.length - (intOf i).toNat)
  case atStart => exact ⟨rfl, 0, Nat.zero_le _, rfl, rfl⟩
  case round =>
    obtain ⟨rfl, k, hk, rfl, hf⟩ := hrel
    by_cases hlt : k < es.length
    · have ck := C.out k hlt
      have hdr : es.drop k = es.getD k 0 :: es.drop (k + 1) := by
        rw [List.drop_eq_getElem_cons hlt, List.getD_eq_getElem?_getD, List.getElem?_eq_getElem hlt]
        rfl
      rw [hdr] at hf
      have HF := hid hf
      clear hf hdr
      generalize hx : es.getD k 0 = x at ck HF
      clear hx
      by_cases hz : x = 0
      · have ez : (x != 0) = false := by simp [hz]
        have HZ := hid hz
        clear hz
        go_wp2_with fail
        refine ⟨⟨trivial, k + 1, hlt, by rfl, ?_⟩, ?_⟩
        · rw [← HF.out, orS, if_pos HZ.out]
        · simp [intOf]
          omega
      · have ez : (x != 0) = true := by simp [hz]
        have HZ := hid hz
        clear hz
        go_wp2_with fail
        go_ret
        refine ⟨?_, rfl⟩
        rw [← HF.out, orS, if_neg HZ.out]
        rfl
    · obtain rfl : k = es.length := by omega
      rw [List.drop_length] at hf
      go_wp2_with fail
      go_ret
      exact ⟨by rw [← hf]; rfl, rfl⟩
theorem or2_any (x y : Int) (g : Nat) (T : TypeId) (w : World) (h : w.heap[g]? = some (.cells #[.int .i64 x, .int .i64 y] T (0, 0))) :
    Calls Try.prog 43 #[.slice (some ⟨g, 0, none⟩) 2 2] w fun e w' => e = .returned (.int .i64 (orS [x, y])) ∧ w = w' := by
  refine or_any [x, y] g 0 2 w (by simp) fun i hi => ?_
  rw [cell_of_blk h, Nat.zero_add]
  have : i = 0 ∨ i = 1 := by
    simp only [List.length_cons, List.length_nil] at hi
    omega
  rcases this with rfl | rfl <;> rfl
def ordS (p q : Nat × Nat) : Int := orS [cmpF p.1 q.1, cmpF p.2 q.2]
set_option maxRecDepth 100000 in
theorem Order_any (p q : Nat × Nat) (w : World) (h1 : feq p.1 p.1 = true) (h2 : feq p.2 p.2 = true) (h3 : feq q.1 q.1 = true) (h4 : feq q.2 q.2 = true) :
    Calls Try.prog 28 #[.complex .f64 p.1 p.2, .complex .f64 q.1 q.2] w fun e w' => e = .returned (.int .i64 (ordS p q)) ∧ Below w.heap.size w w' := by
  generalize e1 : p.1 = p1 at *
  generalize e2 : p.2 = p2 at *
  generalize e3 : q.1 = q1 at *
  generalize e4 : q.2 = q2 at *
  have eo : ordS p q = orS [cmpF p1 q1, cmpF p2 q2] := by unfold ordS; rw [e1, e2, e3, e4]
  rw [eo]
  clear eo e1 e2 e3 e4
  go_enter Try.func28, Try.ntmps28
  go_wp2_with fail
  ((with_reducible refine (order_any p1 q1 _ h1 h3).mono ?_); rintro e w' ⟨rfl, rfl⟩)
  go_wp2_with fail
  ((with_reducible refine (order_any p2 q2 _ h2 h4).mono ?_); rintro e w' ⟨rfl, rfl⟩)
  generalize hx : cmpF p1 q1 = x
  have HX := hid hx
  clear hx
  generalize hy : cmpF p2 q2 = y
  have HY := hid hy
  clear hy
  go_wp2_with fail
  refine (or2_any x y _ 3 _ (by simp only [block_at])).mono ?_
  rintro e w' ⟨rfl, rfl⟩
  generalize hz : orS [x, y] = z
  have HZ := hid hz
  clear hz
  go_wp2_with fail
  go_ret
  exact ⟨by rw [HX.out, HY.out, HZ.out]; rfl, by go_grown⟩
/-- A box that was found: its corners, how many zeros. -/
abbrev Fd := ((Nat × Nat) × (Nat × Nat)) × Int
set_option maxRecDepth 100000 in
theorem cmpfound_any (f g : Fd) (w : World) (h1 : feq f.1.1.1 f.1.1.1 = true) (h2 : feq f.1.1.2 f.1.1.2 = true) (h3 : feq g.1.1.1 g.1.1.1 = true) (h4 : feq g.1.1.2 g.1.1.2 = true) :
    Calls Try.prog 27 #[.agg #[.complex .f64 f.1.1.1 f.1.1.2, .complex .f64 f.1.2.1 f.1.2.2, .int .i64 f.2], .agg #[.complex .f64 g.1.1.1 g.1.1.2, .complex .f64 g.1.2.1 g.1.2.2, .int .i64 g.2]] w fun e w' =>
      e = .returned (.int .i64 (ordS f.1.1 g.1.1)) ∧ Below w.heap.size w w' := by
  go_enter Try.func27, Try.ntmps27
  go_wp2_with fail
  refine (Order_any f.1.1 g.1.1 _ h1 h2 h3 h4).mono ?_
  rintro e wq ⟨rfl, hb⟩
  obtain ⟨os, d, rfl⟩ := plus_of_below hb; clear hb
  go_wp2_with fail
  go_ret
  exact ⟨rfl, by (repeat' (first | exact Below.refl _ _ | (refine Below.alloc ?_ ?_ _) | (refine below_plus ?_ ?_ _ _) | (refine Below.drew ?_) | (refine Below.setCell ?_ ?_ _) | (simp; done) | (simp; omega) | assumption))⟩
end Go.Proofs.Ytbocjicihamahaa
