/- Boxes of the given program, their checks, products and sums: what each call answers. -/
import Derived.Test.YtbocjicihamahaaC
set_option linter.unusedSimpArgs false
set_option linter.unusedVariables false
namespace Go.Proofs.Ytbocjicihamahaa
open Go.RowKit

set_option maxHeartbeats 1000000 in
theorem check_any (b : Bx) (w : World) :
    Calls Try.prog 29 #[.agg #[.complex .f64 b.1.1 b.1.2, .complex .f64 b.2.1 b.2.2]] w fun e w' => e = .returned (.int .i64 (checkS b)) ∧ Below w.heap.size w w' := by
  obtain ⟨⟨p, q⟩, r, s⟩ := b
  have e1 : checkS ((p, q), (r, s)) = if cfin p q = false then 110 else if cfin r s = false then 110 else if fgt p r = true then 110 else if fgt q s = true then 110 else 0 := rfl
  cases h1 : cfin p q
  case false =>
    rw [h1] at e1
    rw [e1]
    go_enter Try.func29, Try.ntmps29
    go_wp2_with (first | (go_at_call 37; go_in) | (go_at_call 45; refine (pfinite_any _ _ _).mono ?_; rintro e w' ⟨rfl, rfl⟩))
    go_returns
    exact ⟨rfl, by go_grown⟩
  case true =>
    cases h2 : cfin r s
    case false =>
      rw [h1, h2] at e1
      rw [e1]
      go_enter Try.func29, Try.ntmps29
      go_wp2_with (first | (go_at_call 37; go_in) | (go_at_call 45; refine (pfinite_any _ _ _).mono ?_; rintro e w' ⟨rfl, rfl⟩))
      go_returns
      exact ⟨rfl, by go_grown⟩
    case true =>
      cases h3 : fgt p r
      all_goals
        cases h4 : fgt q s
        all_goals
          rw [h1, h2, h3, h4] at e1
          rw [e1]
          unfold fgt at h3 h4
          go_enter Try.func29, Try.ntmps29
          go_wp2_with (first | (go_at_call 37; go_in) | (go_at_call 45; refine (pfinite_any _ _ _).mono ?_; rintro e w' ⟨rfl, rfl⟩))
          go_returns
          exact ⟨rfl, by go_grown⟩
def bothS (a b : Bx) : Int := if checkS a = 0 then checkS b else checkS a
theorem both_any (a b : Bx) (w : World) :
    Calls Try.prog 80 #[.agg #[.complex .f64 a.1.1 a.1.2, .complex .f64 a.2.1 a.2.2], .agg #[.complex .f64 b.1.1 b.1.2, .complex .f64 b.2.1 b.2.2]] w fun e w' => e = .returned (.int .i64 (bothS a b)) ∧ Below w.heap.size w w' := by
  by_cases h : checkS a = 0
  · have e1 : bothS a b = checkS b := by simp [bothS, h]
    have h2 : (checkS a != 0) = false := by simp [h]
    rw [e1]
    clear e1 h
    go_enter Try.func80, Try.ntmps80
    go_wp2_with fail
    refine (check_any a _).mono ?_; rintro e wq ⟨rfl, hb⟩; obtain ⟨os, d, rfl⟩ := plus_of_below hb; clear hb
    go_wp2_with fail
    refine (check_any b _).mono ?_; rintro e wq ⟨rfl, hb⟩; obtain ⟨os, d, rfl⟩ := plus_of_below hb; clear hb
    go_wp2
    go_returns
    exact ⟨rfl, by (repeat' (first | exact Below.refl _ _ | (refine Below.alloc ?_ ?_ _) | (refine below_plus ?_ ?_ _ _) | (refine Below.drew ?_) | (refine Below.setCell ?_ ?_ _) | (simp; done) | (simp; omega) | assumption))⟩
  · have e1 : bothS a b = checkS a := by simp [bothS, h]
    have h2 : (checkS a != 0) = true := by simp [h]
    rw [e1]
    clear e1 h
    go_enter Try.func80, Try.ntmps80
    go_wp2_with fail
    refine (check_any a _).mono ?_; rintro e wq ⟨rfl, hb⟩; obtain ⟨os, d, rfl⟩ := plus_of_below hb; clear hb
    go_wp2_with fail
    go_returns
    exact ⟨rfl, by (repeat' (first | exact Below.refl _ _ | (refine Below.alloc ?_ ?_ _) | (refine below_plus ?_ ?_ _ _) | (refine Below.drew ?_) | (refine Below.setCell ?_ ?_ _) | (simp; done) | (simp; omega) | assumption))⟩
def mulS (a b : Bx) : Option (Bx × Int) :=
  if bothS a b = 0 then
    (spanBy (a.1.1, a.2.1) (b.1.1, b.2.1)).bind fun p => (spanBy (a.1.2, a.2.2) (b.1.2, b.2.2)).bind fun q => (spanLess p q).bind fun r =>
    (spanBy (a.1.1, a.2.1) (b.1.2, b.2.2)).bind fun s => (spanBy (a.1.2, a.2.2) (b.1.1, b.2.1)).bind fun t => (spanPlus s t).bind fun u => some (answeredS r u)
  else some (bz, bothS a b)
def addS (a b : Bx) : Option (Bx × Int) :=
  if bothS a b = 0 then
    (spanPlus (a.1.1, a.2.1) (b.1.1, b.2.1)).bind fun r => (spanPlus (a.1.2, a.2.2) (b.1.2, b.2.2)).bind fun u => some (answeredS r u)
  else some (bz, bothS a b)

set_option maxHeartbeats 4000000 in
theorem mul_any (a b : Bx) (r : Bx × Int) (w : World) (h : mulS a b = some r) :
    Calls Try.prog 76 #[.agg #[.complex .f64 a.1.1 a.1.2, .complex .f64 a.2.1 a.2.2], .agg #[.complex .f64 b.1.1 b.1.2, .complex .f64 b.2.1 b.2.2]] w fun e w' => e = .returned (.tuple #[bv r.1, .int .i64 r.2]) ∧ Below w.heap.size w w' := by
  unfold mulS at h
  by_cases h0 : bothS a b = 0
  · rw [if_pos h0] at h
    obtain ⟨p, h1, g1⟩ := bind_some h
    obtain ⟨q, h2, g2⟩ := bind_some g1
    obtain ⟨r', h3, g3⟩ := bind_some g2
    obtain ⟨s, h4, g4⟩ := bind_some g3
    obtain ⟨t, h5, g5⟩ := bind_some g4
    obtain ⟨u, h6, g6⟩ := bind_some g5
    cases g6
    clear h g1 g2 g3 g4 g5
    have H1 := hid h1
    have H2 := hid h2
    have H3 := hid h3
    have H4 := hid h4
    have H5 := hid h5
    have H6 := hid h6
    clear h1 h2 h3 h4 h5 h6
    have hn : (bothS a b != 0) = false := by simp [h0]
    clear h0
    go_enter Try.func76, Try.ntmps76
    go_wp2_with fail
    refine (both_any a b _).mono ?_; rintro e wq ⟨rfl, hb⟩; obtain ⟨os, d, rfl⟩ := plus_of_below hb; clear hb
    go_upto_region 4 with fail
    go_cut [7, 8] (fun s7 s8 wx => ∃ g k : Nat, s7 = .pointer (some ⟨g, 0, none⟩) ∧ s8 = .pointer (some ⟨k, 0, none⟩) ∧ wx.cell? ⟨g, 0, none⟩ = some (.float .f64 a.1.1) ∧ wx.cell? ⟨g, 1, none⟩ = some (.float .f64 a.2.1) ∧ wx.cell? ⟨g, 2, none⟩ = some (.float .f64 a.1.2) ∧ wx.cell? ⟨g, 3, none⟩ = some (.float .f64 a.2.2) ∧ wx.cell? ⟨k, 0, none⟩ = some (.float .f64 b.1.1) ∧ wx.cell? ⟨k, 1, none⟩ = some (.float .f64 b.2.1) ∧ wx.cell? ⟨k, 2, none⟩ = some (.float .f64 b.1.2) ∧ wx.cell? ⟨k, 3, none⟩ = some (.float .f64 b.2.2) ∧ wx.cell? ⟨w.heap.size + 1 + 1, 0, none⟩ = some (.complex .f64 0 0) ∧ wx.cell? ⟨w.heap.size + 1 + 1, 1, none⟩ = some (.complex .f64 0 0) ∧ wx.frozen? ⟨w.heap.size + 1 + 1, 0, none⟩ = false ∧ wx.frozen? ⟨w.heap.size + 1 + 1, 1, none⟩ = false ∧ ¬ (w.heap.size + 1 + 1 = g) ∧ ¬ (w.heap.size + 1 + 1 = k) ∧ Below w.heap.size w wx)
    case first =>
      go_region_held3 (fun W => W.cell? ⟨w.heap.size, 0, none⟩ = some (.complex .f64 a.1.1 a.1.2) ∧ W.cell? ⟨w.heap.size, 1, none⟩ = some (.complex .f64 a.2.1 a.2.2) ∧ W.cell? ⟨w.heap.size + 1, 0, none⟩ = some (.complex .f64 b.1.1 b.1.2) ∧ W.cell? ⟨w.heap.size + 1, 1, none⟩ = some (.complex .f64 b.2.1 b.2.2)) (refine ⟨?_, ?_, ?_, ?_⟩ <;> (simp [go_sem]; done)) (first | (go_at_call 37; ((with_reducible refine (of_any _ _ _ _ _).mono ?_); rintro e wq ⟨rfl, hb⟩); obtain ⟨os, d, rfl⟩ := plus_of_below hb; clear hb))
      all_goals
        go_wp2_with fail
        go_meet
        refine ⟨_, _, rfl, rfl, ?_, ?_, ?_, ?_, ?_, ?_, ?_, ?_, ?_, ?_, ?_, ?_, ?_, ?_, ?_⟩
        all_goals first | omega | (simp [go_sem]; done) | (repeat' (first | exact Below.refl _ _ | (refine Below.alloc ?_ ?_ _) | (refine below_plus ?_ ?_ _ _) | (refine Below.drew ?_) | (refine Below.setCell ?_ ?_ _) | (simp; done) | (simp; omega) | assumption))
    case rest =>
      obtain ⟨g, k, rfl, rfl, g0, g1, g2, g3, k0, k1, k2, k3, z0, z1, f0, f1, ng, nk, hB⟩ := hcut
      have hz := World.block_lt_of_cell? _ _ z0
      haveI : Has wc g := ⟨World.block_lt_of_cell? _ _ g0⟩
      haveI : Has wc k := ⟨World.block_lt_of_cell? _ _ k0⟩
      haveI : Has wc (w.heap.size + 1 + 1) := ⟨hz⟩
      go_wp2_with fail
      go_region_held3 (fun W => W.cell? ⟨g, 0, none⟩ = some (.float .f64 a.1.1) ∧ W.cell? ⟨g, 1, none⟩ = some (.float .f64 a.2.1) ∧ W.cell? ⟨g, 2, none⟩ = some (.float .f64 a.1.2) ∧ W.cell? ⟨g, 3, none⟩ = some (.float .f64 a.2.2) ∧ W.cell? ⟨k, 0, none⟩ = some (.float .f64 b.1.1) ∧ W.cell? ⟨k, 1, none⟩ = some (.float .f64 b.2.1) ∧ W.cell? ⟨k, 2, none⟩ = some (.float .f64 b.1.2) ∧ W.cell? ⟨k, 3, none⟩ = some (.float .f64 b.2.2)) (refine ⟨?_, ?_, ?_, ?_, ?_, ?_, ?_, ?_⟩ <;> (simp [go_sem, g0, g1, g2, g3, k0, k1, k2, k3, ng, nk]; done)) (first | (go_at_call 82; ((with_reducible refine (re_any _ _ _ _ _).mono ?_); rintro e wq ⟨rfl, hb⟩); obtain ⟨os, d, rfl⟩ := plus_of_below hb; clear hb) | (go_at_call 85; ((with_reducible refine (im_any _ _ _ _ _).mono ?_); rintro e wq ⟨rfl, hb⟩); obtain ⟨os, d, rfl⟩ := plus_of_below hb; clear hb) | (go_at_call 83; ((with_reducible refine (by_any _ _ _ _ _ _ H1.out).mono ?_); rintro e wq ⟨rfl, hb⟩); obtain ⟨os, d, rfl⟩ := plus_of_below hb; clear hb) | (go_at_call 83; ((with_reducible refine (by_any _ _ _ _ _ _ H2.out).mono ?_); rintro e wq ⟨rfl, hb⟩); obtain ⟨os, d, rfl⟩ := plus_of_below hb; clear hb) | (go_at_call 83; ((with_reducible refine (by_any _ _ _ _ _ _ H4.out).mono ?_); rintro e wq ⟨rfl, hb⟩); obtain ⟨os, d, rfl⟩ := plus_of_below hb; clear hb) | (go_at_call 83; ((with_reducible refine (by_any _ _ _ _ _ _ H5.out).mono ?_); rintro e wq ⟨rfl, hb⟩); obtain ⟨os, d, rfl⟩ := plus_of_below hb; clear hb) | (go_at_call 84; ((with_reducible refine (less_any _ _ _ _ _ _ H3.out).mono ?_); rintro e wq ⟨rfl, hb⟩); obtain ⟨os, d, rfl⟩ := plus_of_below hb; clear hb) | (go_at_call 86; ((with_reducible refine (plus_any _ _ _ _ _ _ H6.out).mono ?_); rintro e wq ⟨rfl, hb⟩); obtain ⟨os, d, rfl⟩ := plus_of_below hb; clear hb) | (go_at_call 81; ((with_reducible refine (answered_any _ _ _ _ _).mono ?_); rintro e wq ⟨rfl, hb⟩); obtain ⟨os, d, rfl⟩ := plus_of_below hb; clear hb))
      go_wp2_with fail
      exact bodyPost_ret (v := .tuple #[bv (answeredS r' u).1, .int .i64 (answeredS r' u).2]) (by simp [results, Try.results76, go_sem, z0, z1]) rfl ⟨rfl, by (repeat' (first | exact Below.refl _ _ | (refine Below.alloc ?_ ?_ _) | (refine below_plus ?_ ?_ _ _) | (refine Below.drew ?_) | (refine Below.setCell ?_ ?_ _) | (simp; done) | (simp; omega) | assumption))⟩
  · rw [if_neg h0] at h
    cases h
    have hn : (bothS a b != 0) = true := by simp [h0]
    clear h0
    go_enter Try.func76, Try.ntmps76
    go_wp2_with fail
    refine (both_any a b _).mono ?_; rintro e wq ⟨rfl, hb⟩; obtain ⟨os, d, rfl⟩ := plus_of_below hb; clear hb
    go_wp2_with fail
    go_returns
    exact ⟨rfl, by (repeat' (first | exact Below.refl _ _ | (refine Below.alloc ?_ ?_ _) | (refine below_plus ?_ ?_ _ _) | (refine Below.drew ?_) | (refine Below.setCell ?_ ?_ _) | (simp; done) | (simp; omega) | assumption))⟩

set_option maxHeartbeats 4000000 in
theorem add_any (a b : Bx) (r : Bx × Int) (w : World) (h : addS a b = some r) :
    Calls Try.prog 77 #[.agg #[.complex .f64 a.1.1 a.1.2, .complex .f64 a.2.1 a.2.2], .agg #[.complex .f64 b.1.1 b.1.2, .complex .f64 b.2.1 b.2.2]] w fun e w' => e = .returned (.tuple #[bv r.1, .int .i64 r.2]) ∧ Below w.heap.size w w' := by
  unfold addS at h
  by_cases h0 : bothS a b = 0
  · rw [if_pos h0] at h
    obtain ⟨r', h1, g1⟩ := bind_some h
    obtain ⟨u, h2, g2⟩ := bind_some g1
    cases g2
    clear h g1
    have H1 := hid h1
    have H2 := hid h2
    clear h1 h2
    have hn : (bothS a b != 0) = false := by simp [h0]
    clear h0
    go_enter Try.func77, Try.ntmps77
    go_wp2_with fail
    refine (both_any a b _).mono ?_; rintro e wq ⟨rfl, hb⟩; obtain ⟨os, d, rfl⟩ := plus_of_below hb; clear hb
    go_upto_region 4 with fail
    go_cut [7, 8] (fun s7 s8 wx => ∃ g k : Nat, s7 = .pointer (some ⟨g, 0, none⟩) ∧ s8 = .pointer (some ⟨k, 0, none⟩) ∧ wx.cell? ⟨g, 0, none⟩ = some (.float .f64 a.1.1) ∧ wx.cell? ⟨g, 1, none⟩ = some (.float .f64 a.2.1) ∧ wx.cell? ⟨g, 2, none⟩ = some (.float .f64 a.1.2) ∧ wx.cell? ⟨g, 3, none⟩ = some (.float .f64 a.2.2) ∧ wx.cell? ⟨k, 0, none⟩ = some (.float .f64 b.1.1) ∧ wx.cell? ⟨k, 1, none⟩ = some (.float .f64 b.2.1) ∧ wx.cell? ⟨k, 2, none⟩ = some (.float .f64 b.1.2) ∧ wx.cell? ⟨k, 3, none⟩ = some (.float .f64 b.2.2) ∧ wx.cell? ⟨w.heap.size + 1 + 1, 0, none⟩ = some (.complex .f64 0 0) ∧ wx.cell? ⟨w.heap.size + 1 + 1, 1, none⟩ = some (.complex .f64 0 0) ∧ wx.frozen? ⟨w.heap.size + 1 + 1, 0, none⟩ = false ∧ wx.frozen? ⟨w.heap.size + 1 + 1, 1, none⟩ = false ∧ ¬ (w.heap.size + 1 + 1 = g) ∧ ¬ (w.heap.size + 1 + 1 = k) ∧ Below w.heap.size w wx)
    case first =>
      go_region_held3 (fun W => W.cell? ⟨w.heap.size, 0, none⟩ = some (.complex .f64 a.1.1 a.1.2) ∧ W.cell? ⟨w.heap.size, 1, none⟩ = some (.complex .f64 a.2.1 a.2.2) ∧ W.cell? ⟨w.heap.size + 1, 0, none⟩ = some (.complex .f64 b.1.1 b.1.2) ∧ W.cell? ⟨w.heap.size + 1, 1, none⟩ = some (.complex .f64 b.2.1 b.2.2)) (refine ⟨?_, ?_, ?_, ?_⟩ <;> (simp [go_sem]; done)) (first | (go_at_call 37; ((with_reducible refine (of_any _ _ _ _ _).mono ?_); rintro e wq ⟨rfl, hb⟩); obtain ⟨os, d, rfl⟩ := plus_of_below hb; clear hb))
      all_goals
        go_wp2_with fail
        go_meet
        refine ⟨_, _, rfl, rfl, ?_, ?_, ?_, ?_, ?_, ?_, ?_, ?_, ?_, ?_, ?_, ?_, ?_, ?_, ?_⟩
        all_goals first | omega | (simp [go_sem]; done) | (repeat' (first | exact Below.refl _ _ | (refine Below.alloc ?_ ?_ _) | (refine below_plus ?_ ?_ _ _) | (refine Below.drew ?_) | (refine Below.setCell ?_ ?_ _) | (simp; done) | (simp; omega) | assumption))
    case rest =>
      obtain ⟨g, k, rfl, rfl, g0, g1, g2, g3, k0, k1, k2, k3, z0, z1, f0, f1, ng, nk, hB⟩ := hcut
      have hz := World.block_lt_of_cell? _ _ z0
      haveI : Has wc g := ⟨World.block_lt_of_cell? _ _ g0⟩
      haveI : Has wc k := ⟨World.block_lt_of_cell? _ _ k0⟩
      haveI : Has wc (w.heap.size + 1 + 1) := ⟨hz⟩
      go_wp2_with fail
      go_region_held3 (fun W => W.cell? ⟨g, 0, none⟩ = some (.float .f64 a.1.1) ∧ W.cell? ⟨g, 1, none⟩ = some (.float .f64 a.2.1) ∧ W.cell? ⟨g, 2, none⟩ = some (.float .f64 a.1.2) ∧ W.cell? ⟨g, 3, none⟩ = some (.float .f64 a.2.2) ∧ W.cell? ⟨k, 0, none⟩ = some (.float .f64 b.1.1) ∧ W.cell? ⟨k, 1, none⟩ = some (.float .f64 b.2.1) ∧ W.cell? ⟨k, 2, none⟩ = some (.float .f64 b.1.2) ∧ W.cell? ⟨k, 3, none⟩ = some (.float .f64 b.2.2)) (refine ⟨?_, ?_, ?_, ?_, ?_, ?_, ?_, ?_⟩ <;> (simp [go_sem, g0, g1, g2, g3, k0, k1, k2, k3, ng, nk]; done)) (first | (go_at_call 82; ((with_reducible refine (re_any _ _ _ _ _).mono ?_); rintro e wq ⟨rfl, hb⟩); obtain ⟨os, d, rfl⟩ := plus_of_below hb; clear hb) | (go_at_call 85; ((with_reducible refine (im_any _ _ _ _ _).mono ?_); rintro e wq ⟨rfl, hb⟩); obtain ⟨os, d, rfl⟩ := plus_of_below hb; clear hb) | (go_at_call 86; ((with_reducible refine (plus_any _ _ _ _ _ _ H1.out).mono ?_); rintro e wq ⟨rfl, hb⟩); obtain ⟨os, d, rfl⟩ := plus_of_below hb; clear hb) | (go_at_call 86; ((with_reducible refine (plus_any _ _ _ _ _ _ H2.out).mono ?_); rintro e wq ⟨rfl, hb⟩); obtain ⟨os, d, rfl⟩ := plus_of_below hb; clear hb) | (go_at_call 81; ((with_reducible refine (answered_any _ _ _ _ _).mono ?_); rintro e wq ⟨rfl, hb⟩); obtain ⟨os, d, rfl⟩ := plus_of_below hb; clear hb))
      go_wp2_with fail
      exact bodyPost_ret (v := .tuple #[bv (answeredS r' u).1, .int .i64 (answeredS r' u).2]) (by simp [results, Try.results77, go_sem, z0, z1]) rfl ⟨rfl, by (repeat' (first | exact Below.refl _ _ | (refine Below.alloc ?_ ?_ _) | (refine below_plus ?_ ?_ _ _) | (refine Below.drew ?_) | (refine Below.setCell ?_ ?_ _) | (simp; done) | (simp; omega) | assumption))⟩
  · rw [if_neg h0] at h
    cases h
    have hn : (bothS a b != 0) = true := by simp [h0]
    clear h0
    go_enter Try.func77, Try.ntmps77
    go_wp2_with fail
    refine (both_any a b _).mono ?_; rintro e wq ⟨rfl, hb⟩; obtain ⟨os, d, rfl⟩ := plus_of_below hb; clear hb
    go_wp2_with fail
    go_returns
    exact ⟨rfl, by (repeat' (first | exact Below.refl _ _ | (refine Below.alloc ?_ ?_ _) | (refine below_plus ?_ ?_ _ _) | (refine Below.drew ?_) | (refine Below.setCell ?_ ?_ _) | (simp; done) | (simp; omega) | assumption))⟩
end Go.Proofs.Ytbocjicihamahaa
