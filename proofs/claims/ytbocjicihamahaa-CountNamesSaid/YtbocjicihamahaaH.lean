/- A polynomial's values over a box, of the given program: what the call answers. -/
import Derived.Test.YtbocjicihamahaaG
set_option linter.unusedSimpArgs false
set_option linter.unusedVariables false
namespace Go.Proofs.Ytbocjicihamahaa
open Go.RowKit

/-- The boxes of the coefficients, the last one first. -/
def rev (l : List Pl) : List Bx := l.reverse.map pointS
/-- A polynomial's values over a box (of lists and boxes that may be). -/
def polyS (l : List Pl) (x : Bx) : Option (Bx × Int) :=
  if polyOk l = true ∧ l.all (fun z => cfin z.1 z.2) = true ∧ checkS x = 0 then
    match rev l with
    | [] => none
    | c :: cs => hornerGo cs c x
  else none
theorem rev_get (l : List Pl) (i : Nat) (h : i < l.length) : (rev l).getD i bz = pointS (l.getD (l.length - 1 - i) (0, 0)) := by
  have h2 : l.length - 1 - i < l.length := by omega
  simp [rev, List.getD, h, h2]
theorem boxes_rev {w : World} {g : Nat} (l : List Pl) (h : w.heap[g]? = some (.cells (ptsArr l l.length) 29 (0, 0))) : boxes w g (rev l) := by
  intro i hi
  have hl : (rev l).length = l.length := by simp [rev]
  rw [hl] at hi
  rw [cell_of_block h, cell_of_block h, ptsArr_get _ _ _ (by omega), ptsArr_get _ _ _ (by omega), rev_get l i hi]
  have e1 : i * 2 / 2 = i := by omega
  have e2 : (i * 2 + 1) / 2 = i := by omega
  have e3 : i * 2 % 2 = 0 := by omega
  have e4 : ¬ ((i * 2 + 1) % 2 = 0) := by omega
  have e5 : l.length - l.length ≤ i := by omega
  simp only [ptsCell, e1, e2, e3, if_neg e4, if_pos e5, if_true, and_self]
/-- Horner's steps of the program, of one box or more. -/
theorem horner_all (c : Bx) (cs : List Bx) (x : Bx) (r : Bx × Int) (g n : Nat) (w : World) (hn : n = cs.length + 1) (hm : n ≤ 65) (hc : boxes w g (c :: cs)) (h : hornerGo cs c x = some r) :
    Calls Try.prog 62 #[.slice (some ⟨g, 0, none⟩) n n, .agg #[.complex .f64 x.1.1 x.1.2, .complex .f64 x.2.1 x.2.2]] w fun e w' => e = .returned (.tuple #[bv r.1, .int .i64 r.2]) ∧ Below w.heap.size w w' := by
  subst hn
  rcases Nat.eq_zero_or_pos cs.length with h0 | h0
  · obtain rfl : cs = [] := List.length_eq_zero_iff.1 h0
    cases h
    exact horner_one c x g w hc
  · exact horner_any c cs x r g w (by omega) h0 hc h
set_option maxHeartbeats 2000000 in
theorem poly_any (l : List Pl) (x : Bx) (r : Bx × Int) (b off cap : Nat) (w : World) (hc : reads w b off l) (hb : b < w.heap.size) (h : polyS l x = some r) :
    Calls Try.prog 48 #[.slice (some ⟨b, off, none⟩) l.length cap, .agg #[.complex .f64 x.1.1 x.1.2, .complex .f64 x.2.1 x.2.2]] w fun e w' => e = .returned (.tuple #[bv r.1, .int .i64 r.2]) ∧ Below w.heap.size w w' := by
  unfold polyS at h
  by_cases h0 : polyOk l = true ∧ l.all (fun z => cfin z.1 z.2) = true ∧ checkS x = 0
  case neg => rw [if_neg h0] at h; cases h
  rw [if_pos h0] at h
  obtain ⟨hok, hfin, hx⟩ := h0
  have hlen := polyOk_out hok
  have hm : l.length ≤ 65 := hlen.2.1
  have hf : ∀ i, i < l.length → cfin (l.getD i (0, 0)).1 (l.getD i (0, 0)).2 = true := by
    intro i hi
    have e : l.getD i (0, 0) = l[i] := by simp [List.getD, hi]
    rw [e]
    exact (List.all_eq_true.1 hfin) _ (List.getElem_mem hi)
  have hrl : (rev l).length = l.length := by simp [rev]
  cases hr : rev l with
  | nil => rw [hr] at h; cases h
  | cons c cs =>
    rw [hr] at h
    simp only at h
    have hn : l.length = cs.length + 1 := by rw [← hrl, hr]; rfl
    have H := hid h
    have HF := hid hf
    have HR := hid hr
    have HN := hid hn
    have HC : Hid (∀ W : World, (∀ o, W.cell? ⟨b, o, none⟩ = w.cell? ⟨b, o, none⟩) → reads W b off l) := fun W hW i hi => by rw [hW]; exact hc i hi
    haveI : Has w b := ⟨hb⟩
    clear h hf hr hn hc hrl hlen hfin
    go_enter Try.func48, Try.ntmps48
    go_wp2_with fail
    refine (asked_ok l x b off cap _ hok (HC.out _ (fun o => by simp [go_sem])) hx (by simp; omega)).mono ?_; rintro e wq ⟨rfl, hb⟩; obtain ⟨os, d, rfl⟩ := plus_of_below hb; clear hb
    go_wp2_with fail
    go_region_held3 (fun W => W.cell? ⟨w.heap.size, 0, none⟩ = some (.complex .f64 x.1.1 x.1.2) ∧ W.cell? ⟨w.heap.size, 1, none⟩ = some (.complex .f64 x.2.1 x.2.2)) (refine ⟨?_, ?_⟩ <;> (simp [go_sem]; done)) (first | (go_at_call 63; ((with_reducible refine (points_fin l b off cap _ hm (HC.out _ (fun o => by simp [go_sem])) HF.out (by simp; omega)).mono ?_); rintro e wq ⟨rfl, hblk, hb⟩); obtain ⟨os, d, rfl⟩ := plus_of_below hb; clear hb; simp only [World.size_drew, size_plus, World.size_alloc, plus_drew] at hblk) | (go_at_call 62; ((with_reducible refine (horner_all c cs x r _ l.length _ HN.out hm (by rw [← HR.out]; exact boxes_rev l hblk) H.out).mono ?_); rintro e wq ⟨rfl, hb⟩); obtain ⟨os, d, rfl⟩ := plus_of_below hb; clear hb))
    go_wp2_with fail
    exact bodyPost_ret (v := .tuple #[bv r.1, .int .i64 r.2]) (by simp [results, Try.results48, go_sem]) rfl ⟨rfl, by (repeat' (first | exact Below.refl _ _ | (refine Below.alloc ?_ ?_ _) | (refine below_plus ?_ ?_ _ _) | (refine Below.drew ?_) | (refine Below.setCell ?_ ?_ _) | (simp; done) | (simp; omega) | assumption))⟩
end Go.Proofs.Ytbocjicihamahaa
