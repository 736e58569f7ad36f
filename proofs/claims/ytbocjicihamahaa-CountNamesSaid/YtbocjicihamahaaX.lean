/- The zeros of four boxes, of the given program: the closure at a first box that is unsure. -/
import Derived.Test.YtbocjicihamahaaU
set_option linter.unusedSimpArgs false
set_option linter.unusedVariables false
namespace Go.Proofs.Ytbocjicihamahaa
open Go.RowKit

set_option maxRecDepth 100000 in
set_option maxHeartbeats 16000000 in
theorem cutclo_no (l : List Pl) (q0 q1 q2 q3 : Bx) (b off cap cf cw cd co pb : Nat) (hbp : b ≠ pb) (hfp : cf ≠ pb) (hwp : cw ≠ pb) (hdp : cd ≠ pb) (hop : co ≠ pb) (d : Nat) (hd : d ≤ 24) (n : Nat) (v0 : Value) (w : World) (a : Bool × Nat × List Int)
    (hn : n ≤ 16384) (hb : b < w.heap.size) (hblk : w.heap[pb]? = some (.cells #[.slice (some ⟨b, off, none⟩) l.length cap, .int .i64 n, v0] 48 (0, 0))) (hrd : reads w b off l)
    (hcf : w.heap[cf]? = some (.cells (fourV q0 q1 q2 q3) 76 (0, 0))) (hcw : w.cell? ⟨cw, 0, none⟩ = some (.pointer (some ⟨pb, 0, none⟩)))
    (hcd : w.cell? ⟨cd, 0, none⟩ = some (.int .i64 d)) (h : overGo l d (borderS q0) 4 0 n [] = some a) (ha1 : a.1 = false) :
    Calls Try.prog 41 #[.pointer (some ⟨cf, 0, none⟩), .pointer (some ⟨cw, 0, none⟩), .pointer (some ⟨cd, 0, none⟩), .pointer (some ⟨co, 0, none⟩)] w fun e w' =>
      e = .panicked unsureV ∧ (∃ v', w'.heap[pb]? = some (.cells #[.slice (some ⟨b, off, none⟩) l.length cap, .int .i64 a.2.1, v'] 48 (0, 0))) ∧ Only w.heap.size pb w w' := by
  have k0 := cell_of_block hcf 0
  have k1 := cell_of_block hcf 1
  have k2 := cell_of_block hcf 2
  have k3 := cell_of_block hcf 3
  have k4 := cell_of_block hcf 4
  have k5 := cell_of_block hcf 5
  have k6 := cell_of_block hcf 6
  have k7 := cell_of_block hcf 7
  simp at k0 k1 k2 k3 k4 k5 k6 k7
  have i0 := idx0 q0 q1 q2 q3
  have lpb : pb < w.heap.size := lt_of_block hblk
  haveI : Has w pb := ⟨lpb⟩
  haveI : Has w b := ⟨hb⟩
  haveI : Has w cw := ⟨World.block_lt_of_cell? _ _ hcw⟩
  haveI : Has w cd := ⟨World.block_lt_of_cell? _ _ hcd⟩
  have WBL := hid hblk
  have RD := hid hrd
  have HA := hid h
  have HNE := hid (overGo_ne (m := 4) (by decide) h)
  clear hblk hrd h hcf
  go_enter Try.func41, Try.ntmps41
  go_wp2_with fail
  go_loopw [7] (fun i wr => i = .int .i64 0 ∧ w = wr) (fun _ _ => 0)
  case atStart => exact ⟨rfl, rfl⟩
  case round =>
    obtain ⟨rfl, rfl⟩ := hrel
    go_wp2_with fail
    go_region_with (first | (go_at_call 18; ((with_reducible refine (border_any q0 _).mono ?_); rintro e wq ⟨rfl, rfl⟩)) | (go_at_call 17; ((with_reducible refine Calls.mono (closed_border l q0 b off cap _ pb hbp (by have := lpb; simp; omega) d hd n v0 _ a hn (Has.lt) (by simp only [block_drew, block_at]) (by simp only [block_alloc', block_drew]; exact WBL.out) (reads_of (fun o => by simp [go_sem]) RD.out) HA.out HNE.out) ?_); rintro e wq ⟨hee, v', hbl', hO'⟩); obtain rfl : e = .panicked unsureV := hee.trans (by rw [if_neg (by simp [ha1])]); clear hee; have hO2 := Only.trans (a := w) (by (repeat' (first | exact Only.refl _ _ _ | (refine Only.alloc ?_ ?_ _) | (refine Only.plus ?_ ?_ _ _) | (refine Only.drew ?_) | (refine Only.put ?_ _ _) | (refine Only.set ?_ ?_ _) | assumption | omega | (simp; done) | (simp; omega)))) (hO'.mono (B' := w.heap.size) (by simp; omega)); suffices hdummy : wpAny Try.prog Region.Mode.text #[] (fun _ _ _ => True) 0 #[] { tmps := #[], defers := [] } wq from ⟨rfl, rfl, ⟨v', hbl'⟩, hO2⟩))
    all_goals
      trivial
end Go.Proofs.Ytbocjicihamahaa
