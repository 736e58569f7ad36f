/- Zeros in a box, of the given program: what the call does. -/
import Derived.Test.YtbocjicihamahaaL
set_option linter.unusedSimpArgs false
set_option linter.unusedVariables false
namespace Go.Proofs.Ytbocjicihamahaa
open Go.RowKit

/-- The border of a box. -/
def borderS (x : Bx) : List Pl := [x.1, (x.2.1, x.1.2), x.2, (x.1.1, x.2.2)]
def cellsOf (l : List Pl) : Array Value := (l.map fun p => Value.complex .f64 p.1 p.2).toArray
theorem border_any (x : Bx) (w : World) :
    Calls Try.prog 18 #[.agg #[.complex .f64 x.1.1 x.1.2, .complex .f64 x.2.1 x.2.2]] w fun e w' => e = .returned (.slice (some ⟨w.heap.size + 1, 0, none⟩) 4 4) ∧
      w' = (w.alloc (.cells #[.complex .f64 x.1.1 x.1.2, .complex .f64 x.2.1 x.2.2] 29)).alloc (.cells #[.complex .f64 x.1.1 x.1.2, .complex .f64 x.2.1 x.1.2, .complex .f64 x.2.1 x.2.2, .complex .f64 x.1.1 x.2.2] 27) := by
  go_enter Try.func18, Try.ntmps18
  go_wp2_with fail
  go_ret
  exact ⟨rfl, rfl⟩
theorem reads_border (x : Bx) (w : World) (g : Nat) (h : w.heap[g]? = some (.cells #[.complex .f64 x.1.1 x.1.2, .complex .f64 x.2.1 x.1.2, .complex .f64 x.2.1 x.2.2, .complex .f64 x.1.1 x.2.2] 27 (0, 0))) : reads w g 0 (borderS x) := by
  intro i hi
  rw [cell_of_block h, Nat.zero_add]
  have : i = 0 ∨ i = 1 ∨ i = 2 ∨ i = 3 := by
    have : (borderS x).length = 4 := rfl
    omega
  rcases this with rfl | rfl | rfl | rfl <;> rfl
theorem closed_border (l : List Pl) (x : Bx) (b off cap pa pb : Nat) (hbp : b ≠ pb) (hpp : pa ≠ pb) (d : Nat) (hd : d ≤ 24) (n : Nat) (v0 : Value) (w : World) (r : Bool × Nat × List Int)
    (hn : n ≤ 16384) (hb : b < w.heap.size) (hpa : w.heap[pa]? = some (.cells #[.complex .f64 x.1.1 x.1.2, .complex .f64 x.2.1 x.1.2, .complex .f64 x.2.1 x.2.2, .complex .f64 x.1.1 x.2.2] 27 (0, 0)))
    (hblk : w.heap[pb]? = some (.cells #[.slice (some ⟨b, off, none⟩) l.length cap, .int .i64 n, v0] 48 (0, 0))) (hrd : reads w b off l) (h : overGo l d (borderS x) 4 0 n [] = some r)
    (hne : r.1 = true → 0 < r.2.2.length ∧ ∀ k ∈ r.2.2, 0 ≤ k ∧ k ≤ 3) :
    Calls Try.prog 17 #[.pointer (some ⟨pb, 0, none⟩), .slice (some ⟨pa, 0, none⟩) 4 4, .int .i64 d] w fun e w' =>
      e = (if r.1 = true then .returned (.int .i64 ((turnsS r.2.2 (r.2.2.getLastD 0) 0).tdiv 4)) else .panicked unsureV) ∧ ∃ v', w'.heap[pb]? = some (.cells #[.slice (some ⟨b, off, none⟩) l.length cap, .int .i64 r.2.1, v'] 48 (0, 0)) ∧ Only w.heap.size pb w w' :=
  closed_any l (borderS x) b off cap pa 0 4 pb hbp hpp d hd (Nat.lt_of_lt_of_eq (by decide : 0 < 4) rfl) (Nat.le_trans (Nat.le_of_eq (rfl : _ = 4)) (by decide)) n v0 w r hn hb (lt_of_block hpa) hblk hrd (reads_border x w pa hpa) h hne
set_option maxRecDepth 100000 in
set_option maxHeartbeats 2000000 in
theorem zclo_any (l : List Pl) (x : Bx) (b off cap cw cb cd cn pb : Nat) (hbp : b ≠ pb) (hcn : cn ≠ pb) (hwp : cw ≠ pb) (hbp2 : cb ≠ pb) (hdp : cd ≠ pb) (n1 : cw ≠ cn) (n2 : cb ≠ cn) (n3 : cd ≠ cn) (d : Nat) (hd : d ≤ 24) (n : Nat) (v0 old : Value) (w : World) (r : Bool × Nat × List Int)
    (hn : n ≤ 16384) (hb : b < w.heap.size) (hblk : w.heap[pb]? = some (.cells #[.slice (some ⟨b, off, none⟩) l.length cap, .int .i64 n, v0] 48 (0, 0))) (hrd : reads w b off l)
    (hcw : w.cell? ⟨cw, 0, none⟩ = some (.pointer (some ⟨pb, 0, none⟩))) (hcb : w.heap[cb]? = some (.cells #[.complex .f64 x.1.1 x.1.2, .complex .f64 x.2.1 x.2.2] 29 (0, 0)))
    (hcd : w.cell? ⟨cd, 0, none⟩ = some (.int .i64 d)) (hcnn : w.heap[cn]? = some (.cells #[old] 3 (0, 0)))
    (h : overGo l d (borderS x) 4 0 n [] = some r)
    (hne : r.1 = true → 0 < r.2.2.length ∧ ∀ k ∈ r.2.2, 0 ≤ k ∧ k ≤ 3) :
    Calls Try.prog 16 #[.pointer (some ⟨cw, 0, none⟩), .pointer (some ⟨cb, 0, none⟩), .pointer (some ⟨cd, 0, none⟩), .pointer (some ⟨cn, 0, none⟩)] w fun e w' =>
      e = (if r.1 = true then .returned (.tuple #[]) else .panicked unsureV) ∧ ∃ v' w1, w1.heap[pb]? = some (.cells #[.slice (some ⟨b, off, none⟩) l.length cap, .int .i64 r.2.1, v'] 48 (0, 0)) ∧ Only w.heap.size pb w w1 ∧
        w' = (if r.1 = true then w1.setCell ⟨cn, 0, none⟩ (.int .i64 ((turnsS r.2.2 (r.2.2.getLastD 0) 0).tdiv 4)) else w1) := by
  have hp := lt_of_block hblk
  have cb0 := cell_of_block hcb 0
  have cb1 := cell_of_block hcb 1
  simp at cb0 cb1
  haveI : Has w pb := ⟨hp⟩
  haveI : Has w b := ⟨hb⟩
  haveI : Has w cw := ⟨World.block_lt_of_cell? _ _ hcw⟩
  haveI : Has w cb := ⟨lt_of_block hcb⟩
  haveI : Has w cd := ⟨World.block_lt_of_cell? _ _ hcd⟩
  haveI : Has w cn := ⟨lt_of_block hcnn⟩
  have HP := hid hp
  have H := hid h
  have RD := hid hrd
  have HBP := hid hbp
  have HCN := hid hcn
  have HWP := hid hwp
  have HBP2 := hid hbp2
  have HDP := hid hdp
  have HNE := hid hne
  have BLK := hid hblk
  have CNN := hid hcnn
  clear h hblk hrd hbp hcn hne hcnn hcb hwp hbp2 hdp
  cases hr : r.1
  case true =>
    go_enter Try.func16, Try.ntmps16
    go_region_held3 (fun W => W.cell? ⟨cw, 0, none⟩ = some (.pointer (some ⟨pb, 0, none⟩)) ∧ W.cell? ⟨cb, 0, none⟩ = some (.complex .f64 x.1.1 x.1.2) ∧ W.cell? ⟨cb, 1, none⟩ = some (.complex .f64 x.2.1 x.2.2) ∧ W.cell? ⟨cd, 0, none⟩ = some (.int .i64 d)) (refine ⟨?_, ?_, ?_, ?_⟩ <;> (first | (simp [go_sem, hcw, cb0, cb1, hcd]; done) | assumption | (simp [go_sem, q0, q1, q2, q3, n1.symm, n2.symm, n3.symm, n1, n2, n3]; done))) (first | (go_at_call 18; ((with_reducible refine (border_any x _).mono ?_); rintro e wq ⟨rfl, rfl⟩)) | (go_at_call 17; ((with_reducible refine Calls.mono (closed_border l x b off cap _ pb HBP.out (by have := HP.out; omega) d hd n v0 _ r hn (Has.lt) (by simp only [block_drew, block_at]) (by simp only [block_alloc', block_drew]; exact BLK.out) (reads_of (fun o => by simp [go_sem]) RD.out) H.out HNE.out) ?_); rintro e wq ⟨hee, v', hbl', hO'⟩); obtain rfl : e = .returned (.int .i64 ((turnsS r.2.2 (r.2.2.getLastD 0) 0).tdiv 4)) := hee.trans (by rw [if_pos hr]); have q0 : wq.cell? ⟨cw, 0, none⟩ = some (.pointer (some ⟨pb, 0, none⟩)) := (hO'.cell (q := ⟨cw, 0, none⟩) Has.lt HWP.out).trans (by simp [go_sem, hcw]); have q1 : wq.cell? ⟨cb, 0, none⟩ = some (.complex .f64 x.1.1 x.1.2) := (hO'.cell (q := ⟨cb, 0, none⟩) Has.lt HBP2.out).trans (by simp [go_sem, cb0]); have q2 : wq.cell? ⟨cb, 1, none⟩ = some (.complex .f64 x.2.1 x.2.2) := (hO'.cell (q := ⟨cb, 1, none⟩) Has.lt HBP2.out).trans (by simp [go_sem, cb1]); have q3 : wq.cell? ⟨cd, 0, none⟩ = some (.int .i64 d) := (hO'.cell (q := ⟨cd, 0, none⟩) Has.lt HDP.out).trans (by simp [go_sem, hcd]); have bcn : wq.heap[cn]? = some (.cells #[old] 3 (0, 0)) := (hO'.block cn Has.lt HCN.out).trans (by simp only [block_alloc', block_drew]; exact CNN.out); have ccn := cell_of_block bcn 0; have fcn := free_of_block bcn 0; simp at ccn; haveI : Has wq cn := ⟨lt_of_block bcn⟩; have BCN := hid bcn; clear bcn))
    have hO2 : Only w.heap.size pb w wq := by
      refine Only.trans ?_ (hO'.mono ?_)
      · (repeat' (first | exact Only.refl _ _ _ | (refine Only.alloc ?_ ?_ _) | (refine Only.plus ?_ ?_ _ _) | (refine Only.drew ?_) | (refine Only.put ?_ _ _) | (refine Only.set ?_ ?_ _) | assumption | omega | (simp; done) | (simp; omega)))
      · simp; omega
    go_end0
    exact ⟨rfl, v', wq, hbl', hO2, by simp⟩
  case false =>
    go_enter Try.func16, Try.ntmps16
    go_region_with (first | (go_at_call 18; ((with_reducible refine (border_any x _).mono ?_); rintro e wq ⟨rfl, rfl⟩)) | (go_at_call 17; ((with_reducible refine Calls.mono (closed_border l x b off cap _ pb HBP.out (by have := HP.out; omega) d hd n v0 _ r hn (Has.lt) (by simp only [block_drew, block_at]) (by simp only [block_alloc', block_drew]; exact BLK.out) (reads_of (fun o => by simp [go_sem]) RD.out) H.out HNE.out) ?_); rintro e wq ⟨hee, v', hbl', hO'⟩); obtain rfl : e = .panicked unsureV := hee.trans (by rw [if_neg (by simp [hr])]); clear hee; have hO2 := Only.trans (a := w) (by (repeat' (first | exact Only.refl _ _ _ | (refine Only.alloc ?_ ?_ _) | (refine Only.plus ?_ ?_ _ _) | (refine Only.drew ?_) | (refine Only.put ?_ _ _) | (refine Only.set ?_ ?_ _) | assumption | omega | (simp; done) | (simp; omega)))) (hO'.mono (B' := w.heap.size) (by simp; omega)); suffices hdummy : wpAny Try.prog Region.Mode.text #[] (fun _ _ _ => True) 0 #[] { tmps := #[], defers := [] } wq from ⟨rfl, rfl, ⟨v', hbl'⟩, hO2⟩))
    all_goals
      trivial
end Go.Proofs.Ytbocjicihamahaa
