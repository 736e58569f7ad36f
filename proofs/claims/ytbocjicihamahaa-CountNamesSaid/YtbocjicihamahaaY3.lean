/- The search as it is begun, of the given program: what the closure does. -/
import Derived.Test.YtbocjicihamahaaY2
import Derived.Outline
set_option linter.unusedSimpArgs false
set_option linter.unusedVariables false
namespace Go.Proofs.Ytbocjicihamahaa
open Go.RowKit

theorem c00 : (0 : Int) = ((0 : Nat) : Int) := rfl
theorem apart_any (B pb pa cm cd cw ca b off cap : Nat) (L : Lies B pb pa cm cd cw ca b) (l : List Pl) (most d : Nat) (hd : d ≤ 24) (K : Nat) : ApartC B pb pa cm cd cw ca b off cap l most d K := by
  induction K with
  | zero => intro f c cc n fs v0 va w R _ _ _ _ h; cases h
  | succ K ih => exact apart_step B pb pa cm cd cw ca b off cap L l most d hd K ih
theorem apart_call (B pb pa cm cd cw ca b off cap : Nat) (L : Lies B pb pa cm cd cw ca b) (l : List Pl) (most d : Nat) (hd : d ≤ 24) (K : Nat) (x : Bx) (z : Int) (n : Nat) (fs : List Fd) (v0 va : Value) (w : World) (R : Nat × List Fd) (hn : n ≤ 16384) (S : Search w B pb pa cm cd cw ca b off cap l most d n fs v0 va) (h : apartS l most d K (x, z) 0 n fs = some R) :
    Calls Try.prog 22 #[.agg #[.complex .f64 x.1.1 x.1.2, .complex .f64 x.2.1 x.2.2, .int .i64 z], .int .i64 0, .pointer (some ⟨cm, 0, none⟩), .pointer (some ⟨pa, 0, none⟩), .pointer (some ⟨cd, 0, none⟩), .pointer (some ⟨cw, 0, none⟩), .pointer (some ⟨ca, 0, none⟩)] w
      (ApartPost B pb pa cm cd cw ca b off cap l most d w va R) := apart_any B pb pa cm cd cw ca b off cap L l most d hd K (x, z) 0 0 n fs v0 va w R c00 (by omega) hn S h
set_option maxRecDepth 100000 in
set_option maxHeartbeats 4000000 in
theorem fclo_ok (B pb pa cm cd cw ca cb b off cap : Nat) (L : Lies B pb pa cm cd cw ca b) (hcb : cb < B) (cb1 : cb ≠ pb) (cb2 : cb ≠ pa) (l : List Pl) (most d : Nat) (hd : d ≤ 24) (x : Bx) (m : Nat) (ks : List Int) (K : Nat) (R : Nat × List Fd) (v0 va : Value) (w : World)
    (S : Search w B pb pa cm cd cw ca b off cap l most d 0 [] v0 va) (hbx : w.heap[cb]? = some (.cells #[.complex .f64 x.1.1 x.1.2, .complex .f64 x.2.1 x.2.2] 29 (0, 0)))
    (h : overGo l d (borderS x) 4 0 0 [] = some (true, m, ks)) (hm : m ≤ 16384) (hA : apartS l most d K (x, roundS ks) 0 m [] = some R) :
    Calls Try.prog 25 #[.pointer (some ⟨ca, 0, none⟩), .pointer (some ⟨cb, 0, none⟩), .pointer (some ⟨cw, 0, none⟩), .pointer (some ⟨cd, 0, none⟩)] w (ApartPost B pb pa cm cd cw ca b off cap l most d w va R) := by
  have ht := S.top
  have lb1 := L.b1; have lb2 := L.b2; have lb3 := L.b3; have lb4 := L.b4; have lb5 := L.b5; have lb6 := L.b6; have lb7 := L.b7
  haveI : Has w pb := ⟨by omega⟩
  haveI : Has w pa := ⟨by omega⟩
  haveI : Has w cm := ⟨by omega⟩
  haveI : Has w cd := ⟨by omega⟩
  haveI : Has w cw := ⟨by omega⟩
  haveI : Has w ca := ⟨by omega⟩
  haveI : Has w cb := ⟨by omega⟩
  haveI : Has w b := ⟨by omega⟩
  have hcd := S.hd
  have hcw := S.hw
  have hca := S.ha
  have x0 := cell_of_block hbx 0
  have x1 := cell_of_block hbx 1
  simp at x0 x1
  have HS := hid S
  have HL := hid L
  have HA := hid hA
  have HO := hid h
  have lpb : pb < w.heap.size := by omega
  clear S L hA h hbx
  go_enter Try.func25, Try.ntmps25
  go_region_held3 (fun W => W.cell? ⟨ca, 0, none⟩ = some (.func (.func 22) #[] #[.pointer (some ⟨cm, 0, none⟩), .pointer (some ⟨pa, 0, none⟩), .pointer (some ⟨cd, 0, none⟩), .pointer (some ⟨cw, 0, none⟩), .pointer (some ⟨ca, 0, none⟩)]) ∧ W.cell? ⟨cb, 0, none⟩ = some (.complex .f64 x.1.1 x.1.2) ∧ W.cell? ⟨cb, 1, none⟩ = some (.complex .f64 x.2.1 x.2.2) ∧ W.cell? ⟨cw, 0, none⟩ = some (.pointer (some ⟨pb, 0, none⟩)) ∧ W.cell? ⟨cd, 0, none⟩ = some (.int .i64 d)) (refine ⟨?_, ?_, ?_, ?_, ?_⟩ <;> (first | (simp [go_sem, hca, hcw, hcd, x0, x1]; done) | assumption | (simp [go_sem, s0, s1, s2, s3, s4]; done) | trivial)) (first | (go_at_call 18; ((with_reducible refine (border_any x _).mono ?_); rintro e wq ⟨rfl, rfl⟩)) | (go_at_call 17; ((with_reducible refine Calls.mono (closed_border l x b off cap _ pb HL.out.l1 (by have := lpb; simp; omega) d hd 0 v0 _ (true, m, ks) (by omega) (Has.lt) (by simp only [block_drew, block_at]) (by simp only [block_alloc', block_drew]; exact HS.out.blk) (reads_of (fun o => by simp [go_sem]) HS.out.rd) HO.out (overGo_ne (m := 4) (by decide) HO.out)) ?_); rintro e wq ⟨hee, v', hbl', hO'⟩); obtain rfl : e = .returned (.int .i64 (roundS ks)) := hee; have s0 : wq.cell? ⟨ca, 0, none⟩ = some (.func (.func 22) #[] #[.pointer (some ⟨cm, 0, none⟩), .pointer (some ⟨pa, 0, none⟩), .pointer (some ⟨cd, 0, none⟩), .pointer (some ⟨cw, 0, none⟩), .pointer (some ⟨ca, 0, none⟩)]) := (hO'.cell (q := ⟨ca, 0, none⟩) Has.lt HL.out.a1).trans (by simp [go_sem, hca]); have s1 : wq.cell? ⟨cb, 0, none⟩ = some (.complex .f64 x.1.1 x.1.2) := (hO'.cell (q := ⟨cb, 0, none⟩) Has.lt cb1).trans (by simp [go_sem, x0]); have s2 : wq.cell? ⟨cb, 1, none⟩ = some (.complex .f64 x.2.1 x.2.2) := (hO'.cell (q := ⟨cb, 1, none⟩) Has.lt cb1).trans (by simp [go_sem, x1]); have s3 : wq.cell? ⟨cw, 0, none⟩ = some (.pointer (some ⟨pb, 0, none⟩)) := (hO'.cell (q := ⟨cw, 0, none⟩) Has.lt HL.out.w1).trans (by simp [go_sem, hcw]); have s4 : wq.cell? ⟨cd, 0, none⟩ = some (.int .i64 d) := (hO'.cell (q := ⟨cd, 0, none⟩) Has.lt HL.out.d1).trans (by simp [go_sem, hcd]); have hOw := Only.trans (a := w) (by (repeat' (first | exact Only.refl _ _ _ | (refine Only.alloc ?_ ?_ _) | (refine Only.plus ?_ ?_ _ _) | (refine Only.drew ?_) | (refine Only.put ?_ _ _) | (refine Only.set ?_ ?_ _) | assumption | omega | (simp; done) | (simp; omega)))) (hO'.mono (B' := w.heap.size) (by simp; omega)); have S1 := HS.out.keep HL.out hOw hbl'; have HS1 := hid S1; have HOW := hid hOw; clear S1 hOw hO' hbl') | (go_at_call 22; ((with_reducible refine Calls.mono (apart_call B pb pa cm cd cw ca b off cap HL.out l most d hd K x (roundS ks) m [] v' va _ R hm HS1.out HA.out) ?_); rintro e wq2 ⟨rfl, v3, va3, hS3, hK3⟩); have hK4 := (Kept2.of_only HOW.out).trans hK3; have t0 := hS3.ha; have t3 := hS3.hw; have t4 := hS3.hd; have t1 : wq2.cell? ⟨cb, 0, none⟩ = some (.complex .f64 x.1.1 x.1.2) := (hK4.cell (q := ⟨cb, 0, none⟩) Has.lt cb1 cb2 (fun e => absurd (HS.out.own.lt _ e.symm).1 (by show ¬ B ≤ cb; omega))).trans x0; have t2 : wq2.cell? ⟨cb, 1, none⟩ = some (.complex .f64 x.2.1 x.2.2) := (hK4.cell (q := ⟨cb, 1, none⟩) Has.lt cb1 cb2 (fun e => absurd (HS.out.own.lt _ e.symm).1 (by show ¬ B ≤ cb; omega))).trans x1; have HP := hid (show ∃ v0' va', Search wq2 B pb pa cm cd cw ca b off cap l most d R.1 R.2 v0' va' ∧ Kept2 w pb pa va wq2 va' from ⟨v3, va3, hS3, hK4⟩); clear hS3 hK3 hK4))
  go_wp2_with fail
  go_end0
  exact ⟨rfl, HP.out⟩
end Go.Proofs.Ytbocjicihamahaa
